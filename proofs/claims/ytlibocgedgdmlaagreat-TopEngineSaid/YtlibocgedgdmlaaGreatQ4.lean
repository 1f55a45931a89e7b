/- Part of the proof of topEngine_holds: the whole is true of every input. Conditions: none. -/
import Derived.Test.YtlibocgedgdmlaaGreatQ3
set_option linter.all false
section
namespace Go.Vc
abbrev Nm (_:String) (α:Type):=α
noncomputable def K0 {α:Type} (p:Prop) (a b:α):α:= @ite α p (Classical.propDecidable p) a b
noncomputable def bo (p:Prop):Bool:= @decide p (Classical.propDecidable p)
def gt {α:Type} [Inhabited α] (l:List α) (i:Int):α:=l.getD i.toNat default
def fQ:(k k':IntKind)->Option (PLift (k=k'))
 | .i8,.i8=>some ⟨rfl⟩
 | .u8,.u8=>some ⟨rfl⟩
 | .i16,.i16=>some ⟨rfl⟩
 | .u16,.u16=>some ⟨rfl⟩
 | .i32,.i32=>some ⟨rfl⟩
 | .u32,.u32=>some ⟨rfl⟩
 | .i64,.i64=>some ⟨rfl⟩
 | .u64,.u64=>some ⟨rfl⟩
 | _,_=>none
mutual
def Om:(a b:Ty)->Option (PLift (a=b))
 | .int k,.int k'=>(match fQ k k' with | some ⟨h⟩=>some ⟨by rw [h]⟩ | none=>none)
 | .str,.str=>some ⟨rfl⟩
 | .bool,.bool=>some ⟨rfl⟩
 | .st a,.st b=>(match tQ a b with | some ⟨h⟩=>some ⟨by rw [h]⟩ | none=>none)
 | .sl a,.sl b=>(match Om a b with | some ⟨h⟩=>some ⟨by rw [h]⟩ | none=>none)
 | _,_=>none
def tQ:(a b:KJ)->Option (PLift (a=b))
 | .nil,.nil=>some ⟨rfl⟩
 | .cons a xP,.cons b bs=>(match Om a b,tQ xP bs with | some ⟨h⟩,some ⟨g⟩=>some ⟨by rw [h,g]⟩ | _,_=>none)
 | _,_=>none
end
mutual
def zT:(t:Ty)->T t
 | .int _=>(0:Int)
 | .str=>([]:List UInt8)
 | .bool=>false
 | .st fs=>w9 fs
 | .sl e=>([]:List (T e))
def w9:(ts:KJ)->Ts ts
 | .nil=>()
 | .cons t .nil=>zT t
 | .cons t (.cons u ts)=>(zT t,w9 (.cons u ts))
end
inductive TV where
 | Ci
 | tt
 | ff
 | bb (b:Bool)
 | pr (p:Prop)
 | gd (p:Prop)
 | int (k:IntKind) (n:Int)
 | byte (b:UInt8)
 | str (s:List UInt8)
 | Bp
 | H8
 | H9
 | MN
 | AM
 | ptr (l off:Nat)
 | H7 (l:Nat) (i:Int) (fo:Nat)
 | Fm (cs:List TV)
 | Em (t:Ty) (l:List (T t))
 | HW (l:Nat)
 | sl (l:Nat) (off len:Int)
 | agg (cs:List TV)
 | DG (cs:List TV)
 | fn (f:Nat) (cap:List TV)
 | WL (l:Nat) (i:Int)
 | FN (l:Nat) (i j:Int) (k fo:Nat)
 | ifs (t l:Nat)
 | Zs (v:Value)
 deriving Inhabited
inductive B4 where
 | dead
 | cells (k:Nat) (cs:List TV)
 | row (t:Ty) (l:List (T t))
 | ED (t:Ty) (l:List (List (T t)))
 deriving Inhabited
abbrev RF:=List (Nat×List (Nat×Bool)×Prop×TV)
def BE {α:Type}:List (Nat×α)->Nat->Option α
 | [],_=>none
 | (k,x)::l,n=>match Nat.beq k n with | true=>some x | false=>BE l n
def NK:List (Nat×Bool)->List (Nat×Bool)->Bool
 | [],[]=>true
 | (a,true)::p,(b,true)::q=>match Nat.beq a b with | true=>NK p q | false=>false
 | (a,false)::p,(b,false)::q=>match Nat.beq a b with | true=>NK p q | false=>false
 | _,_=>false
def gY (gs:List (Nat×Bool)):List (Nat×Bool)->Bool
 | []=>match gs with | []=>true | _::_=>false
 | q::p=>match NK gs (q::p) with | true=>true | false=>gY gs p
def vr:AA->Option TV
 | .bool true=>some .tt
 | .bool false=>some .ff
 | .int k n=>some (.int k n)
 | .str s=>some (.str s)
 | .Bp=>some .Bp
 | .H8=>some .H8
 | .H9=>some .H9
 | .MN=>some .MN
 | .AM=>some .AM
 | .fn (.func f) [] []=>some (.fn f [])
 | _=>none
def o9:List AA->Option (List TV)
 | []=>some []
 | x::xs=>match vr x,o9 xs with | some y,some ys=>some (y::ys) | _,_=>none
def wT:AA->Option TV
 | .agg cs=>(match o9 cs with | some ys=>some (.agg ys) | none=>none)
 | x=>vr x
def OS (F:RF) (path:List (Nat×Bool)):AL->Option TV
 | .c x=>wT x
 | .t n=>match BE F n with
  | some (gs,_,x)=>(match gY gs path with | true=>some x | false=>none)
  | none=>none
def VZ (F:RF) (path:List (Nat×Bool)):List AL->Option (List TV)
 | []=>some []
 | x::xs=>match OS F path x,VZ F path xs with | some y,some ys=>some (y::ys) | _,_=>none
def Of:List Prop->Prop->Prop
 | [],q=>q
 | p::ps,q=>p/\Of ps q
def N6 (c:Prop):List Prop->List Prop
 | []=>[]
 | p::ps=>(c->p)::N6 c ps
mutual
def Fq:(t:Ty)->T t->List TV
 | .int k,n=>[.int k n]
 | .str,s=>[.str s]
 | .bool,b=>[.bb b]
 | .st fs,x=>MA fs x
 | .sl e,l=>[.Em e l]
def MA:(ts:KJ)->Ts ts->List TV
 | .nil,_=>[]
 | .cons t .nil,x=>Fq t x
 | .cons t (.cons u ts),x=>Fq t x.1++MA (.cons u ts) x.2
end
def Zh:(t:Ty)->T t->TV
 | .int k,n=>.int k n
 | .str,s=>.str s
 | .bool,b=>.bb b
 | .st fs,x=>.agg (MA fs x)
 | .sl e,l=>.Em e l
def eH:TV->Option (IntKind×Int)
 | .int k n=>some (k,n)
 | .byte b=>some (.u8,(b.toNat:Int))
 | _=>none
def mS:TV->Option Prop
 | .pr p=>some p
 | .gd p=>some p
 | .bb b=>some (b=true)
 | .tt=>some True
 | .ff=>some False
 | _=>none
noncomputable def um:TV->Option Bool
 | .pr p=>some (bo p)
 | .bb b=>some b
 | .tt=>some true
 | .ff=>some false
 | _=>none
def qq (k:IntKind):List TV->Option (Int×List TV)
 | x::r=>(match eH x with | some (k',n)=>(match fQ k k' with | some _=>some (n,r) | none=>none) | none=>none)
 | []=>none
def ew:List TV->Option (List UInt8×List TV)
 | .str s::r=>some (s,r)
 | _=>none
noncomputable def T4:List TV->Option (Bool×List TV)
 | x::r=>(match um x with | some b=>some (b,r) | none=>none)
 | []=>none
def nN (e:Ty):List TV->Option (List (T e)×List TV)
 | .Em e' l::r=>(match Om e' e with | some ⟨h⟩=>some ((h▸l:List (T e)),r) | none=>none)
 | _=>none
mutual
noncomputable def UP:(t:Ty)->List TV->Option (T t×List TV)
 | .int k,cs=>qq k cs
 | .str,cs=>ew cs
 | .bool,cs=>T4 cs
 | .st fs,cs=>UQ fs cs
 | .sl e,cs=>nN e cs
noncomputable def UQ:(ts:KJ)->List TV->Option (Ts ts×List TV)
 | .nil,cs=>some ((),cs)
 | .cons t .nil,cs=>UP t cs
 | .cons t (.cons u ts),cs=>(match UP t cs with
  | some (x,r)=>(match UQ (.cons u ts) r with | some (y,r')=>some ((x,y),r') | none=>none)
  | none=>none)
end
noncomputable def aW (t:Ty):Nat->List TV->Option (List (T t))
 | 0,[]=>some []
 | n+1,cs=>(match UP t cs with
  | some (x,r)=>(match aW t n r with | some xs=>some (x::xs) | none=>none)
  | none=>none)
 | 0,_::_=>none
def Bq:List B4->Nat->Option B4
 | [],_=>none
 | o::_,0=>some o
 | _::S,l+1=>Bq S l
def Fj:List B4->Nat->B4->List B4
 | [],_,_=>[]
 | _::S,0,o=>o::S
 | a::S,l+1,o=>a::Fj S l o
def UR (TS:List B4) (t:Ty):TV->Option (List (T t))
 | .Em e l=>(match Om e t with | some ⟨h⟩=>some (h▸l) | none=>none)
 | .AM=>some []
 | .HW l=>(match Bq TS l with
  | some (.row e ls)=>(match Om e t with | some ⟨h⟩=>some (h▸ls) | none=>none)
  | _=>none)
 | .sl l off len=>(match Bq TS l with
  | some (.row e ls)=>(match Om e t with | some ⟨h⟩=>some ((h▸ls:List (T t)).drop off.toNat |>.take len.toNat) | none=>none)
  | _=>none)
 | _=>none
def aQ (k:IntKind) (x:TV):Option Int:=(match eH x with | some (k',n)=>(match fQ k k' with | some _=>some n | none=>none) | none=>none)
def aR:TV->Option (List UInt8) | .str s=>some s | _=>none
noncomputable def aT (fs:KJ):TV->Option (Ts fs)
 | .agg cs=>(match UQ fs cs with | some (x,[])=>some x | _=>none)
 | _=>none
noncomputable def PV (TS:List B4):(t:Ty)->TV->Option (T t)
 | .int k,x=>aQ k x
 | .str,x=>aR x
 | .bool,x=>um x
 | .st fs,x=>aT fs x
 | .sl e,x=>UR TS e x
def Oc:TV->Option (List TV)
 | .agg cs=>some cs
 | .DG _=>none
 | .Ci=>none
 | .gd _=>none
 | .WL _ _=>none
 | .FN _ _ _ _ _=>none
 | .ifs _ _=>none
 | .Zs _=>none
 | x=>some [x]
def IC {α:Type}:Nat->List α->Option (List α)
 | 0,_=>some []
 | n+1,x::xs=>(match IC n xs with | some ys=>some (x::ys) | none=>none)
 | _+1,[]=>none
def Ms {α:Type}:List α->List α->List α
 | [],_=>[]
 | cs,[]=>cs
 | _::cs,y::ys=>y::Ms cs ys
def J6 {α:Type}:List α->Nat->List α->List α
 | cs,0,ys=>Ms cs ys
 | [],_+1,_=>[]
 | c::cs,n+1,ys=>c::J6 cs n ys
def lE (ag:Bool) (xs:List TV):Option TV:=
 match ag with | true=>some (.agg xs) | false=>(match xs with | [x]=>some x | _=>none)
def Mb {α:Type}:List α->Nat->Bool
 | [],0=>true
 | _::l,n+1=>Mb l n
 | _,_=>false
def sizeLe:Nat->List TV->Bool
 | 0,_=>true
 | n+1,_::l=>sizeLe n l
 | _+1,[]=>false
def W9 (F:RF) (path:List (Nat×Bool)) (cs:List TV):List (Nat×Nat×AL)->Option (List TV)
 | []=>some cs
 | (off,n,x)::rest=>(match OS F path x with
  | some x=>(match Oc x with
   | some ys=>(match Mb ys n,sizeLe (off+n) cs with
    | true,true=>W9 F path (J6 cs off ys) rest
    | _,_=>none)
   | none=>none)
  | none=>none)
def lD (k:IntKind) (n:Int):List Prop×TV:=
 match k with | .i64=>([AH n],.int .i64 n) | k=>([],.int k (k.wrap n))
def T8 (op:BinOp) (k:IntKind) (a b:Int):Option (List Prop×TV):=
 match op with
 | .add=>some (lD k (a+b))
 | .sub=>some (lD k (a-b))
 | .mul=>some (lD k (a*b))
 | .quo=>some ((b≠0)::(lD k (a.tdiv b)).1,(lD k (a.tdiv b)).2)
 | .rem=>some ([b≠0],.int k (a.tmod b))
 | .eql=>some ([],.pr (a=b))
 | .neq=>some ([],.pr (a≠b))
 | .lss=>some ([],.pr (a<b))
 | .leq=>some ([],.pr (a<=b))
 | .gtr=>some ([],.pr (b<a))
 | .geq=>some ([],.pr (b<=a))
 | .and=>some ([],.int k (k.wrap ((BitVec.ofInt k.bits a) &&& (BitVec.ofInt k.bits b)).toNat))
 | .or=>some ([],.int k (k.wrap ((BitVec.ofInt k.bits a) ||| (BitVec.ofInt k.bits b)).toNat))
 | .xor=>some ([],.int k (k.wrap ((BitVec.ofInt k.bits a) ^^^ (BitVec.ofInt k.bits b)).toNat))
 | _=>none
def Zc (op:BinOp) (a b:List UInt8):Option (List Prop×TV):=
 match op with
 | .add=>some ([AH (a.length+b.length)],.str (a++b))
 | .eql=>some ([],.pr (a=b))
 | .neq=>some ([],.pr (a≠b))
 | .lss=>some ([],.pr (Op.bytesLess a b=true))
 | .leq=>some ([],.pr (Op.bytesLess a b=true\/a=b))
 | .gtr=>some ([],.pr (¬(Op.bytesLess a b=true\/a=b)))
 | .geq=>some ([],.pr (¬Op.bytesLess a b=true))
 | _=>none
def jy:TV->Option Prop
 | .pr p=>some p
 | .bb b=>some (b=true)
 | .tt=>some True
 | .ff=>some False
 | _=>none
def N_ (k:FK) (x y:TV):Option Prop:=
 match k with
 | .int=>(match eH x,eH y with
  | some (k,a),some (k',b)=>(match fQ k k' with | some _=>some (a=b) | none=>none)
  | _,_=>none)
 | .str=>(match decAS0 x,decAS0 y with | some a,some b=>some (a=b) | _,_=>none)
 | .bool=>(match jy x,jy y with | some a,some b=>some (a↔b) | _,_=>none)
where decAS0:TV->Option (List UInt8) | .str s=>some s | _=>none
def Fp:List FK->List TV->List TV->Option Prop
 | [],[],[]=>some True
 | [k],[x],[y]=>N_ k x y
 | k::ks,x::xs,y::ys=>(match N_ k x y,Fp ks xs ys with | some p,some q=>some (p/\q) | _,_=>none)
 | _,_,_=>none
def kM (op:BinOp) (p:Prop):Option (List Prop×TV):=
 match op with | .eql=>some ([],.pr p) | .neq=>some ([],.pr (¬p)) | _=>none
def j5 (op:BinOp) (k:IntKind) (a:Int) (k':IntKind) (b:Int):Option (List Prop×TV):=
 match op with
 | .shl=>some ((0<=b)::(lD k (a*2 ^ (min b.toNat k.bits))).1,(lD k (a*2 ^ (min b.toNat k.bits))).2)
 | .shr=>some ([0<=b],.int k (a.fdiv (2 ^ (min b.toNat k.bits))))
 | op=>(match fQ k k' with | some _=>T8 op k a b | none=>none)
def tc (q:jm) (op:BinOp) (x y:TV):Option (List Prop×TV):=
 match x,y with
 | .byte a,.byte b=>(match op with
  | .eql=>some ([],.pr (a=b))
  | .neq=>some ([],.pr (a≠b))
  | op=>j5 op .u8 (a.toNat:Int) .u8 (b.toNat:Int))
 | .int k a,.int k' b=>j5 op k a k' b
 | .byte a,.int k' b=>j5 op .u8 (a.toNat:Int) k' b
 | .int k a,.byte b=>j5 op k a .u8 (b.toNat:Int)
 | .str a,.str b=>Zc op a b
 | .agg xs,.agg ys=>(match q with | .agg ks=>(match Fp ks xs ys with | some p=>kM op p | none=>none) | _=>none)
 | .Bp,.Bp=>(match q with | .ptr=>kM op True | _=>none)
 | .Bp,.ptr _ _=>(match q with | .ptr=>kM op False | _=>none)
 | .Bp,.H7 _ _ _=>(match q with | .ptr=>kM op False | _=>none)
 | .Bp,.Fm _=>(match q with | .ptr=>kM op False | _=>none)
 | .ptr _ _,.Bp=>(match q with | .ptr=>kM op False | _=>none)
 | .H7 _ _ _,.Bp=>(match q with | .ptr=>kM op False | _=>none)
 | .Fm _,.Bp=>(match q with | .ptr=>kM op False | _=>none)
 | .H8,.H8=>(match q with | .func=>kM op True | _=>none)
 | .fn _ _,.H8=>(match q with | .func=>kM op False | _=>none)
 | x,y=>(match q with
  | .bool=>(match jy x,jy y with | some a,some b=>kM op (a↔b) | _,_=>none)
  | _=>none)
def pX:Value->Value->Bool
 | .pointer (some ⟨b,o,none⟩),.pointer (some ⟨b',o',none⟩)=>Nat.beq b b' && Nat.beq o o'
 | _,_=>false
mutual
def TF:TV->TV->Bool
 | .HW l,.HW l'=>Nat.beq l l'
 | .ptr l o,.ptr l' o'=>Nat.beq l l' && Nat.beq o o'
 | .Bp,.Bp=>true
 | .H8,.H8=>true
 | .H9,.H9=>true
 | .MN,.MN=>true
 | .AM,.AM=>true
 | .tt,.tt=>true
 | .ff,.ff=>true
 | .fn f xs,.fn g ys=>Nat.beq f g && Q7 xs ys
 | .agg xs,.agg ys=>Q7 xs ys
 | .DG xs,.DG ys=>Q7 xs ys
 | .Fm xs,.Fm ys=>Q7 xs ys
 | .Zs v,.Zs u=>pX v u
 | _,_=>false
def Q7:List TV->List TV->Bool
 | [],[]=>true
 | x::xs,y::ys=>TF x y && Q7 xs ys
 | _,_=>false
end
noncomputable def jJ (p:Prop) (x y:TV):Option TV:=
 match x,y with
 | .tt,.ff=>some (.pr p)
 | .ff,.tt=>some (.pr (¬p))
 | .tt,.tt=>some .tt
 | .ff,.ff=>some .ff
 | .int k a,.int k' b=>(match fQ k k' with | some _=>some (.int k (K0 p a b)) | none=>none)
 | .byte a,.byte b=>some (.byte (K0 p a b))
 | .int .u8 a,.byte b=>some (.int .u8 (K0 p a (b.toNat:Int)))
 | .byte a,.int .u8 b=>some (.int .u8 (K0 p (a.toNat:Int) b))
 | .str a,.str b=>some (.str (K0 p a b))
 | .tt,y=>(match jy y with | some b=>some (.pr (p\/b)) | none=>none)
 | x,.ff=>(match jy x with | some a=>some (.pr (p/\a)) | none=>none)
 | .ff,y=>(match jy y with | some b=>some (.pr (¬p/\b)) | none=>none)
 | x,y=>(match jy x,jy y with
  | some a,some b=>some (.pr ((p/\a)\/(¬p/\b)))
  | _,_=>(match TF x y with | true=>some x | false=>none))
noncomputable def VS (p:Prop):List TV->List TV->Option (List TV)
 | [],[]=>some []
 | x::xs,y::ys=>(match jJ p x y,VS p xs ys with | some z,some zs=>some (z::zs) | _,_=>none)
 | _,_=>none
noncomputable def PC (p:Prop) (x y:TV):Option TV:=
 match x,y with
 | .agg xs,.agg ys=>(match TF (.agg xs) (.agg ys) with | true=>some (.agg xs) | false=>(match VS p xs ys with | some zs=>some (.agg zs) | none=>none))
 | x,y=>jJ p x y
noncomputable def cP (k:Nat) (i:Int) (ag:Bool) (cs:List TV):Nat->Nat->Option TV
 | 0,_=>none
 | n+1,j=>(match IC k (cs.drop (j*k)) with
  | some xs=>(match lE ag xs with
   | some x=>(match n with
    | 0=>some x
    | n+1=>(match cP k i ag cs (n+1) (j+1) with | some y=>PC (i=(j:Int)) x y | none=>none))
   | none=>none)
  | none=>none)
def sj (k:IntKind) (x:TV):Option (List Prop×TV):=
 match x with
 | .int _ n=>some (lD k n)
 | .byte b=>(match k with
  | .i64=>some ([],.int .i64 (b.toNat:Int))
  | .u8=>some ([],.byte b)
  | k=>some (lD k (b.toNat:Int)))
 | _=>none
def rW (F:RF) (path:List (Nat×Bool)):Option AL->Option Int
 | none=>some 0
 | some r=>(match OS F path r with | some x=>(match eH x with | some (_,n)=>some n | none=>none) | none=>none)
def qK (F:RF) (path:List (Nat×Bool)) (n:Int):Option AL->Option Int
 | none=>some n
 | some r=>(match OS F path r with | some x=>(match eH x with | some (_,n)=>some n | none=>none) | none=>none)
def oc (k:IntKind) (a:Int):List TV->Option TV
 | []=>some (.int k a)
 | .int k' b::r=>(match fQ k k' with | some _=>oc k (min a b) r | none=>none)
 | _=>none
def oZ (k:IntKind) (a:Int):List TV->Option TV
 | []=>some (.int k a)
 | .int k' b::r=>(match fQ k k' with | some _=>oZ k (max a b) r | none=>none)
 | _=>none
inductive M0 where
 | val (t:Ty)
 | own (t:Ty)
abbrev RT:M0->Type
 | .val t=>T t
 | .own t=>List (T t)
def P7:List M0->Type
 | []=>Unit
 | [r]=>RT r
 | r::s::rs=>RT r×P7 (s::rs)
structure Ct where
 args:KJ
 res:List M0
 pre:Ts args->Prop
 fn:Ts args->P7 res
def GR:(rs:List M0)->P7 rs->Nat->List TV×List B4
 | [],_,_=>([],[])
 | [.val t],x,_=>([Zh t x],[])
 | [.own t],x,n=>([.HW n],[.row t x])
 | .val t::s::rs,x,n=>(Zh t x.1::(GR (s::rs) x.2 n).1,(GR (s::rs) x.2 n).2)
 | .own t::s::rs,x,n=>(.HW n::(GR (s::rs) x.2 (n+1)).1,.row t x.1::(GR (s::rs) x.2 (n+1)).2)
def ZR (xs:List TV):TV:=match xs with | [x]=>x | xs=>.DG xs
def Ku:List M0->Bool
 | []=>true
 | .val _::rs=>Ku rs
 | .own _::_=>false
mutual
def O5:Ty->Bool
 | .sl _=>false
 | .st fs=>Ui fs
 | _=>true
def Ui:KJ->Bool
 | .nil=>true
 | .cons t ts=>O5 t && Ui ts
end
def O4:List M0->Bool
 | []=>true
 | .val t::rs=>O5 t && O4 rs
 | .own t::rs=>O5 t && O4 rs
mutual
def Gn:TV->Bool
 | .ptr _ _ | .H7 _ _ _ | .HW _ | .sl _ _ _ | .WL _ _ | .FN _ _ _ _ _ | .ifs _ _=>false
 | .Fm cs=>JM cs
 | .agg cs=>JM cs
 | .DG cs=>JM cs
 | .fn _ cs=>JM cs
 | _=>true
def JM:List TV->Bool
 | []=>true
 | x::xs=>Gn x && JM xs
end
noncomputable def nK (TS:List B4) (t:Ty):List TV->Option (T t)
 | [x]=>PV TS t x
 | _=>none
noncomputable def Oo (TS:List B4):(ts:KJ)->List TV->Option (Ts ts)
 | .nil,xs=>(match xs with | []=>some () | _::_=>none)
 | .cons t .nil,xs=>nK TS t xs
 | .cons t (.cons u ts),xs=>(match xs with
  | x::xs=>(match PV TS t x,Oo TS (.cons u ts) xs with | some a,some b=>some (a,b) | _,_=>none)
  | []=>none)
section
variable (Γ : List (Nat × Ct)) (ht : Option Ty) (F : RF) (path : List (Nat × Bool)) (TS : List B4)
def fP:AL->Bool | .c .AM=>true | _=>false
def s9 (x:AL):Option (List Prop×TV):=
 match ht,fP x with
 | some _,true=>none
 | _,_=>(match OS F path x with | some y=>some ([],y) | none=>none)
noncomputable def im (n:Nat) (gs:List (Nat×Bool)) (c:TV) (a b:AL):Option (List Prop×TV):=
 match c with
 | .gd p=>(match OS F ((n,true)::gs) a,OS F ((n,false)::gs) b with
  | some x,some y=>(match PC p x y with | some z=>some ([],z) | none=>none)
  | _,_=>none)
 | c=>(match jy c,OS F path a,OS F path b with
  | some p,some x,some y=>(match PC p x y with | some z=>some ([],z) | none=>none)
  | _,_,_=>none)
noncomputable def nh (c a b:AL):Option (List Prop×TV):=
 match c with
 | .t n=>(match BE F n with
  | some (gs,_,c)=>(match gY gs path with
   | true=>im F path n gs c a b
   | false=>none)
  | none=>none)
 | .c _=>none
def iT (z:List AA) (parts:List (Nat×Nat×AL)):Option (List Prop×TV):=
 match o9 z with
 | some cs=>(match W9 F path cs parts with | some ys=>some ([],.agg ys) | none=>none)
 | none=>none
noncomputable def ig (len k:Nat) (z:List AA) (parts:List (Nat×Nat×AL)):Option ((t:Ty)×List (T t)):=
 match ht,o9 z with
 | some t,some cs=>(match Nat.beq (GZ t) k,W9 F path cs parts with
  | true,some ys=>(match aW t len ys with | some xs=>some ⟨t,xs⟩ | none=>none)
  | _,_=>none)
 | _,_=>none
def S_ (ag:Bool) (n:Nat) (cs:List TV):Option (List Prop×TV):=
 match IC n cs with | some xs=>(match lE ag xs with | some y=>some ([],y) | none=>none) | none=>none
def Rf (n:Nat) (ag:Bool) (x:TV):Option (List Prop×TV):=
 match x with
 | .Fm cs=>S_ ag n cs
 | .ptr l off=>(match Bq TS l with
  | some (.cells _ cs)=>S_ ag n (cs.drop off)
  | _=>none)
 | .H7 l i fo=>(match Bq TS l with
  | some (.row t ls)=>S_ ag n ((Fq t (@gt (T t) ⟨zT t⟩ ls i)).drop fo)
  | some (.ED _ _)=>(match n,ag,fo with | 1,false,0=>some ([],.WL l i) | _,_,_=>none)
  | _=>none)
 | .FN l i j k fo=>(match Bq TS l with
  | some (.ED t ls)=>(match Nat.beq (GZ t) k with
   | true=>S_ ag n ((Fq t (@gt (T t) ⟨zT t⟩ (gt ls i) j)).drop fo)
   | false=>none)
  | _=>none)
 | _=>none
def aq (x:TV):Option (List Prop×TV):=
 match x with
 | .Fm cs=>some ([],.Fm cs)
 | .ptr l off=>some ([],.ptr l off)
 | .H7 l i fo=>some ([],.H7 l i fo)
 | .FN l i j k fo=>some ([],.FN l i j k fo)
 | .fn f cs=>some ([],.fn f cs)
 | _=>none
def s_ (x:TV):Option (List Prop×TV):=
 match x with
 | .tt=>some ([],.ff)
 | .ff=>some ([],.tt)
 | y=>(match mS y with | some p=>some ([],.pr (¬p)) | none=>none)
def Uc (x:TV) (lo hi:Option AL):Option (List Prop×TV):=
 match x with
 | .str s=>(match rW F path lo,qK F path (s.length:Int) hi with
  | some a,some b=>some ([0<=a,a<=b,b<=(s.length:Int)],.str ((s.take b.toNat).drop a.toNat))
  | _,_=>none)
 | _=>none
def Ud (k:Nat) (x:TV) (lo hi:Option AL):Option (List Prop×TV):=
 match x with
 | .Em t l=>(match rW F path lo,qK F path (l.length:Int) hi,Nat.beq (GZ t) k with
  | some a,some b,true=>some ([0<=a,a<=b,b<=(l.length:Int)],.Em t ((l.take b.toNat).drop a.toNat))
  | _,_,_=>none)
 | .HW l=>(match Bq TS l with
  | some (.row t ls)=>(match rW F path lo,qK F path (ls.length:Int) hi,Nat.beq (GZ t) k with
   | some a,some b,true=>some ([0<=a,a<=b,b<=(ls.length:Int)],.sl l a (b-a))
   | _,_,_=>none)
  | _=>none)
 | .sl l off len=>(match Bq TS l with
  | some (.row t ls)=>(match rW F path lo,qK F path len hi,Nat.beq (GZ t) k with
   | some a,some b,true=>some ([0<=a,a<=b,b<=len],.sl l (off+a) (b-a))
   | _,_,_=>none)
  | _=>none)
 | .AM=>(match rW F path lo,qK F path 0 hi with
  | some a,some b=>some ([a=0,b=0],.AM)
  | _,_=>none)
 | _=>none
def iX (off:Nat) (x:TV):Option (List Prop×TV):=
 match x with
 | .ptr l o=>some ([],.ptr l (o+off))
 | .H7 l i fo=>some ([],.H7 l i (fo+off))
 | .FN l i j k fo=>some ([],.FN l i j k (fo+off))
 | .Fm cs=>some ([],.Fm (cs.drop off))
 | _=>none
def iY (off n:Nat) (ag:Bool) (x:TV):Option (List Prop×TV):=
 match x with
 | .agg cs=>S_ ag n (cs.drop off)
 | _=>none
def iZ (k:Nat) (x:TV) (j:Int):Option (List Prop×TV):=
 match x with
 | .Em t l=>(match Nat.beq (GZ t) k with
  | true=>some ([0<=j,j<(l.length:Int)],.Fm (Fq t (@gt (T t) ⟨zT t⟩ l j)))
  | false=>none)
 | .HW l=>(match Bq TS l with
  | some (.row t ls)=>(match Nat.beq (GZ t) k with
   | true=>some ([0<=j,j<(ls.length:Int)],.H7 l j 0)
   | false=>none)
  | some (.ED t ls)=>(match Nat.beq 1 k with
   | true=>some ([0<=j,j<(ls.length:Int)],.H7 l j 0)
   | false=>none)
  | _=>none)
 | .WL l i=>(match Bq TS l with
  | some (.ED t ls)=>(match Nat.beq (GZ t) k with
   | true=>some ([0<=j,j<((gt ls i).length:Int)],.FN l i j k 0)
   | false=>none)
  | _=>none)
 | .sl l off len=>(match Bq TS l with
  | some (.row t ls)=>(match Nat.beq (GZ t) k with
   | true=>some ([0<=j,j<len],.H7 l (off+j) 0)
   | false=>none)
  | _=>none)
 | _=>none
noncomputable def ie (k:Nat) (ar:Option Nat) (ag:Bool) (x:TV) (j:Int):Option (List Prop×TV):=
 match ar with
 | none=>(match x with
  | .str s=>some ([0<=j,j<(s.length:Int)],.byte (gt s j))
  | _=>none)
 | some n=>(match x with
  | .agg cs=>(match cP k j ag cs n 0 with
   | some z=>some ([0<=j,j<(n:Int)],z)
   | none=>none)
  | _=>none)
def s7 (str:Bool) (x:TV):Option (List Prop×TV):=
 match str,x with
 | true,.str s=>some ([],.int .i64 (s.length:Int))
 | false,.Em _ l=>some ([],.int .i64 (l.length:Int))
 | false,.HW l=>(match Bq TS l with | some (.row _ ls)=>some ([],.int .i64 (ls.length:Int)) | some (.ED _ ls)=>some ([],.int .i64 (ls.length:Int)) | _=>none)
 | false,.WL l i=>(match Bq TS l with | some (.ED _ ls)=>some ([],.int .i64 ((gt ls i).length:Int)) | _=>none)
 | false,.sl l off len=>some ([],.int .i64 len)
 | false,.AM=>some ([],.int .i64 0)
 | _,_=>none
def rC (mx:Bool) (xs:List TV):Option (List Prop×TV):=
 match xs with
 | .int k a::r=>(match (match mx with | true=>oZ k a r | false=>oc k a r) with | some y=>some ([],y) | none=>none)
 | _=>none
def ng (f:Fn) (first:List AL) (cap:List AL):Option (List Prop×TV):=
 match f,first with
 | .func f,[]=>(match VZ F path cap with | some xs=>some ([],.fn f xs) | none=>none)
 | _,_=>none
def uo:TV->Option UInt8
 | .byte b=>some b
 | .int .u8 n=>some n.toNat.toUInt8
 | _=>none
def sz (k:d_) (xs:List TV):Option (List Prop×TV):=
 match xs with
 | [.str s,c]=>(match uo c with
  | some b=>(match k with
   | .nw=>some ([],.int .i64 (Lib.indexByte s b))
   | .u0=>some ([],.int .i64 ((Lib.countByte s b:Nat):Int)))
  | none=>none)
 | _=>none
def W8 (x:TV) (i:Nat):Option (List Prop×TV):=
 match x with
 | .DG xs=>(match xs.drop i with | y::_=>some ([],y) | []=>none)
 | _=>none
noncomputable def Ym (f:Nat) (xs:List TV):Option (List Prop×TV):=
 match BE Γ f with
 | some ct=>(match Ku ct.res,Oo TS ct.args xs,O4 ct.res || JM xs with
  | true,some a,true=>some ([ct.pre a],ZR (GR ct.res (ct.fn a) 0).1)
  | _,_,_=>none)
 | none=>none
mutual
def vk:TV->TV->Option (List Prop)
 | .int k a,.int k' b=>(match fQ k k' with | some _=>some [a=b] | none=>none)
 | .byte a,.byte b=>some [a=b]
 | .str a,.str b=>some [a=b]
 | .Em t a,.Em t' b=>(match Om t t' with | some ⟨h⟩=>some [h▸a=b] | none=>none)
 | .HW l,.HW l'=>(match Nat.beq l l' with | true=>some [] | false=>none)
 | .ptr l o,.ptr l' o'=>(match Nat.beq l l',Nat.beq o o' with | true,true=>some [] | _,_=>none)
 | .Fm xs,.Fm ys=>fE xs ys
 | .fn f xs,.fn g ys=>(match Nat.beq f g with | true=>fE xs ys | false=>none)
 | _,_=>none
def fE:List TV->List TV->Option (List Prop)
 | [],[]=>some []
 | x::xs,y::ys=>(match vk x y,fE xs ys with | some ps,some qs=>some (ps++qs) | _,_=>none)
 | _,_=>none
end
def H5 (x:AL) (f:TV->Option (List Prop×TV)):Option (List Prop×TV):=match OS F path x with | some y=>f y | none=>none
def YA (x y:AL) (f:TV->TV->Option (List Prop×TV)):Option (List Prop×TV):=match OS F path x,OS F path y with | some a,some b=>f a b | _,_=>none
def ji (x i:AL) (f:TV->Int->Option (List Prop×TV)):Option (List Prop×TV):=
 match OS F path x,OS F path i with | some a,some b=>(match eH b with | some (_,j)=>f a j | none=>none) | _,_=>none
def PK (xs:List AL) (f:List TV->Option (List Prop×TV)):Option (List Prop×TV):=match VZ F path xs with | some ys=>f ys | none=>none
noncomputable def tC:Dw->Option (List Prop×TV)
 | .C8 x=>s9 ht F path x
 | .pick c a b=>nh F path c a b
 | .build z parts=>iT F path z parts
 | .A7 ro len k z parts=>(match ro with
  | true=>(match ig ht F path len k z parts with | some ⟨t,xs⟩=>some ([],.Em t xs) | none=>none)
  | false=>none)
 | .load n ag x=>H5 F path x (Rf TS n ag)
 | .E5 x=>H5 F path x aq
 | .bin q op x y=>YA F path x y (tc q op)
 | .N1 x=>H5 F path x fun x=>match x with | .str s=>some ([],.str s) | _=>none
 | .qW x=>H5 F path x fun x=>match UR TS (.int .u8) x with | some l=>some ([],.str (List.map (fun n:Int=>UInt8.ofNat n.toNat) l)) | none=>none
 | .not x=>H5 F path x s_
 | .neg x=>H5 F path x fun x=>match x with | .int k n=>some (lD k (0-n)) | _=>none
 | .conv k x=>H5 F path x (sj k)
 | .slice k x lo hi=>H5 F path x fun x=>match k with | 0=>Uc F path x lo hi | k+1=>Ud F path TS (k+1) x lo hi
 | .DJ off x=>H5 F path x (iX off)
 | .field off n ag x=>H5 F path x (iY off n ag)
 | .D_ k ar x i=>(match ar with | none=>ji F path x i (iZ TS k) | some _=>none)
 | .index k ar ag x i=>ji F path x i (ie k ar ag)
 | .len str x=>H5 F path x (s7 TS str)
 | .min xs=>PK F path xs (rC false)
 | .max xs=>PK F path xs (rC true)
 | .GV f first cap=>ng F path f first cap
 | .slice3 k x h m=>H5 F path x fun x=>YA F path h m fun y z=>(match eH y,eH z with
  | some (k1,n),some (k2,n')=>(match x with
   | .HW l=>(match Bq TS l with
    | some (.row t ls)=>(match Nat.beq (GZ t) k,fQ k1 k2 with | true,some _=>some ([n'=n,0<=n,n<=ls.length],.sl l 0 n) | _,_=>none)
    | _=>none)
   | _=>none)
  | _,_=>none)
 | .VJ t x=>H5 F path x fun x=>match x with | .HW l=>some ([],.ifs t l) | _=>none
 | .ext k xs=>PK F path xs (sz k)
 | .extract x i=>H5 F path x fun x=>W8 x i
 | .call f args=>PK F path args (Ym Γ TS f)
 | .again t n ag x=>YA F path x (.t t) fun x y=>(match Rf TS n ag x with
  | some (ps,z)=>(match vk z y with | some qs=>some (ps++qs,.Ci) | none=>none)
  | none=>none)
 | .Fo x args=>H5 F path x fun x=>(match x with | .fn f cap=>PK F path args fun xs=>Ym Γ TS f (xs++cap) | _=>none)
 | _=>none
end
mutual
def EF (l:Nat):TV->TV
 | .HW l'=>(match Nat.beq l l' with | true=>.Ci | false=>.HW l')
 | .sl l' a b=>(match Nat.beq l l' with | true=>.Ci | false=>.sl l' a b)
 | .H7 l' a b=>(match Nat.beq l l' with | true=>.Ci | false=>.H7 l' a b)
 | .ptr l' a=>(match Nat.beq l l' with | true=>.Ci | false=>.ptr l' a)
 | .WL l' i=>(match Nat.beq l l' with | true=>.Ci | false=>.WL l' i)
 | .FN l' i j k a=>(match Nat.beq l l' with | true=>.Ci | false=>.FN l' i j k a)
 | .ifs t l'=>(match Nat.beq l l' with | true=>.Ci | false=>.ifs t l')
 | .agg cs=>.agg (It l cs)
 | .DG cs=>.DG (It l cs)
 | .Fm cs=>.Fm (It l cs)
 | .fn f cs=>.fn f (It l cs)
 | x=>x
def It (l:Nat):List TV->List TV
 | []=>[]
 | x::xs=>EF l x::It l xs
end
def Mo (l:Nat):RF->RF
 | []=>[]
 | (s,gs,p,x)::F=>(s,gs,p,EF l x)::Mo l F
def Sx (l:Nat):List RF->List RF
 | []=>[]
 | F::G=>Mo l F::Sx l G
def NV (l:Nat):List B4->List B4
 | []=>[]
 | .cells k cs::S=>.cells k (It l cs)::NV l S
 | o::S=>o::NV l S
mutual
def C7 (l:Nat):TV->TV
 | .WL l' i=>(match Nat.beq l l' with | true=>.Ci | false=>.WL l' i)
 | .FN l' i j k a=>(match Nat.beq l l' with | true=>.Ci | false=>.FN l' i j k a)
 | .ifs t l'=>(match Nat.beq l l' with | true=>.Ci | false=>.ifs t l')
 | .agg cs=>.agg (IK l cs)
 | .DG cs=>.DG (IK l cs)
 | .Fm cs=>.Fm (IK l cs)
 | .fn f cs=>.fn f (IK l cs)
 | x=>x
def IK (l:Nat):List TV->List TV
 | []=>[]
 | x::xs=>C7 l x::IK l xs
end
def Pe (l:Nat):RF->RF
 | []=>[]
 | (s,gs,p,x)::F=>(s,gs,p,C7 l x)::Pe l F
def fT (l:Nat):List RF->List RF
 | []=>[]
 | F::G=>Pe l F::fT l G
def Rp (l:Nat):List B4->List B4
 | []=>[]
 | .cells k cs::S=>.cells k (IK l cs)::Rp l S
 | o::S=>o::Rp l S
def Og:List B4->Nat
 | []=>0
 | _::S=>Og S+1
def Mu:List B4->B4->List B4
 | [],o=>[o]
 | a::S,o=>a::Mu S o
def ck:List B4->List B4->List B4
 | [],S=>S
 | a::S,S'=>a::ck S S'
noncomputable def dL (TS:List B4) (t:Ty):TV->Option (List (T t))
 | .str s=>(match t with | .int .u8=>some ((s.map fun c=>(c.toNat:Int)):List Int) | _=>none)
 | x=>UR TS t x
section
variable (Γ : List (Nat × Ct)) (ht : Option Ty) (F : RF) (G : List RF) (TS : List B4)
abbrev ER:=Option (List Prop×TV×RF×List RF×List B4)
def ij:ER:=match ht with | some t=>some ([],.HW (Og TS),F,G,Mu TS (.row t [])) | none=>none
noncomputable def rD (k bytes:Nat) (z:List AA) (len cap:TV):ER:=
 match ht,o9 z,eH len,eH cap with
 | some t,some cs,some (k1,a),some (k2,b)=>(match aW t 1 cs,Nat.beq (GZ t) k,fQ k1 k2 with
  | some [x],true,some _=>some ([b=a,0<=a,bytes*a.toNat<=140737488355328],.HW (Og TS),F,G,Mu TS (.row t (List.replicate a.toNat x)))
  | _,_,_=>none)
 | _,_,_,_=>none
def nS (ht:Option Ty) (z:List AA) (k:Nat):Option Ty:=
 match ht,z,k with
 | some (.sl e),[.AM],1=>some e
 | _,_,_=>none
noncomputable def s8 (e:Ty) (bytes:Nat) (len cap:TV):ER:=
 match eH len,eH cap with
 | some (k1,a),some (k2,b)=>(match fQ k1 k2 with
  | some _=>some ([b=a,0<=a,bytes*a.toNat<=140737488355328],.HW (Og TS),F,G,Mu TS (.ED e (List.replicate a.toNat [])))
  | none=>none)
 | _,_=>none
noncomputable def Ue (n:Nat) (x y:TV):ER:=
 match x,y with
 | .H7 l i fo,.HW q=>(match Bq TS l,Bq TS q with
  | some (.ED t ls),some (.row t' xs)=>(match n,fo,Nat.beq q l,Om t' t with
   | 1,0,false,some ⟨h⟩=>some ([],.Ci,Mo q (Pe l F),Sx q (fT l G),Fj (Fj (NV q (Rp l TS)) q .dead) l (.ED t (ls.set i.toNat (h▸xs))))
   | _,_,_,_=>none)
  | _,_=>none)
 | .FN l i j k fo,y=>(match Bq TS l,Oc y with
  | some (.ED t ls),some ys=>(match Nat.beq (GZ t) k,Mb ys n,sizeLe (fo+n) (Fq t (@gt (T t) ⟨zT t⟩ (gt ls i) j)),UP t (J6 (Fq t (@gt (T t) ⟨zT t⟩ (gt ls i) j)) fo ys),n with
   | true,true,true,some (x',[]),_+1=>some ([],.Ci,F,G,Fj TS l (.ED t (ls.set i.toNat ((gt ls i).set j.toNat x'))))
   | _,_,_,_,_=>none)
  | _,_=>none)
 | _,_=>none
def T_ (n:Nat) (x y:TV):Option (Nat×Nat×Nat×List TV×Nat×Ty):=
 match y,n,x with
 | .AM,1,.ptr l off=>(match Bq TS l with
  | some (.cells k cs)=>(match cs.drop off with
   | .HW m::_=>(match Bq TS m,Nat.beq m l with | some (.row t _),false=>some (l,off,k,cs,m,t) | _,_=>none)
   | .sl m _ _::_=>(match Bq TS m,Nat.beq m l with | some (.row t _),false=>some (l,off,k,cs,m,t) | _,_=>none)
   | _=>none)
  | _=>none)
 | _,_,_=>none
noncomputable def Yn (n:Nat) (x y:TV):ER:=
 match T_ TS n x y with
 | some (l,off,k,cs,m,t)=>some ([],.Ci,Mo m F,Sx m G,Fj (Fj (NV m TS) m (.row t [])) l (.cells k (J6 (It m cs) off [.HW m])))
 | none=>match x,Oc y with
 | .ptr l off,some ys=>(match Bq TS l with
  | some (.cells k cs)=>(match Mb ys n,sizeLe (off+n) cs,n with
   | true,true,_+1=>some ([],.Ci,F,G,Fj TS l (.cells k (J6 cs off ys)))
   | _,_,_=>none)
  | _=>none)
 | .H7 l i fo,some ys=>(match Bq TS l with
  | some (.row t ls)=>(match Mb ys n,sizeLe (fo+n) (Fq t (@gt (T t) ⟨zT t⟩ ls i)),UP t (J6 (Fq t (@gt (T t) ⟨zT t⟩ ls i)) fo ys),n with
   | true,true,some (x',[]),_+1=>some ([],.Ci,F,G,Fj TS l (.row t (ls.set i.toNat x')))
   | _,_,_,_=>none)
  | _=>none)
 | _,_=>none
noncomputable def Ub (k bytes:Nat) (x y:TV):ER:=
 match x with
 | .HW l=>(match Bq TS l with
  | some (.row t ls)=>(match dL TS t y,Nat.beq (GZ t) k with
   | some ys,true=>some ([(ls.length+ys.length)*bytes<=140737488355328],.HW l,Mo l F,Sx l G,Fj (NV l TS) l (.row t (ls++ys)))
   | _,_=>none)
  | _=>none)
 | .sl l off len=>(match Bq TS l with
  | some (.row t ls)=>(match dL TS t y,Nat.beq (GZ t) k with
   | some ys,true=>some ([(len.toNat+ys.length)*bytes<=140737488355328],.HW l,Mo l F,Sx l G,Fj (NV l TS) l (.row t ((ls.drop off.toNat).take len.toNat++ys)))
   | _,_=>none)
  | _=>none)
 | .AM=>(match ht with
  | some t=>(match dL TS t y,Nat.beq (GZ t) k with
   | some ys,true=>some ([ys.length*bytes<=140737488355328],.HW (Og TS),F,G,Mu TS (.row t ys))
   | _,_=>none)
  | none=>none)
 | _=>none
noncomputable def iU (f:Nat) (xs:List TV):ER:=
 match BE Γ f with
 | some ct=>(match Oo TS ct.args xs,O4 ct.res || JM xs with
  | some a,true=>some ([ct.pre a],ZR (GR ct.res (ct.fn a) (Og TS)).1,F,G,ck TS (GR ct.res (ct.fn a) (Og TS)).2)
  | _,_=>none)
 | none=>none
def Py (x y:AL) (f:TV->TV->ER):ER:=match OS F [] x,OS F [] y with | some a,some b=>f a b | _,_=>none
noncomputable def iV (k:Nat) (z:List AA) (x:TV):ER:=
 match x,o9 z with
 | .AM,_=>some ([],.Ci,F,G,TS)
 | .HW l,some cs=>(match Bq TS l with
  | some (.row t ls)=>(match aW t 1 cs,Nat.beq (GZ t) k with
   | some [x],true=>some ([],.Ci,F,G,Fj TS l (.row t (List.replicate ls.length x)))
   | _,_=>none)
  | _=>none)
 | .sl l off len,some cs=>(match Bq TS l with
  | some (.row t ls)=>(match aW t 1 cs,Nat.beq (GZ t) k with
   | some [x],true=>some ([],.Ci,F,G,Fj TS l (.row t (ls.take off.toNat++List.replicate len.toNat x++ls.drop (off.toNat+len.toNat))))
   | _,_=>none)
  | _=>none)
 | _,_=>none
noncomputable def wL:Dw->ER
 | .DU k=>(match ht with | some t=>(match Nat.beq (GZ t) k with | true=>ij ht F G TS | false=>none) | none=>none)
 | .C8 x=>(match fP x with | true=>ij ht F G TS | false=>none)
 | .alloc k z=>(match o9 z with | some cs=>some ([],.ptr (Og TS) 0,F,G,Mu TS (.cells k cs)) | none=>none)
 | .box k x=>(match OS F [] x with
  | some y=>(match Oc y with | some cs=>some ([],.ptr (Og TS) 0,F,G,Mu TS (.cells k cs)) | none=>none)
  | none=>none)
 | .A7 ro len k z parts=>(match ro with
  | false=>(match ig ht F [] len k z parts with | some ⟨t,xs⟩=>some ([],.HW (Og TS),F,G,Mu TS (.row t xs)) | none=>none)
  | true=>none)
 | .Gy k bytes z len cap=>Py F len cap fun x y=>(match nS ht z k with | some e=>s8 F G TS e bytes x y | none=>rD ht F G TS k bytes z x y)
 | .store n x v=>Py F x v fun x y=>(match Ue F G TS n x y with | some r=>some r | none=>Yn F G TS n x y)
 | .append k bytes s x=>Py F s x (Ub ht F G TS k bytes)
 | .qN x=>(match OS F [] x with | some (.str s)=>some ([],.HW (Og TS),F,G,Mu TS (.row (.int .u8) (s.map fun c=>(c.toNat:Int)))) | _=>none)
 | .mark x=>(match OS F [] x with
  | some (.HW l)=>(match Bq TS l with | some (.row (.int _) ls)=>some ([0<ls.length],.HW l,F,G,TS) | _=>none)
  | _=>none)
 | .clear k z x=>(match OS F [] x with | some a=>iV F G TS k z a | none=>none)
 | .call f args=>(match VZ F [] args with | some xs=>iU Γ F G TS f xs | none=>none)
 | _=>none
end
end Go.Vc
end
section
namespace Go.Vc
structure Hi where
 ty:List (Nat×Ty)
 nm:List (Nat×String)
inductive An where
 | d
 | seq (a b:An)
 | loop (Wb JX TI:List Nat) (a:An)
def An.l:An->An | .seq a _=>a | _=>.d
def An.r:An->An | .seq _ b=>b | _=>.d
def An.body:An->An | .loop _ _ _ a=>a | _=>.d
def An.Wb:An->List Nat | .loop m _ _ _=>m | _=>[]
def An.JX:An->List Nat | .loop _ s _ _=>s | _=>[]
def An.TI:An->List Nat | .loop _ _ s _=>s | _=>[]
abbrev TK:=RF->List RF->List B4->Prop
def mentions (d:Nat):List (Nat×Bool)->Bool
 | []=>false
 | (g,_)::gs=>match Nat.beq g d with | true=>true | false=>mentions d gs
def Sb (d:Nat):RF->RF
 | []=>[]
 | (s,gs,p,x)::F=>match mentions d gs with | true=>(s,[],True,.Ci)::Sb d F | false=>(s,gs,p,x)::Sb d F
def KT (F:RF) (d:Option Nat) (gs:List (Nat×Bool)) (p:Prop) (x:TV):RF:=
 match d with
 | some d=>(match mentions d gs with | true=>(d,[],True,.Ci)::Sb d F | false=>(d,gs,p,x)::Sb d F)
 | none=>F
def Fh (F:RF):List Nat->RF
 | []=>[]
 | t::AW=>match BE F t with | some ([],_,x)=>(t,[],True,x)::Fh F AW | _=>Fh F AW
def PA (F:RF) (t:Nat):TV:=match BE F t with | some ([],_,x)=>x | _=>.Ci
def KZ (F:RF):List Nat->List TV
 | []=>[]
 | t::W=>PA F t::KZ F W
def T1:List Nat->List TV->RF->RF
 | t::W,x::xs,F=>(t,[],True,x)::T1 W xs F
 | _,_,F=>F
def Q6:RF->RF->Bool
 | [],[]=>true
 | (s,gs,_,x)::F,(s',gs',_,y)::F'=>(match Nat.beq s s',NK gs gs' with
  | true,true=>(match Gn x with | true=>Q6 F F' | false=>(match TF x y with | true=>Q6 F F' | false=>false))
  | _,_=>false)
 | _,_=>false
def Xs:List RF->List RF->Bool
 | [],[]=>true
 | F::G,F'::G'=>(match Q6 F F' with | true=>Xs G G' | false=>false)
 | _,_=>false
def t_ (G9:Bool) (x:TV):Option TV:=
 match G9 with
 | false=>some x
 | true=>(match mS x with | some p=>some (.gd p) | none=>none)
def Ip:List (Nat×Bool)->Prop->Prop->Bool->Prop
 | [],_,p,true=>p
 | [],_,p,false=> ¬p
 | _::_,q,p,true=>q/\p
 | _::_,q,p,false=>q/\ ¬p
def oi (TS:List B4):TV->Option Int
 | .Em _ l=>some (l.length:Int)
 | .HW l=>(match Bq TS l with | some (.row _ ls)=>some (ls.length:Int) | _=>none)
 | .sl _ _ len=>some len
 | _=>none
def gO (F:RF) (x:AL) (v:TV):RF:=
 match x with
 | .t n=>(match BE F n with
  | some ([],_,.pr _)=>(n,[],True,v)::F
  | some ([],_,.bb _)=>(n,[],True,v)::F
  | _=>F)
 | .c _=>F
structure Sp where
 ev:List TV->List RF->List B4->Option (List Prop×TV×List RF×List B4)
structure Fi where
 n:Nat
 code:Ak
 res:List Kk
 an:An
 hi:Hi
 sp:Option Sp
def wV (N:TK) (Q:BU->TK):BU->TK
 | .normal=>N
 | e=>Q e
def uL (Q:BU->TK):BU->TK:=fun e F G TS=>match G with | _::G=>Q e F G TS | []=>False
def w6 (id:Nat) (Q:BU->TK):BU->TK
 | .exit id'=>match Nat.beq id' id with | true=>Q .normal | false=>Q (.exit id')
 | e=>Q e
section
variable (Γ : List (Nat × Ct)) (call : Nat -> List TV -> List RF -> List B4 -> (TV -> List RF -> List B4 -> Prop) -> Prop)
def nU (d:Option Nat):List Cs->TV
 | []=>.ff
 | o::rest=>(match d,o.op with
  | some d',.bin _ _ (.t e) (.c (.int k _))=>(match Nat.beq d' e with | true=>.int k 0 | false=>nU d rest)
  | _,_=>nU d rest)
noncomputable def Lq (hi:Hi) (K:TK):Nat->List Cs->TK
 | _,[],F,G,TS=>K F G TS
 | m,o::rest,F,G,TS=>
  match o.guard with
  | some (g,w)=>(match BE F g with
   | some (gs,q,.gd p)=>(match tC Γ (match o.dst with | some d=>BE hi.ty d | none=>none) F ((g,w)::gs) TS o.op with
    | some (ps,y)=>(match t_ o.G9 y with
     | some y=>Of (N6 (Ip gs q p w) ps) (Lq hi K (m-1) rest (KT F o.dst ((g,w)::gs) (Ip gs q p w) y) G TS)
     | none=>False)
    | none=>(match m,o.G9,o.op with
     | 0,false,.call f args=>(match VZ F ((g,w)::gs) args with
      | some xs=>(Ip gs q p w->call f xs (F::G) TS fun y G' TS'=>(match G' with | F'::G'=>Lq hi K 0 rest (KT F' o.dst ((g,w)::gs) (Ip gs q p w) y) G' TS' | []=>False))/\
       (¬Ip gs q p w->Lq hi K 0 rest (KT F o.dst ((g,w)::gs) (Ip gs q p w) (nU o.dst rest)) G TS)
      | none=>False)
     | 0,false,.Fo x args=>(match OS F ((g,w)::gs) x,VZ F ((g,w)::gs) args with
      | some (.fn f cap),some xs=>(Ip gs q p w->call f (xs++cap) (F::G) TS fun y G' TS'=>(match G' with | F'::G'=>Lq hi K 0 rest (KT F' o.dst ((g,w)::gs) (Ip gs q p w) y) G' TS' | []=>False))/\
       (¬Ip gs q p w->Lq hi K 0 rest (KT F o.dst ((g,w)::gs) (Ip gs q p w) (nU o.dst rest)) G TS)
      | _,_=>False)
     | _,_,_=>False))
   | _=>False)
  | none=>(match tC Γ (match o.dst with | some d=>BE hi.ty d | none=>none) F [] TS o.op with
   | some (ps,y)=>(match t_ o.G9 y with
    | some y=>Of ps (Lq hi K (m-1) rest (KT F o.dst [] True y) G TS)
    | none=>False)
   | none=>(match m,o.G9 with
    | 0,false=>(match wL Γ (match o.dst with | some d=>BE hi.ty d | none=>none) F G TS o.op with
     | some (ps,y,F',G',TS')=>Of ps (Lq hi K 0 rest (KT F' o.dst [] True y) G' TS')
     | none=>(match o.op with
      | .call f args=>(match VZ F [] args with
       | some xs=>call f xs (F::G) TS fun y G' TS'=>(match G' with | F'::G'=>Lq hi K 0 rest (KT F' o.dst [] True y) G' TS' | []=>False)
       | none=>False)
      | .Fo x args=>(match OS F [] x,VZ F [] args with
       | some (.fn f cap),some xs=>call f (xs++cap) (F::G) TS fun y G' TS'=>(match G' with | F'::G'=>Lq hi K 0 rest (KT F' o.dst [] True y) G' TS' | []=>False)
       | _,_=>False)
      | .GO neg x=>(match OS F [] x with
       | some .AM=>Lq hi K 0 rest (KT F o.dst [] True (match neg with | true=>.ff | false=>.tt)) G TS
       | some x=>(match oi TS x with
        | some n=> ∀GO:Nm "isnil" Prop,(GO->n=0)->Lq hi K 0 rest (KT F o.dst [] True (match neg with | true=>.pr (¬GO) | false=>.pr GO)) G TS
        | none=>False)
       | none=>False)
      | _=>False))
    | _,_=>False))
noncomputable def Sd (hi:Hi) (TS:List B4):List Cs->RF->Option (List Prop×RF)
 | [],F=>some ([],F)
 | o::rest,F=>
  match o.guard with
  | some (g,w)=>(match BE F g with
   | some (gs,q,.gd p)=>(match tC Γ (match o.dst with | some d=>BE hi.ty d | none=>none) F ((g,w)::gs) TS o.op with
    | some (ps,y)=>(match t_ o.G9 y with
     | some y=>(match Sd hi TS rest (KT F o.dst ((g,w)::gs) (Ip gs q p w) y) with
      | some (qs,F')=>some (N6 (Ip gs q p w) ps++qs,F')
      | none=>none)
     | none=>none)
    | none=>none)
   | _=>none)
  | none=>(match tC Γ (match o.dst with | some d=>BE hi.ty d | none=>none) F [] TS o.op with
   | some (ps,y)=>(match t_ o.G9 y with
    | some y=>(match Sd hi TS rest (KT F o.dst [] True y) with
     | some (qs,F')=>some (ps++qs,F')
     | none=>none)
    | none=>none)
   | none=>none)
noncomputable def mA (hi:Hi) (K:List Cs->TK):Nat->List Cs->TK
 | 0,rest,F,G,TS=>K rest F G TS
 | _+1,[],_,_,_=>False
 | q+1,o::rest,F,G,TS=>(match o.guard,o.G9,o.op with
  | none,false,.Mr d k b z len cap=>(match Nat.beq d (q+1),Py F len cap (rD (match o.dst with | some d=>BE hi.ty d | none=>none) F G TS k b z) with
   | true,some (ps,y,F',G',TS')=>Of ps (mA hi K q rest (KT F' o.dst [] True y) G' TS')
   | _,_=>False)
  | none,false,.Mk d k z=>(match Nat.beq d (q+1),o9 z with
   | true,some cs=>mA hi K q rest (KT F o.dst [] True (.ptr (Og TS) 0)) G (Mu TS (.cells k cs))
   | _,_=>False)
  | _,_,_=>(match Sd Γ hi TS [o] F with
   | some (ps,F')=>Of ps (mA hi K (q+1) rest F' G TS)
   | none=>False))
def bV:Option (Nat×Nat×List Nat)->Nat | none=>0 | some d=>d.2.1
noncomputable def Na (c:Prop) (Fb:RF):RF->RF
 | []=>[]
 | (s,_,_,x)::F=>(match BE Fb s with
  | some ([],_,y)=>(match PC c x y with | some z=>(s,[],True,z)::Na c Fb F | none=>Na c Fb F)
  | _=>Na c Fb F)
noncomputable def W7 (hi:Hi) (TS:List B4):Ak->RF->Option (List Prop×RF)
 | .skip,F=>some ([],F)
 | .ops l d AW,F=>(match bV d with | _+1=>none | 0=>match Sd Γ hi TS l F with | some (ps,F')=>some (ps,Fh F' AW) | none=>none)
 | .seq a b,F=>(match W7 hi TS a F with
  | some (ps,F1)=>(match W7 hi TS b F1 with | some (qs,F2)=>some (ps++qs,F2) | none=>none)
  | none=>none)
 | .join AW W _ a b,F=>(match W7 hi TS a F with
  | some (ps,F1)=>(match W7 hi TS b (T1 W (KZ F1 W) (Fh F AW)) with | some (qs,F2)=>some (ps++qs,F2) | none=>none)
  | none=>none)
 | .cond x a b,F=>(match OS F [] x with
  | some .tt=>W7 hi TS a F
  | some .ff=>W7 hi TS b F
  | some y=>(match mS y,W7 hi TS a (gO F x .tt),W7 hi TS b (gO F x .ff) with
   | some p,some (ps,Fa),some (qs,Fb)=>some (N6 p ps++N6 (¬p) qs,Na p Fb (Fh Fa (Fa.map (·.1))))
   | _,_,_=>none)
  | none=>none)
 | .block _ a,F=>W7 hi TS a F
 | _,_=>none
inductive Sh where
 | val (t:Ty)
 | sub (l:Nat)
 | eh (x:TV)
inductive mP where
 | AW (o:B4)
 | row (nm:String) (t:Ty)
 | ED (nm:String) (t:Ty)
 | cells (nm:String) (k:Nat) (shs:List Sh)
def w8:TV->Option Ty
 | .int k _=>some (.int k)
 | .byte _=>some (.int .u8)
 | .str _=>some .str
 | .pr _ | .bb _ | .tt | .ff=>some .bool
 | .Em t _=>some (.sl t)
 | _=>none
def w7:List TV->Option KJ
 | []=>some .nil
 | x::xs=>(match w8 x,w7 xs with | some t,some ts=>some (.cons t ts) | _,_=>none)
def nt:List Nat->Nat->Bool
 | [],_=>false
 | a::l,n=>(match Nat.beq a n with | true=>true | false=>nt l n)
def wm (JX:List Nat) (x:TV):Sh:=
 match x with
 | .agg cs=>(match w7 cs with | some ts=>.val (.st ts) | none=>.eh (.agg cs))
 | .sl l _ _=>.sub l
 | .HW l=>(match nt JX l with | true=>.sub l | false=>.eh (.HW l))
 | x=>(match w8 x with | some t=>.val t | none=>.eh x)
def Wf (JX:List Nat):List TV->List Sh
 | []=>[]
 | x::xs=>wm JX x::Wf JX xs
def Q_ (ms:List (Nat×String)) (JX:List Nat):Nat->List B4->List mP
 | _,[]=>[]
 | n,o::S=>(match BE ms n with
  | some nm=>(match o with
   | .dead=>.AW .dead
   | .row t _=>.row nm t
   | .ED t _=>.ED nm t
   | .cells k cs=>.cells nm k (Wf JX cs))
  | none=>.AW o)::Q_ ms JX (n+1) S
def Ur (TS:List B4) (nm:String):Nat->List TV->List (Nat×String)
 | 0,_=>[]
 | _+1,[]=>[]
 | n+1,x::xs=>(match x with
  | .HW l=>(l,nm)::Ur TS nm n xs
  | .sl l _ _=>(l,nm)::Ur TS nm n xs
  | .H7 l _ _=>(l,nm)::Ur TS nm n xs
  | .WL l _=>(l,nm)::Ur TS nm n xs
  | .FN l _ _ _ _=>(l,nm)::Ur TS nm n xs
  | .ptr l _=>(match Bq TS l with
   | some (.cells _ cs)=>(l,nm)::Ur TS nm n (app2 cs xs)
   | _=>(l,nm)::Ur TS nm n xs)
  | .fn _ cs=>Ur TS nm n (app2 cs xs)
  | .agg cs=>Ur TS nm n (app2 cs xs)
  | _=>Ur TS nm n xs)
where app2:List TV->List TV->List TV
 | [],ys=>ys
 | x::xs,ys=>x::app2 xs ys
def ke (nms:List (Nat×String)) (F:RF) (TS:List B4):List Nat->List (Nat×String)
 | []=>[]
 | s::ss=>app2 (Ur TS (match BE nms s with | some n=>n | none=> "o") 40 [PA F s]) (ke nms F TS ss)
where app2:List (Nat×String)->List (Nat×String)->List (Nat×String)
 | [],ys=>ys
 | x::xs,ys=>x::app2 xs ys
def rJ:List (Nat×String)->List Nat
 | []=>[]
 | (a,_)::l=>a::rJ l
def vT (F:RF) (TS:List B4):List Nat->List (Nat×Nat)
 | []=>[]
 | s::ss=>(match PA F s with
  | .HW l=>(s,l)::vT F TS ss
  | .ptr l 0=>(match Bq TS l with
   | some (.cells _ (.HW m::_))=>(s,l)::(Nat.add 1000000 s,m)::vT F TS ss
   | _=>(s,l)::vT F TS ss)
  | _=>vT F TS ss)
def w5 (hi:Hi):List Nat->List String
 | []=>[]
 | t::W=>(match BE hi.nm t with | some n=>n | none=> "x")::w5 hi W
def wM:List String->String | []=> "x" | s::_=>s
def wv:List String->List String | []=>[] | _::r=>r
abbrev PT:List Sh->Type->Type
 | [],R=>R
 | .val t::r,R=>T t->PT r R
 | .sub _::r,R=>Int->Int->PT r R
 | .eh _::r,R=>PT r R
abbrev PO:List mP->Type->Type
 | [],R=>R
 | .AW _::r,R=>PO r R
 | .row _ t::r,R=>List (T t)->PO r R
 | .ED _ t::r,R=>List (List (T t))->PO r R
 | .cells _ _ shs::r,R=>PT shs (PO r R)
def qV {A B:Type}:(ns:List String)->(ws:List Sh)->PT ws A->PT ws B->(A->B->List TV->Prop)->Prop
 | _,[],p,m,f=>f p m []
 | ns,.val t::r,p,m,f=> ∀x:Nm (wM ns) (T t),qV (wv ns) r (p x) (m x) fun p m xs=>f p m (Zh t x::xs)
 | ns,.sub l::r,p,m,f=> ∀(off:Nm (wM ns) Int) (len:Nm (wM ns) Int),qV (wv ns) r (p off len) (m off len) fun p m xs=>f p m (.sl l off len::xs)
 | ns,.eh x::r,p,m,f=>qV (wv ns) r p m fun p m xs=>f p m (x::xs)
def vQ:Nat->String->List String
 | 0,_=>[]
 | n+1,s=>s::vQ n s
def qO {A B:Type}:(os:List mP)->PO os A->PO os B->(A->B->List B4->Prop)->Prop
 | [],p,m,f=>f p m []
 | .AW o::r,p,m,f=>qO r p m fun p m S=>f p m (o::S)
 | .row nm t::r,p,m,f=> ∀l:Nm nm (List (T t)),qO r (p l) (m l) fun p m S=>f p m (.row t l::S)
 | .ED nm t::r,p,m,f=> ∀l:Nm nm (List (List (T t))),qO r (p l) (m l) fun p m S=>f p m (.ED t l::S)
 | .cells nm k shs::r,p,m,f=>qV (vQ shs.length nm) shs p m fun p m cs=>qO r p m fun p m S=>f p m (.cells k cs::S)
noncomputable def UO:(t:Ty)->TV->Option (T t)
 | .int k,x=>aQ k x
 | .str,x=>aR x
 | .bool,x=>um x
 | .st fs,x=>aT fs x
 | .sl e,x=>(match x with | .Em e' l=>(match Om e' e with | some ⟨h⟩=>some (h▸l:List (T e)) | none=>none) | _=>none)
mutual
def vl:TV->TV->Option (List Prop)
 | .int k a,.int k' b=>(match fQ k k' with | some _=>some [a=b] | none=>none)
 | .byte a,.byte b=>some [a=b]
 | .str a,.str b=>some [a=b]
 | .bb a,.bb b=>some [a=b]
 | .Em t l,.Em t' l'=>(match Om t t' with | some ⟨h⟩=>some [(h▸l:List (T t'))=l'] | none=>none)
 | .sl l a b,.sl l' a' b'=>(match Nat.beq l l' with | true=>some [a=a',b=b'] | false=>none)
 | .fn f xs,.fn g ys=>(match Nat.beq f g with | true=>Yj xs ys | false=>none)
 | .Fm xs,.Fm ys=>Yj xs ys
 | .agg xs,.agg ys=>Yj xs ys
 | x,y=>(match TF x y with | true=>some [] | false=>none)
def Yj:List TV->List TV->Option (List Prop)
 | [],[]=>some []
 | x::xs,y::ys=>(match vl x y,Yj xs ys with | some p,some q=>some (p++q) | _,_=>none)
 | _,_=>none
end
noncomputable def aV {A B:Type} (TS:List B4):(ws:List Sh)->PT ws A->PT ws B->List TV->(A->B->Prop)->Prop
 | [],p,m,[],f=>f p m
 | .val t::r,p,m,x::xs,f=>(match UO t x with | some a=>aV TS r (p a) (m a) xs f | none=>False)
 | .sub l::r,p,m,.sl l' off len::xs,f=>(match Nat.beq l l' with | true=>aV TS r (p off len) (m off len) xs f | false=>False)
 | .sub l::r,p,m,.HW l'::xs,f=>(match Nat.beq l l',Bq TS l with | true,some (.row _ ls)=>aV TS r (p 0 (ls.length:Int)) (m 0 (ls.length:Int)) xs f | _,_=>False)
 | .eh x0::r,p,m,x::xs,f=>(match TF x0 x with | true=>aV TS r p m xs f | false=>(match vl x0 x with | some ps=>Of ps (aV TS r p m xs f) | none=>False))
 | _,_,_,_,_=>False
def wK:B4->B4->Option (List Prop)
 | .dead,.dead=>some []
 | .row t l,.row t' l'=>(match Om t t' with | some ⟨h⟩=>some [(h▸l:List (T t'))=l'] | none=>none)
 | .ED t l,.ED t' l'=>(match Om t t' with | some ⟨h⟩=>some [(h▸l:List (List (T t')))=l'] | none=>none)
 | .cells k cs,.cells k' cs'=>(match Nat.beq k k' with | true=>Yj cs cs' | false=>none)
 | _,_=>none
noncomputable def aO {A B:Type} (TS:List B4):(os:List mP)->PO os A->PO os B->List B4->(A->B->Prop)->Prop
 | [],p,m,_,f=>f p m
 | .AW o::r,p,m,o'::S,f=>(match wK o o' with | some ps=>Of ps (aO TS r p m S f) | none=>False)
 | .row _ t::r,p,m,.row t' l::S,f=>(match Om t' t with | some ⟨h⟩=>aO TS r (p (h▸l)) (m (h▸l)) S f | none=>False)
 | .ED _ t::r,p,m,.ED t' l::S,f=>(match Om t' t with | some ⟨h⟩=>aO TS r (p (h▸l)) (m (h▸l)) S f | none=>False)
 | .cells _ k shs::r,p,m,.cells k' cs::S,f=>(match Nat.beq k k' with | true=>aV TS shs p m cs fun p m=>aO TS r p m S f | false=>False)
 | _,_,_,_,_=>False
def X3 (a b l:Nat):Nat:=match Nat.beq l a with | true=>b | false=>(match Nat.beq l b with | true=>a | false=>l)
mutual
def du (a b:Nat):TV->TV
 | .HW l=>.HW (X3 a b l)
 | .sl l o n=>.sl (X3 a b l) o n
 | .ptr l o=>.ptr (X3 a b l) o
 | .H7 l i o=>.H7 (X3 a b l) i o
 | .WL l i=>.WL (X3 a b l) i
 | .ifs t l=>.ifs t (X3 a b l)
 | .FN l i j k o=>.FN (X3 a b l) i j k o
 | .agg cs=>.agg (pk a b cs)
 | .DG cs=>.DG (pk a b cs)
 | .Fm cs=>.Fm (pk a b cs)
 | .fn f cs=>.fn f (pk a b cs)
 | x=>x
def pk (a b:Nat):List TV->List TV
 | []=>[]
 | x::xs=>du a b x::pk a b xs
end
def uZ (a b:Nat):RF->RF
 | []=>[]
 | (s,gs,p,x)::F=>(s,gs,p,du a b x)::uZ a b F
def wo (a b:Nat):List RF->List RF
 | []=>[]
 | F::G=>uZ a b F::wo a b G
def dU (a b:Nat):B4->B4
 | .cells k cs=>.cells k (pk a b cs)
 | o=>o
def vS (a b:Nat):List B4->List B4
 | []=>[]
 | o::S=>dU a b o::vS a b S
def vt (a b:Nat) (S:List B4):List B4:=
 match Bq S a,Bq S b with
 | some x,some y=>Fj (Fj (vS a b S) a (dU a b y)) b (dU a b x)
 | _,_=>vS a b S
def dK (F:RF) (TS:List B4) (p:Nat×Nat):Nat:=
 match Nat.ble 1000000 p.1 with
 | true=>(match PA F (Nat.sub p.1 1000000) with
  | .ptr l 0=>(match Bq TS l with | some (.cells _ (.HW m::_))=>m | _=>p.2)
  | _=>p.2)
 | false=>(match PA F p.1 with | .HW l=>l | .ptr l 0=>l | _=>p.2)
def TI:List (Nat×Nat)->TK->TK
 | [],K,F,G,TS=>K F G TS
 | p::ps,K,F,G,TS=>(match Nat.beq (dK F TS p) p.2 with
  | true=>TI ps K F G TS
  | false=>(match Bq TS (dK F TS p),Bq TS p.2 with
   | some _,some _=>TI ps K (uZ (dK F TS p) p.2 F) (wo (dK F TS p) p.2 G) (vt (dK F TS p) p.2 TS)
   | _,_=>False))
mutual
def iq:Ty->List Ty
 | .st fs=>np fs
 | t=>[t]
def np:KJ->List Ty
 | .nil=>[]
 | .cons t ts=>iq t++np ts
end
def Lc:Nat->List Ty->List TV->List TV×List B4
 | n,t::ts,c::cs=>(match t,c with
  | .sl e,.AM=>(.HW n::(Lc (n+1) ts cs).1,.row e []::(Lc (n+1) ts cs).2)
  | _,c=>(c::(Lc n ts cs).1,(Lc n ts cs).2))
 | _,_,cs=>(cs,[])
def VX (ty:List (Nat×Ty)) (F:RF):List Nat->List B4->List B4
 | [],TS=>TS
 | s::ss,TS=>(match PA F s,BE ty s with
  | .ptr l 0,some t=>(match Bq TS l with
   | some (.cells k cs)=>VX ty F ss (Fj (ck TS (Lc (Og TS) (iq t) cs).2) l (.cells k (Lc (Og TS) (iq t) cs).1))
   | _=>VX ty F ss TS)
  | _,_=>VX ty F ss TS)
noncomputable def pq (ty:List (Nat×Ty)) (Wb:List Nat) (L:List B4->Prop) (F:RF) (TS:List B4):Prop:=L (VX ty F Wb TS)
noncomputable def tN (body:(BU->TK)->TK) (hi:Hi) (an:An) (AW W:List Nat) (Q:BU->TK) (F:RF) (G:List RF) (TS:List B4) (ws:List Sh) (os:List mP):Prop:=
 ∃(I:PT ws (PO os Prop)) (m:PT ws (PO os Nat)),
  (aV TS ws I m (KZ F W) fun I m=>aO TS os I m TS fun I _=>I)/\
  (qV (w5 hi W) ws I m fun I1 m1 xs=>qO os I1 m1 fun I2 m2 TS1=>I2->
   body (wV (TI (vT F TS an.TI) fun F' G' TS'=>(match G' with
    | F0::G'=>(match Q6 (Fh F AW) F0,Xs G G' with
     | true,true=>aV TS' ws I m (KZ F' W) fun I' m'=>aO TS' os I' m' TS' fun I' m'=>I'/\m'<m2
     | _,_=>False)
    | []=>False)) (uL Q)) (T1 W xs (Fh F AW)) (Fh F AW::G) TS1)
noncomputable def Zi (hi:Hi):Ak->An->(BU->TK)->TK
 | .skip,_,Q,F,G,TS=>Q .normal F G TS
 | .ops l d AW,_,Q,F,G,TS=>(match bV d with
  | 0=>Lq Γ call hi (fun F' G' TS'=>Q .normal (Fh F' AW) G' TS') (match d with | some m=>m.1 | none=>0) l F G TS
  | r+1=>(match d with
   | some m=>(match Nat.beq (l.take m.1).length m.1,Sd Γ hi TS (l.take m.1) F with
    | true,some (ps,F')=>Of ps (mA Γ hi (Lq Γ call hi (fun F' G' TS'=>Q .normal (Fh F' AW) G' TS') 0) (r+1) (l.drop m.1) F' G TS)
    | _,_=>False)
   | none=>False))
 | .seq a b,an,Q,F,G,TS=>Zi hi a an.l (wV (fun F' G' TS'=>Zi hi b an.r Q F' G' TS') Q) F G TS
 | .join AW W _ a b,an,Q,F,G,TS=>(match W7 Γ hi TS a F with
  | some (ps,F')=>Of ps (Zi hi b an.r Q (T1 W (KZ F' W) (Fh F AW)) G TS)
  | none=>Zi hi a an.l (wV (fun F' G' TS'=>(match G' with | F0::G'=>Zi hi b an.r Q (T1 W (KZ F' W) (Fh F0 AW)) G' TS' | []=>False)) (uL Q)) F (Fh F AW::G) TS)
 | .cond x a b,an,Q,F,G,TS=>(match OS F [] x with
  | some .tt=>Zi hi a an.l Q F G TS
  | some .ff=>Zi hi b an.r Q F G TS
  | some y=>(match mS y with
   | some p=>(p->Zi hi a an.l Q (gO F x .tt) G TS)/\(¬p->Zi hi b an.r Q (gO F x .ff) G TS)
   | none=>False)
  | none=>False)
 | .block id a,an,Q,F,G,TS=>Zi hi a an (w6 id Q) F G TS
 | .loop AW W _ a,an,Q,F,G,TS=>
  pq hi.ty an.Wb (fun TS=>tN (fun Q F G TS=>Zi hi a an.body Q F G TS) hi an AW W Q F G TS (Wf (rJ (ke hi.nm F TS an.JX)) (KZ F W)) (Q_ (ke hi.nm F TS an.Wb) (rJ (ke hi.nm F TS an.JX)) 0 TS)) F TS
 | .exit id,_,Q,F,G,TS=>Q (.exit id) F G TS
 | .ret,_,Q,F,G,TS=>Q .ret F G TS
def c_ (F:RF) (TS:List B4):List Kk->Option (List TV)
 | []=>some []
 | .tmp t::rs=>(match c_ F TS rs with | some xs=>some (PA F t::xs) | none=>none)
 | .cell t n ag::rs=>(match PA F t with
  | .ptr l off=>(match Bq TS l with
   | some (.cells _ cs)=>(match IC n (cs.drop off) with
    | some xs=>(match lE ag xs,c_ F TS rs with | some y,some ys=>some (y::ys) | _,_=>none)
    | none=>none)
   | _=>none)
  | _=>none)
def eG:Nat->List TV->RF
 | _,[]=>[]
 | i,x::xs=>(i,[],True,x)::eG (i+1) xs
noncomputable def po (hi:Hi) (c:Ak) (an:An) (res:List Kk) (args:List TV) (G:List RF) (TS:List B4) (K:List TV->List RF->List B4->Prop):Prop:=
 Zi Γ call hi c an (fun e F G TS=>match e with
  | .exit _=>False
  | _=>(match c_ F TS res with | some xs=>K xs G TS | none=>False)) (eG 0 args) G TS
noncomputable def wq (hi:Hi) (c:Ak) (an:An) (res:List Kk) (args:List TV) (G:List RF) (TS:List B4) (K:TV->List RF->List B4->Prop):Prop:=
 po Γ call hi c an res args G TS fun xs=>K (ZR xs)
end
noncomputable def iG (Γ:List (Nat×Ct)) (L:List (Nat×Fi)):Nat->Nat->List TV->List RF->List B4->(TV->List RF->List B4->Prop)->Prop
 | 0,_,_,_,_,_=>False
 | n+1,f,xs,G,TS,K=>(match BE L f with
  | some fi=>(match fi.sp with
   | some s=>(match s.ev xs G TS with | some (ps,y,G',TS')=>Of ps (K y G' TS') | none=>False)
   | none=>(match Nat.ble xs.length fi.n with
    | true=>wq Γ (iG Γ L n) fi.hi fi.code fi.an fi.res xs G TS K
    | false=>False))
  | none=>False)
def u5 (TS:List B4) (t:Ty):TV->Option (List (T t))
 | .AM=>some []
 | .HW l=>(match Bq TS l with
  | some (.row e ls)=>(match Om e t with | some ⟨h⟩=>some (h▸ls) | none=>none)
  | _=>none)
 | _=>none
def vR (TS:List B4) (t:Ty):TV->Option (List Prop×List (T t))
 | .sl l off len=>(match Bq TS l with
  | some (.row e ls)=>(match Om e t with | some ⟨h⟩=>some ([off=0],(h▸ls:List (T t)).take len.toNat) | none=>none)
  | _=>none)
 | x=>(match u5 TS t x with | some a=>some ([],a) | none=>none)
noncomputable def lk (TS:List B4):(r:M0)->TV->Option (List Prop×RT r)
 | .val t,x=>(match PV [] t x with | some a=>some ([],a) | none=>none)
 | .own t,x=>vR TS t x
noncomputable def Nj (TS:List B4):(rs:List M0)->List TV->(P7 rs->Prop)->Prop
 | [],xs,K=>(match xs with | []=>K () | _::_=>False)
 | [r],xs,K=>(match xs with
  | [x]=>(match lk TS r x with | some (ps,a)=>Of ps (K a) | none=>False)
  | _=>False)
 | r::s::rs,xs,K=>(match xs with
  | x::xs=>(match lk TS r x with | some (ps,a)=>Of ps (Nj TS (s::rs) xs fun r=>K (a,r)) | none=>False)
  | []=>False)
def Nd:List M0->List TV->List Nat
 | .own _::rs,.HW l::xs=>l::Nd rs xs
 | .own _::rs,.sl l _ _::xs=>l::Nd rs xs
 | _::rs,_::xs=>Nd rs xs
 | _,_=>[]
def distinct:List Nat->Bool
 | []=>true
 | a::l=>match nt l a with | true=>false | false=>distinct l
def mG:(ts:KJ)->Ts ts->List TV
 | .nil,_=>[]
 | .cons t .nil,x=>[Zh t x]
 | .cons t (.cons u ts),x=>Zh t x.1::mG (.cons u ts) x.2
def u7:(rs:List M0)->P7 rs->P7 rs->Prop
 | [],_,_=>True
 | [_],x,y=>x=y
 | _::s::rs,x,y=>x.1=y.1/\u7 (s::rs) x.2 y.2
noncomputable def vW (Γ:List (Nat×Ct)) (L:List (Nat×Fi)) (depth:Nat) (fi:Fi) (ct:Ct) (x:Ts ct.args):Prop:=
 po Γ (iG Γ L depth) fi.hi fi.code fi.an fi.res (mG ct.args x) [] [] fun xs _ TS=>
  match distinct (Nd ct.res xs) with
  | true=>Nj TS ct.res xs fun y=>u7 ct.res y (ct.fn x)
  | false=>False
structure Cu where
 rt:Ty
 args:KJ
 res:List M0
 pre:T rt->Ts args->Prop
 fn:T rt->Ts args->T rt×P7 res
structure Cm where
 args:KJ
 ref:List Bool
 res:List M0
 pre:Ts args->Prop
 fn:Ts args->P7 res×Ts args
end Go.Vc
end
section
namespace Go.Vc
structure Hd where
 loc:Option (Nat×Nat)
 k:Nat
 len:Nat
 sub:List (Option (Nat×Nat)×Nat)
abbrev HF:=Nat->Option Hd
def KU:Option (Nat×Nat)->Nat->Nat->AA
 | none,_,_=>.AM
 | some (p,v),off,n=>.sl p v off n
mutual
def AE (H:HF):TV->AA->Prop
 | .Ci,_=>True
 | .tt,y=>y= .bool true
 | .ff,y=>y= .bool false
 | .bb b,y=>y= .bool b
 | .pr p,y=> ∃b,y= .bool b/\(b=true↔p)
 | .gd p,y=>(y= .tt/\p)\/(y= .ff/\ ¬p)
 | .int k n,y=>y= .int k n
 | .byte b,y=>y= .int .u8 (b.toNat:Int)
 | .str s,y=>y= .str s
 | .Bp,y=>y= .Bp
 | .H8,y=>y= .H8
 | .H9,y=>y= .H9
 | .MN,y=>y= .MN
 | .AM,y=>y= .AM
 | .Zs v,y=>y= .Zs v
 | .ptr l off,y=> ∃h p v,H l=some h/\h.loc=some (p,v)/\y= .ptr p v off
 | .H7 l i fo,y=> ∃h p v,H l=some h/\h.loc=some (p,v)/\0<=i/\i<h.len/\y= .ptr p v (i.toNat*h.k+fo)
 | .Fm cs,y=> ∃xs,y= .Fm xs/\AJ H cs xs
 | .Em t l,y=>y= .Em l.length (l.flatMap (BQ t))
 | .HW l,y=> ∃h,H l=some h/\y=KU h.loc 0 h.len
 | .ifs t l,y=> ∃h,H l=some h/\y= .iface t (KU h.loc 0 h.len)
 | .sl l off len,y=> ∃h,H l=some h/\0<=off/\0<=len/\off+len<=h.len/\y=KU h.loc (off.toNat*h.k) len.toNat
 | .agg cs,y=> ∃xs,y= .agg xs/\AJ H cs xs
 | .DG cs,y=> ∃xs,y= .DG xs/\AJ H cs xs
 | .fn f cap,y=> ∃xs,y= .fn (.func f) [] xs/\AJ H cap xs
 | .WL l i,y=> ∃h q,H l=some h/\0<=i/\h.sub[i.toNat]?=some q/\y=KU q.1 0 q.2
 | .FN l i j k fo,y=> ∃h p v n,H l=some h/\0<=i/\h.sub[i.toNat]?=some (some (p,v),n)/\0<=j/\j<(n:Int)/\y= .ptr p v (j.toNat*k+fo)
def AJ (H:HF):List TV->List AA->Prop
 | [],ys=>ys=[]
 | x::xs,ys=> ∃y zs,ys=y::zs/\AE H x y/\AJ H xs zs
end
section
variable {H : HF}
theorem AJ.nil {ys:List AA}:AJ H [] ys↔ys=[]:=by simp only [AJ]
theorem AJ.length: ∀ {xs:List TV} {ys:List AA},AJ H xs ys->ys.length=xs.length
 | [],_,h=>by simp only [AJ] at h;simp [h]
 | x::xs,_,h=>by
  simp only [AJ] at h;obtain ⟨y,zs,rfl,_,h⟩:=h;simp [AJ.length h]
theorem AJ.append: ∀ {xs:List TV} {ys:List AA} {xs':List TV} {ys':List AA},AJ H xs ys->AJ H xs' ys'->AJ H (xs++xs') (ys++ys')
 | [],_,_,_,h,h'=>by simp only [AJ] at h;subst h;simpa using h'
 | x::xs,_,_,_,h,h'=>by
  simp only [AJ] at h;obtain ⟨y,zs,rfl,h1,h2⟩:=h;simp only [List.cons_append,AJ];exact ⟨_,_,rfl,h1,h2.append h'⟩
theorem AJ.drop: ∀ {xs:List TV} {ys:List AA} (n:Nat),AJ H xs ys->AJ H (xs.drop n) (ys.drop n)
 | xs,ys,0,h=>by simpa using h
 | [],_,n+1,h=>by simp only [AJ] at h;subst h;simp [AJ]
 | x::xs,_,n+1,h=>by
  simp only [AJ] at h;obtain ⟨y,zs,rfl,_,h⟩:=h;simpa using h.drop n
theorem AJ.IC: ∀ {n:Nat} {xs xs':List TV} {ys:List AA},AJ H xs ys->IC n xs=some xs'-> ∃ys',takeN n ys=some ys'/\AJ H xs' ys'
 | 0,_,_,_,_,h=>by simp [Vc.IC] at h;subst h;exact ⟨[],rfl,by simp [AJ]⟩
 | n+1,[],_,_,_,h=>by simp [Vc.IC] at h
 | n+1,x::xs,_,_,hs,h=>by
  simp only [AJ] at hs;obtain ⟨y,zs,rfl,h1,h2⟩:=hs;simp only [Vc.IC] at h;split at h<;>cases h;rename_i r hr;obtain ⟨ys',g1,g2⟩:=h2.IC hr;exact ⟨y::ys',by simp [takeN,g1],by simp only [AJ];exact ⟨_,_,rfl,h1,g2⟩⟩
theorem AJ.Ms: ∀ {xs zs:List TV} {ys ws:List AA},AJ H xs ys->AJ H zs ws->AJ H (Ms xs zs) (over ys ws)
 | [],zs,_,_,h,_=>by simp only [AJ] at h;subst h;cases zs<;>simp [Vc.Ms,over,AJ]
 | x::xs,[],_,_,h,h'=>by
  simp only [AJ] at h';subst h';have h0:=h;simp only [AJ] at h;obtain ⟨y,zs,rfl,_,_⟩:=h;simpa [Vc.Ms,over] using h0
 | x::xs,z::zs,_,_,h,h'=>by
  simp only [AJ] at h h';obtain ⟨y,ys,rfl,h1,h2⟩:=h;obtain ⟨w,ws,rfl,g1,g2⟩:=h';simp only [Vc.Ms,over,AJ];exact ⟨_,_,rfl,g1,h2.Ms g2⟩
theorem AJ.J6: ∀ {n:Nat} {xs zs:List TV} {ys ws:List AA},AJ H xs ys->AJ H zs ws->AJ H (J6 xs n zs) (setCells ys n ws)
 | 0,xs,zs,ys,ws,h,h'=>by
  have e1:Vc.J6 xs 0 zs=Vc.Ms xs zs:=by cases xs<;>rfl
  have e2:setCells ys 0 ws=over ys ws:=by cases ys<;>rfl
  rw [e1,e2];exact h.Ms h'
 | n+1,[],zs,_,ws,h,_=>by simp only [AJ] at h;subst h;simp [Vc.J6,setCells,AJ]
 | n+1,x::xs,zs,_,ws,h,h'=>by
  simp only [AJ] at h;obtain ⟨y,ys,rfl,h1,h2⟩:=h;simp only [Vc.J6,setCells,AJ];exact ⟨_,_,rfl,h1,h2.J6 h'⟩
theorem J8 {α:Type}: ∀ {l:List α} {n:Nat},Mb l n=true->l.length=n
 | [],0,_=>rfl
 | [],n+1,h=>by simp [Mb] at h
 | _::_,0,h=>by simp [Mb] at h
 | _::l,n+1,h=>by simp only [Mb] at h;simp [J8 h]
theorem J9: ∀ {n:Nat} {l:List TV},sizeLe n l=true->n<=l.length
 | 0,_,_=>Nat.zero_le _
 | n+1,[],h=>by simp [sizeLe] at h
 | n+1,_::l,h=>by simp only [sizeLe] at h;have:=J9 h;simp;omega
theorem Nt {α:Type}: ∀ {xs ys:List α} {n:Nat},(Vc.J6 xs n ys).length=xs.length
 | xs,ys,0=>by
  have e1:Vc.J6 xs 0 ys=Vc.Ms xs ys:=by cases xs<;>rfl
  rw [e1];clear e1
  induction xs generalizing ys with
  | nil=>cases ys<;>rfl
  | cons x xs ih=>cases ys with
   | nil=>rfl
   | cons y ys=>simp only [Vc.Ms,List.length_cons,ih]
 | [],ys,n+1=>by simp [Vc.J6]
 | x::xs,ys,n+1=>by simp [Vc.J6,Nt]
theorem beq_eq {a b:Nat} (h:Nat.beq a b=true):a=b:=Nat.eq_of_beq_eq_true h
theorem HT {x:TV} {cs:List TV} {y:AA} (h:Oc x=some cs) (hs:AE H x y) {K:List AA->Prop} (hk: ∀ys,AJ H cs ys->K ys):Gc y K:=by
 cases x<;>simp only [Oc] at h<;>cases h<;>simp only [AE] at hs
 case agg.refl=>
  obtain ⟨xs,rfl,hs⟩:=hs;exact hk _ hs
 case HW.refl=>
  obtain ⟨h,h1,rfl⟩:=hs;have:=hk [KU h.loc 0 h.len] (by simp only [AJ,AE];exact ⟨_,[],rfl,⟨h,h1,rfl⟩,rfl⟩)
  revert this
  cases h.loc<;>exact id
 case sl.refl=>
  rename_i l off len;obtain ⟨h,h1,h2,h3,h4,rfl⟩:=hs;have:=hk [KU h.loc (off.toNat*h.k) len.toNat] (by simp only [AJ,AE];exact ⟨_,[],rfl,⟨h,h1,h2,h3,h4,rfl⟩,rfl⟩)
  revert this
  cases h.loc<;>exact id
 case pr.refl=>
  obtain ⟨b,rfl,hb⟩:=hs;exact hk _ (by simp only [AJ,AE];exact ⟨_,[],rfl,⟨b,rfl,hb⟩,rfl⟩)
 case ptr.refl=>
  obtain ⟨h,p,v,h1,h2,rfl⟩:=hs;exact hk _ (by simp only [AJ,AE];exact ⟨_,[],rfl,⟨h,p,v,h1,h2,rfl⟩,rfl⟩)
 case H7.refl=>
  obtain ⟨h,p,v,h1,h2,h3,h4,rfl⟩:=hs;exact hk _ (by simp only [AJ,AE];exact ⟨_,[],rfl,⟨h,p,v,h1,h2,h3,h4,rfl⟩,rfl⟩)
 case Fm.refl=>
  obtain ⟨xs,rfl,h⟩:=hs;exact hk _ (by simp only [AJ,AE];exact ⟨_,[],rfl,⟨xs,rfl,h⟩,rfl⟩)
 case fn.refl=>
  obtain ⟨xs,rfl,h⟩:=hs;exact hk _ (by simp only [AJ,AE];exact ⟨_,[],rfl,⟨xs,rfl,h⟩,rfl⟩)
 all_goals
  subst hs;exact hk _ (by simp only [AJ,AE];exact ⟨_,[],rfl,rfl,rfl⟩)
end
theorem jG {H:HF} {x:AA} {t:TV} (h:vr x=some t):AE H t x:=by
 unfold vr at h;split at h<;>cases h<;>simp [AE,AJ]
theorem Hq {H:HF}: ∀ {xs:List AA} {ts:List TV},o9 xs=some ts->AJ H ts xs
 | [],_,h=>by simp [o9] at h;subst h;simp [AJ]
 | x::xs,_,h=>by
  simp only [o9] at h;split at h<;>cases h;rename_i y ys h1 h2;simp only [AJ];exact ⟨_,_,rfl,jG h1,Hq h2⟩
theorem sB {H:HF} {x:AA} {t:TV} (h:wT x=some t):AE H t x:=by
 unfold wT at h;split at h
 ·split at h<;>cases h;rename_i h1;simp only [AE];exact ⟨_,rfl,Hq h1⟩
 ·exact jG h
def holds (A:Frame) (gs:List (Nat×Bool)):Prop:= ∀q∈gs,A.get q.1=if q.2 then .tt else .ff
structure iA (H:HF) (A:Frame) (s:Nat) (gs:List (Nat×Bool)) (P:Prop) (x:TV):Prop where
 on:holds A gs->AE H x (A.get s)
 off: ¬holds A gs->A.get s= .DG []
 iff:holds A gs↔P
def CS (H:HF) (F:RF) (A:Frame):Prop:= ∀s gs P x,BE F s=some (gs,P,x)->iA H A s gs P x
theorem Rc: ∀ {p q:List (Nat×Bool)},NK p q=true->p=q
 | [],[],_=>rfl
 | [],_::_,h=>by simp [NK] at h
 | (a,x)::p,[],h=>by cases x<;>simp [NK] at h
 | (a,x)::p,(b,y)::q,h=>by
  cases x<;>cases y<;>simp only [NK] at h<;>first | (cases h;done) | skip
  all_goals
   split at h<;>first | (cases h;done) | skip
   rename_i hb;rw [beq_eq hb,Rc h]
theorem Pu {A:Frame} {gs:List (Nat×Bool)}: ∀ {p:List (Nat×Bool)},gY gs p=true->holds A p->holds A gs
 | [],h,_=>by
  cases gs with
  | nil=>intro q hq;cases hq
  | cons=>simp [gY] at h
 | q::p,h,hp=>by
  simp only [gY] at h;split at h
  ·rename_i he;rw [Rc he];exact hp
  ·exact Pu h fun r hr=>hp r (by simp [hr])
theorem A9 {A:Frame}:holds A []:=fun q hq=>by cases hq
section
variable {H : HF} {F : RF} {A : Frame} {path : List (Nat × Bool)}
theorem Bd (hF:CS H F A) (hp:holds A path) {r:AL} {x:TV} (h:OS F path r=some x):AE H x (rd A r):=by
 cases r with
 | c x=>exact sB h
 | t n=>
  simp only [OS] at h;split at h
  ·rename_i gs P y hl;split at h<;>cases h;rename_i hs;exact (hF _ _ _ _ hl).on (Pu hs hp)
  ·cases h
theorem FQ (hF:CS H F A) (hp:holds A path): ∀ {rs:List AL} {xs:List TV},VZ F path rs=some xs->AJ H xs (rs.map (rd A))
 | [],_,h=>by simp [VZ] at h;subst h;simp [AJ]
 | r::rs,_,h=>by
  simp only [VZ] at h;split at h<;>cases h;rename_i h1 h2;simp only [List.map_cons,AJ];exact ⟨_,_,rfl,Bd hF hp h1,FQ hF hp h2⟩
theorem OI (hF:CS H F A) (hp:holds A path) {K:List AA->Prop}: ∀ {ps:List (Nat×Nat×AL)} {cs zs:List TV} {ys:List AA},W9 F path cs ps=some zs->AJ H cs ys->(∀ws,AJ H zs ws->K ws)->JO A ys K ps
 | [],cs,zs,ys,h,hs,hk=>by simp [W9] at h;subst h;exact hk _ hs
 | (off,n,x)::ps,cs,zs,ys,h,hs,hk=>by
  simp only [W9] at h;split at h
  ·rename_i x' hx;split at h
   ·rename_i us hu;split at h
    ·rename_i h1 h2;simp only [JO,AD];refine HT hu (Bd hF hp hx) fun ws hw=>?_;have e1:=hw.length;have e2:=hs.length;have e3:=J8 h1;have e4:=J9 h2;refine ⟨by omega,by omega,?_⟩;rw [FV];exact OI hF hp h (hs.J6 hw) hk
    ·cases h
   ·cases h
  ·cases h
end
mutual
theorem G5 {H:HF}: ∀(t:Ty) (x:T t),AJ H (Fq t x) (BQ t x)
 | .int k,n=>by simp [Fq,BQ,AJ,AE]
 | .str,s=>by simp [Fq,BQ,AJ,AE]
 | .bool,b=>by simp [Fq,BQ,AJ,AE]
 | .st fs,x=>by simp only [Fq,BQ];exact KX fs x
 | .sl e,l=>by simp only [Fq,BQ,AJ,AE];exact ⟨_,[],rfl,rfl,rfl⟩
theorem KX {H:HF}: ∀(ts:KJ) (x:Ts ts),AJ H (MA ts x) (Gg ts x)
 | .nil,_=>by simp [MA,Gg,AJ]
 | .cons t .nil,x=>by simp only [MA,Gg];exact G5 t x
 | .cons t (.cons u ts),(x,y)=>by simp only [MA,Gg];exact (G5 t x).append (KX (.cons u ts) y)
end
theorem UE {H:HF}: ∀(t:Ty) (x:T t),AE H (Zh t x) (DL t x)
 | .int k,n=>by simp [Zh,DL,AE]
 | .str,s=>by simp [Zh,DL,AE]
 | .bool,b=>by simp [Zh,DL,AE]
 | .st fs,x=>by simp only [Zh,DL,AE];exact ⟨_,rfl,KX fs x⟩
 | .sl e,l=>by simp only [Zh,DL,AE]
theorem dW {H:HF}: ∀(ts:KJ) (x:Ts ts),AJ H (mG ts x) (Ff ts x)
 | .nil,_=>by simp [mG,Ff,AJ]
 | .cons t .nil,x=>by simp only [mG,Ff,AJ];exact ⟨_,[],rfl,UE t x,rfl⟩
 | .cons t (.cons u ts),(x,y)=>by simp only [mG,Ff,AJ];exact ⟨_,_,rfl,UE t x,dW (.cons u ts) y⟩
mutual
theorem A5: ∀(t:Ty) (x:T t),(BQ t x).length=GZ t
 | .int k,n=>rfl
 | .str,s=>rfl
 | .bool,b=>rfl
 | .st fs,x=>by simp only [BQ,GZ];exact QQ fs x
 | .sl e,l=>rfl
theorem QQ: ∀(ts:KJ) (x:Ts ts),(Gg ts x).length=sR ts
 | .nil,_=>rfl
 | .cons t .nil,x=>by simp only [Gg,sR,A5 t x];rfl
 | .cons t (.cons u ts),(x,y)=>by simp only [Gg,List.length_append,A5 t x,QQ (.cons u ts) y];rfl
end
theorem On (t:Ty) (x:T t):(Fq t x).length=GZ t:=by
 have:=(G5 (H:=fun _=>none) t x).length;rw [A5] at this;exact this.symm
theorem Eb {H:HF} {x:TV} {y:AA} {k:IntKind} {n:Int} (h:eH x=some (k,n)) (hs:AE H x y):y= .int k n:=by
 cases x<;>simp only [eH] at h<;>cases h<;>simpa [AE] using hs
theorem T3 {H:HF} {x:TV} {y:AA} {b:Bool} (h:um x=some b) (hs:AE H x y):y= .bool b:=by
 cases x<;>simp only [um] at h<;>cases h<;>simp only [AE] at hs
 case pr.refl=>
  obtain ⟨b,rfl,hb⟩:=hs;congr 1;rw [Bool.eq_iff_iff,hb];simp [bo]
 all_goals exact hs
theorem G_ {k k':IntKind} {p:PLift (k=k')} (h:fQ k k'=some p):k=k':=p.down
theorem nL {H:HF} {k:IntKind} {cs r:List TV} {x:Int} {ys:List AA} (h:qq k cs=some (x,r)) (hs:AJ H cs ys): ∃zs,ys= .int k x::zs/\AJ H r zs:=by
 cases cs with
 | nil=>simp [qq] at h
 | cons c cs=>
  simp only [qq] at h;split at h
  ·rename_i k' n hi;split at h<;>cases h;rename_i hk;have hk:=G_ hk;subst hk;simp only [AJ] at hs;obtain ⟨y,zs,rfl,h1,h2⟩:=hs;exact ⟨zs,by rw [Eb hi h1],h2⟩
  ·cases h
theorem e9 {H:HF} {cs r:List TV} {x:List UInt8} {ys:List AA} (h:ew cs=some (x,r)) (hs:AJ H cs ys): ∃zs,ys= .str x::zs/\AJ H r zs:=by
 unfold ew at h;split at h<;>cases h;simp only [AJ,AE] at hs;obtain ⟨y,zs,rfl,rfl,h2⟩:=hs;exact ⟨zs,rfl,h2⟩
theorem aU {H:HF} {cs r:List TV} {x:Bool} {ys:List AA} (h:T4 cs=some (x,r)) (hs:AJ H cs ys): ∃zs,ys= .bool x::zs/\AJ H r zs:=by
 cases cs with
 | nil=>simp [T4] at h
 | cons c cs=>
  simp only [T4] at h;split at h<;>cases h;rename_i hb;simp only [AJ] at hs;obtain ⟨y,zs,rfl,h1,h2⟩:=hs;exact ⟨zs,by rw [T3 hb h1],h2⟩
theorem kH {H:HF} {e:Ty} {cs r:List TV} {x:List (T e)} {ys:List AA} (h:nN e cs=some (x,r)) (hs:AJ H cs ys): ∃zs,ys= .Em x.length (x.flatMap (BQ e))::zs/\AJ H r zs:=by
 unfold nN at h;split at h
 ·split at h<;>cases h;rename_i hh _;subst hh;simp only [AJ,AE] at hs;obtain ⟨y,zs,rfl,rfl,h2⟩:=hs;exact ⟨zs,rfl,h2⟩
 ·cases h
mutual
theorem NG {H:HF}: ∀(t:Ty) {cs r:List TV} {x:T t} {ys:List AA},UP t cs=some (x,r)->AJ H cs ys-> ∃zs,ys=BQ t x++zs/\AJ H r zs
 | .int k,cs,r,x,ys,h,hs=>by simp only [UP] at h;exact nL h hs
 | .str,cs,r,x,ys,h,hs=>by simp only [UP] at h;exact e9 h hs
 | .bool,cs,r,x,ys,h,hs=>by simp only [UP] at h;exact aU h hs
 | .st fs,cs,r,x,ys,h,hs=>by simp only [UP] at h;exact LN fs h hs
 | .sl e,cs,r,x,ys,h,hs=>by simp only [UP] at h;exact kH h hs
theorem LN {H:HF}: ∀(ts:KJ) {cs r:List TV} {x:Ts ts} {ys:List AA},UQ ts cs=some (x,r)->AJ H cs ys-> ∃zs,ys=Gg ts x++zs/\AJ H r zs
 | .nil,cs,r,x,ys,h,hs=>by
  simp only [UQ,Option.some.injEq,Prod.mk.injEq] at h;obtain ⟨_,rfl⟩:=h;exact ⟨ys,rfl,hs⟩
 | .cons t .nil,cs,r,x,ys,h,hs=>by
  simp only [UQ] at h;exact NG t h hs
 | .cons t (.cons u ts),cs,r,x,ys,h,hs=>by
  simp only [UQ] at h;split at h
  ·rename_i a r1 h1;split at h<;>cases h;rename_i b h2;obtain ⟨zs,rfl,g1⟩:=NG t h1 hs;obtain ⟨ws,rfl,g2⟩:=LN (.cons u ts) h2 g1;exact ⟨ws,by simp [Gg],g2⟩
  ·cases h
end
end Go.Vc
end
section
namespace Go.Vc
def TT (H H':HF):Prop:= ∀l h,H l=some h->H' l=some h
mutual
theorem AE.ext {H H':HF} (hl:TT H H'): ∀ {x:TV} {y:AA},AE H x y->AE H' x y
 | .Ci,_,_=>by simp [AE]
 | .tt,_,h=>by simpa [AE] using h
 | .ff,_,h=>by simpa [AE] using h
 | .bb _,_,h=>by simpa [AE] using h
 | .pr _,_,h=>by simpa [AE] using h
 | .gd _,_,h=>by simpa [AE] using h
 | .int _ _,_,h=>by simpa [AE] using h
 | .byte _,_,h=>by simpa [AE] using h
 | .str _,_,h=>by simpa [AE] using h
 | .Bp,_,h=>by simpa [AE] using h
 | .H8,_,h=>by simpa [AE] using h
 | .H9,_,h=>by simpa [AE] using h
 | .MN,_,h=>by simpa [AE] using h
 | .Zs _,_,h=>by simpa [AE] using h
 | .AM,_,h=>by simpa [AE] using h
 | .Em _ _,_,h=>by simpa [AE] using h
 | .ptr l off,_,h=>by
  simp only [AE] at*;obtain ⟨h,p,v,h1,h2⟩:=h;exact ⟨h,p,v,hl _ _ h1,h2⟩
 | .H7 l i fo,_,h=>by
  simp only [AE] at*;obtain ⟨h,p,v,h1,h2⟩:=h;exact ⟨h,p,v,hl _ _ h1,h2⟩
 | .WL l i,_,h=>by
  simp only [AE] at*;obtain ⟨h,q,h1,h2⟩:=h;exact ⟨h,q,hl _ _ h1,h2⟩
 | .FN l i j k fo,_,h=>by
  simp only [AE] at*;obtain ⟨h,p,v,n,h1,h2⟩:=h;exact ⟨h,p,v,n,hl _ _ h1,h2⟩
 | .HW l,_,h=>by
  simp only [AE] at*;obtain ⟨h,h1,h2⟩:=h;exact ⟨h,hl _ _ h1,h2⟩
 | .sl l _ _,_,h=>by
  simp only [AE] at*;obtain ⟨h,h1,h2⟩:=h;exact ⟨h,hl _ _ h1,h2⟩
 | .ifs _ l,_,h=>by
  simp only [AE] at*;obtain ⟨h,h1,h2⟩:=h;exact ⟨h,hl _ _ h1,h2⟩
 | .Fm cs,_,h=>by
  simp only [AE] at*;obtain ⟨xs,h1,h2⟩:=h;exact ⟨xs,h1,AJ.ext hl h2⟩
 | .agg cs,_,h=>by
  simp only [AE] at*;obtain ⟨xs,h1,h2⟩:=h;exact ⟨xs,h1,AJ.ext hl h2⟩
 | .DG cs,_,h=>by
  simp only [AE] at*;obtain ⟨xs,h1,h2⟩:=h;exact ⟨xs,h1,AJ.ext hl h2⟩
 | .fn f cs,_,h=>by
  simp only [AE] at*;obtain ⟨xs,h1,h2⟩:=h;exact ⟨xs,h1,AJ.ext hl h2⟩
theorem AJ.ext {H H':HF} (hl:TT H H'): ∀ {x:List TV} {y:List AA},AJ H x y->AJ H' x y
 | [],_,h=>by simpa [AJ] using h
 | x::xs,_,h=>by
  simp only [AJ] at*;obtain ⟨y,zs,h1,h2,h3⟩:=h;exact ⟨y,zs,h1,AE.ext hl h2,AJ.ext hl h3⟩
end
theorem CS.ext {H H':HF} {F:RF} {A:Frame} (h:CS H F A) (hl:TT H H'):CS H' F A:=fun s gs P x hx=>
 let e:=h s gs P x hx
 ⟨fun q=>(e.on q).ext hl,e.off,e.iff⟩
inductive Dr (H:HF):List RF->List Frame->Prop
 | nil:Dr H [] []
 | cons {F:RF} {A:Frame} {G:List RF} {AG:List Frame} (h:CS H F A) (hs:Dr H G AG):Dr H (F::G) (A::AG)
theorem Dr.ext {H H':HF} {G:List RF} {AG:List Frame} (h:Dr H G AG) (hl:TT H H'):Dr H' G AG:=by
 induction h with
 | nil=>exact .nil
 | cons h _ ih=>exact .cons (h.ext hl) ih
theorem Iu: ∀(TS:List B4) (l:Nat),Bq TS l=TS[l]?
 | [],l=>by simp [Bq]
 | o::TS,0=>by simp [Bq]
 | o::TS,l+1=>by simp [Bq,Iu TS l]
theorem E7: ∀(TS:List B4) (l:Nat) (o:B4),Fj TS l o=TS.set l o
 | [],l,o=>by simp [Fj]
 | a::TS,0,o=>by simp [Fj]
 | a::TS,l+1,o=>by simp [Fj,E7 TS l o]
theorem Fg: ∀(TS:List B4),Og TS=TS.length
 | []=>rfl
 | _::TS=>by simp [Og,Fg TS]
theorem FP: ∀(TS:List B4) (o:B4),Mu TS o=TS++[o]
 | [],o=>rfl
 | a::TS,o=>by simp [Mu,FP TS o]
theorem VY: ∀(TS S:List B4),ck TS S=TS++S
 | [],S=>rfl
 | a::TS,S=>by simp [ck,VY TS S]
def CK (S:AB) (t:Ty) (ls:List (T t)):Option (Nat×Nat)->Prop
 | none=>ls=[]
 | some (p,v)=>S[p]?=some (.row v (GZ t) (ls.flatMap (BQ t)))
def Zd (q:Option (Nat×Nat)×Nat):AA:=KU q.1 0 q.2
structure PN (S:AB) (t:Ty) (ls:List (List (T t))) (sub:List (Option (Nat×Nat)×Nat)):Prop where
 len:sub.length=ls.length
 at_: ∀(i:Nat) l q,ls[i]?=some l->sub[i]?=some q->q.2=l.length/\CK S t l q.1
def P6 (H:HF) (S:AB) (l:Nat):B4->Prop
 | .dead=>H l=none
 | .cells k cs=> ∃p v xs,H l=some ⟨some (p,v),k,cs.length,[]⟩/\S[p]?=some (.row v k xs)/\AJ H cs xs
 | .row t ls=> ∃loc,H l=some ⟨loc,GZ t,ls.length,[]⟩/\CK S t ls loc
 | .ED t ls=> ∃p v sub,H l=some ⟨some (p,v),1,ls.length,sub⟩/\S[p]?=some (.row v 1 (sub.map Zd))/\PN S t ls sub
structure DO (H:HF) (TS:List B4) (S:AB):Prop where
 ob: ∀(l:Nat) o,TS[l]?=some o->P6 H S l o
 out: ∀l,TS.length<=l->H l=none
 inj: ∀l l' h h' p v v',H l=some h->H l'=some h'->h.loc=some (p,v)->h'.loc=some (p,v')->l=l'
 sub: ∀(l i:Nat) (h:Hd) (p v n:Nat),H l=some h->h.sub[i]?=some (some (p,v),n)->p<S.length/\(∀l' h' v',H l'=some h'->h'.loc≠some (p,v'))/\
  (∀(l' i':Nat) (h':Hd) (v' n':Nat),H l'=some h'->h'.sub[i']?=some (some (p,v'),n')->l'=l/\i'=i)
theorem DO.lt {H:HF} {TS:List B4} {S:AB} (st:DO H TS S) {l:Nat} {h:Hd} {p v:Nat} (hl:H l=some h) (hp:h.loc=some (p,v)):p<S.length:=by
 have hlt:l<TS.length:=by
  rcases Nat.lt_or_ge l TS.length with q | q
  ·exact q
  ·rw [st.out l q] at hl;cases hl
 have:=st.ob l _ (List.getElem?_eq_getElem hlt);generalize TS[l]=o at this;cases o with
 | dead=>simp only [P6] at this;rw [this] at hl;cases hl
 | cells k cs=>
  obtain ⟨p',v',xs,h1,h2,_⟩:=this;rw [h1] at hl;cases hl;cases hp;exact (List.getElem?_eq_some_iff.1 h2).1
 | row t ls=>
  obtain ⟨loc,h1,h2⟩:=this;rw [h1] at hl;cases hl;simp only at hp;subst hp;exact (List.getElem?_eq_some_iff.1 h2).1
 | ED t ls=>
  obtain ⟨p',v',sub,h1,h2,_⟩:=this;rw [h1] at hl;cases hl;cases hp;exact (List.getElem?_eq_some_iff.1 h2).1
theorem PN.ext {S S':AB} {t:Ty} {ls:List (List (T t))} {sub:List (Option (Nat×Nat)×Nat)} (h:PN S t ls sub) (hS: ∀(p:Nat) x,(∃(i v n:Nat),sub[i]?=some (some (p,v),n))->S[p]?=some x->S'[p]?=some x):PN S' t ls sub:=
 ⟨h.len,fun i l q h1 h2=>by
  obtain ⟨g1,g2⟩:=h.at_ i l q h1 h2;refine ⟨g1,?_⟩;obtain ⟨loc,n⟩:=q;cases loc with
  | none=>exact g2
  | some pv=>exact hS _ _ ⟨i,pv.2,n,h2⟩ g2⟩
theorem P6.ext {H H':HF} {S S':AB} {l:Nat} {o:B4} (h:P6 H S l o) (hl:TT H H') (hS: ∀(p:Nat) x,S[p]?=some x->S'[p]?=some x) (hd:H l=none->H' l=none):P6 H' S' l o:=by
 cases o with
 | dead=>exact hd h
 | cells k cs=>
  obtain ⟨p,v,xs,h1,h2,h3⟩:=h;exact ⟨p,v,xs,hl _ _ h1,hS _ _ h2,h3.ext hl⟩
 | row t ls=>
  obtain ⟨loc,h1,h2⟩:=h;refine ⟨loc,hl _ _ h1,?_⟩;cases loc with
  | none=>exact h2
  | some q=>exact hS _ _ h2
 | ED t ls=>
  obtain ⟨p,v,sub,h1,h2,h3⟩:=h;exact ⟨p,v,sub,hl _ _ h1,hS _ _ h2,h3.ext fun p x _ hp=>hS p x hp⟩
theorem DO.nil {S:AB}:DO (fun _=>none) [] S:=⟨fun l o h=>by simp at h,fun _ _=>rfl,fun l l' h h' p v v' e=>(by cases e),fun l i h p v n e=>(by cases e)⟩
theorem DO.push {H:HF} {TS:List B4} {S S':AB} (st:DO H TS S) {o:B4} {hd:Hd} (ho: ∀H',TT H H'->H' TS.length=some hd->P6 H' S' TS.length o) (hS: ∀(p:Nat) x,S[p]?=some x->S'[p]?=some x)
  (hn: ∀p v,hd.loc=some (p,v)->S.length<=p) (hsub: ∀q∈hd.sub,q.1=none:=by simp): ∃H',TT H H'/\DO H' (TS++[o]) S'/\H' TS.length=some hd:=by
 have hl:TT H (fun l=>if l=TS.length then some hd else H l):=fun l h e=>by
  have:l≠TS.length:=fun q=>by rw [q,st.out _ (Nat.le_refl _)] at e;cases e
  simp [this,e]
 refine ⟨fun l=>if l=TS.length then some hd else H l,hl,⟨fun l o' h=>?_,fun l h=>?_,fun l l' h h' p v v' e1 e2 e3 e4=>?_,fun l i h p v n e1 e2=>?_⟩,by simp⟩
 ·rcases Nat.lt_or_ge l TS.length with q | q
  ·rw [List.getElem?_append_left q] at h;exact (st.ob l o' h).ext hl hS fun e=>by simp [e];omega
  ·rw [List.getElem?_append_right q] at h;have:l=TS.length:=by
    rcases Nat.lt_or_ge (l-TS.length) 1 with q | q
    ·omega
    ·rw [List.getElem?_eq_none (by simpa using q)] at h;cases h
   subst this;simp at h;subst h;exact ho _ hl (by simp)
 ·simp at h;rw [if_neg (by omega)];exact st.out l (by omega)
 ·split at e1<;>split at e2
  ·rename_i a b;rw [a,b]
  ·cases e1;have:=hn _ _ e3;have:=st.lt e2 e4;omega
  ·cases e2;have:=hn _ _ e4;have:=st.lt e1 e3;omega
  ·exact st.inj _ _ _ _ _ _ _ e1 e2 e3 e4
 ·have no: ∀(i:Nat) (p v n:Nat),¬hd.sub[i]?=some (some (p,v),n):=fun i p v n e=>by
   have:=hsub _ (List.mem_of_getElem? e);cases this
  split at e1
  ·cases e1;exact absurd e2 (no _ _ _ _)
  ·obtain ⟨g1,g2,g3⟩:=st.sub l i h p v n e1 e2;refine ⟨?_,fun l' h' v' q1 q2=>?_,fun l' i' h' v' n' q1 q2=>?_⟩
   ·exact (List.getElem?_eq_some_iff.1 (hS p _ (List.getElem?_eq_getElem g1))).1
   ·split at q1
    ·cases q1;have:=hn _ _ q2;omega
    ·exact g2 _ _ _ q1 q2
   ·split at q1
    ·cases q1;exact absurd q2 (no _ _ _ _)
    ·exact g3 _ _ _ _ _ q1 q2
theorem Ul {S:AB} {o:Ob}: ∀(p:Nat) x,S[p]?=some x->(S++[o])[p]?=some x:=fun p x h=>by
 rw [List.getElem?_append_left (List.getElem?_eq_some_iff.1 h).1];exact h
theorem DO.OQ {H:HF} {TS:List B4} {S:AB} (st:DO H TS S) (t:Ty) (ls:List (T t)) (v:Nat):
  ∃H',TT H H'/\DO H' (TS++[.row t ls]) (S++[.row v (GZ t) (ls.flatMap (BQ t))])/\H' TS.length=some ⟨some (S.length,v),GZ t,ls.length,[]⟩:=
 st.push (fun H' _ h=>⟨_,h,by simp [CK]⟩) Ul (fun p v' e=>by cases e;exact Nat.le_refl _)
theorem DO.ZN {H:HF} {TS:List B4} {S:AB} (st:DO H TS S) (t:Ty):
  ∃H',TT H H'/\DO H' (TS++[.row t []]) S/\H' TS.length=some ⟨none,GZ t,0,[]⟩:=
 st.push (fun H' _ h=>⟨_,h,by simp [CK]⟩) (fun _ _ h=>h) (fun p v' e=>by cases e)
theorem DO.Xk {H:HF} {TS:List B4} {S:AB} (st:DO H TS S) (k:Nat) {cs:List TV} {xs:List AA} (hs:AJ H cs xs) (v:Nat):
  ∃H',TT H H'/\DO H' (TS++[.cells k cs]) (S++[.row v k xs])/\H' TS.length=some ⟨some (S.length,v),k,cs.length,[]⟩:=
 st.push (fun H' hl h=>⟨_,_,_,h,by simp,hs.ext hl⟩) Ul (fun p v' e=>by cases e;exact Nat.le_refl _)
theorem DO.pG {H:HF} {TS:List B4} {S:AB} (st:DO H TS S) (t:Ty) (n v:Nat):
  ∃H',TT H H'/\DO H' (TS++[.ED t (List.replicate n [])]) (S++[.row v 1 (List.replicate n .AM)])/\H' TS.length=some ⟨some (S.length,v),1,n,List.replicate n (none,0)⟩:=
 st.push (fun H' _ h=>⟨_,v,List.replicate n (none,0),by simpa using h,by simp [Zd,KU],by simp,fun i l q h1 h2=>by
  rw [List.getElem?_replicate] at h1 h2;split at h1<;>cases h1;split at h2
  ·cases h2;exact ⟨rfl,rfl⟩
  ·omega⟩) Ul (fun p v' e=>by cases e;exact Nat.le_refl _) fun q hq=>by rw [(List.mem_replicate.1 hq).2]
def mU:(r:M0)->(rs:List M0)->P7 (r::rs)->RT r
 | _,[],x=>x
 | _,_::_,x=>x.1
def mV:(r:M0)->(rs:List M0)->P7 (r::rs)->P7 rs
 | _,[],_=>()
 | _,_::_,x=>x.2
def HV:(rs:List M0)->P7 rs->Nat->List AA->AB->Prop
 | [],_,_,ys,S=>ys=[]/\S=[]
 | .val t::rs,x,n,ys,S=> ∃ys',ys=DL t (mU (.val t) rs x)::ys'/\HV rs (mV (.val t) rs x) n ys' S
 | .own t::rs,x,n,ys,S=>(∃v ys' S',ys= .sl n v 0 (mU (.own t) rs x).length::ys'/\S= .row v (GZ t) ((mU (.own t) rs x).flatMap (BQ t))::S'/\HV rs (mV (.own t) rs x) (n+1) ys' S')\/
   (mU (.own t) rs x=[]/\ ∃ys',ys= .AM::ys'/\HV rs (mV (.own t) rs x) n ys' S)
def Lg (xs:List AA):AA:=match xs with | [x]=>x | xs=>.DG xs
def pU (rs:List M0) (x:P7 rs) (r:AA) (S:AB):Prop:= ∃ys,HV rs x 0 ys S/\r=Lg ys
def BS (P:Program) (f:FuncId) (ct:Ct):Prop:=Cy P f=true/\ ∀x:Ts ct.args,ct.pre x->AU P f (Ff ct.args x) [] (pU ct.res (ct.fn x))
def Cons (P:Program):List (Nat×Ct)->Prop
 | []=>True
 | (f,ct)::L=>BS P f ct/\Cons P L
theorem Cons.look {P:Program}: ∀ {L:List (Nat×Ct)} {f:Nat} {ct:Ct},Cons P L->BE L f=some ct->BS P f ct
 | [],_,_,_,h=>by simp [BE] at h
 | (g,c)::L,f,ct,hc,h=>by
  simp only [BE] at h;split at h
  ·rename_i hb;cases h;rw [<-beq_eq hb];exact hc.1
  ·exact Cons.look hc.2 h
theorem Xq (t:Ty): ∀(rs:List M0) (x:P7 (.val t::rs)) (n:Nat),GR (.val t::rs) x n=(Zh t (mU (.val t) rs x)::(GR rs (mV (.val t) rs x) n).1,(GR rs (mV (.val t) rs x) n).2)
 | [],x,n=>rfl
 | _::_,x,n=>rfl
theorem lp (t:Ty): ∀(rs:List M0) (x:P7 (.own t::rs)) (n:Nat),GR (.own t::rs) x n=(.HW n::(GR rs (mV (.own t) rs x) (n+1)).1,.row t (mU (.own t) rs x)::(GR rs (mV (.own t) rs x) (n+1)).2)
 | [],x,n=>rfl
 | _::_,x,n=>rfl
theorem Q4: ∀(rs:List M0) (x:P7 rs) {H:HF} {TS:List B4} {S S':AB} {ys:List AA},DO H TS S->HV rs x S.length ys S'->
  ∃H',TT H H'/\DO H' (TS++(GR rs x TS.length).2) (S++S')/\AJ H' (GR rs x TS.length).1 ys
 | [],_,H,TS,S,S',ys,st,h=>by
  simp only [HV] at h;obtain ⟨rfl,rfl⟩:=h;exact ⟨H,fun _ _ h=>h,by simpa [GR] using st,by simp [GR,AJ]⟩
 | .val t::rs,x,H,TS,S,S',ys,st,h=>by
  simp only [HV] at h;obtain ⟨ys',rfl,h⟩:=h;obtain ⟨H',g1,g2,g3⟩:=Q4 rs _ st h;rw [Xq];exact ⟨H',g1,g2,by simp only [AJ];exact ⟨_,_,rfl,UE _ _,g3⟩⟩
 | .own t::rs,x,H,TS,S,S',ys,st,h=>by
  simp only [HV] at h;rw [lp];rcases h with ⟨v,ys',S1,rfl,rfl,h⟩ | ⟨h0,ys',rfl,h⟩
  ·obtain ⟨H1,p1,p2,p3⟩:=st.OQ t (mU (.own t) rs x) v;obtain ⟨H',g1,g2,g3⟩:=Q4 rs _ p2 (by simpa using h);simp only [List.length_append,List.length_singleton] at g2 g3;refine ⟨H',fun l h e=>g1 _ _ (p1 _ _ e),by simpa using g2,?_⟩;simp only [AJ,AE];exact ⟨_,_,rfl,⟨_,g1 _ _ p3,rfl⟩,g3⟩
  ·obtain ⟨H1,p1,p2,p3⟩:=st.ZN t;obtain ⟨H',g1,g2,g3⟩:=Q4 rs _ p2 h;simp only [List.length_append,List.length_singleton] at g2 g3;refine ⟨H',fun l h e=>g1 _ _ (p1 _ _ e),by rw [h0];simpa using g2,?_⟩;simp only [AJ,AE];exact ⟨_,_,rfl,⟨_,g1 _ _ p3,rfl⟩,g3⟩
def tK (n:Nat):AA->AA
 | .sl l v o k=>.sl (l+n) v o k
 | x=>x
theorem qy (n:Nat): ∀(t:Ty) (x:T t),tK n (DL t x)=DL t x
 | .int _,_=>rfl
 | .str,_=>rfl
 | .bool,_=>rfl
 | .st _,_=>rfl
 | .sl _,_=>rfl
theorem Q0 (m:Nat): ∀(rs:List M0) (x:P7 rs) (n:Nat) {ys:List AA} {S:AB},HV rs x n ys S->HV rs x (n+m) (ys.map (tK m)) S
 | [],_,n,ys,S,h=>by
  simp only [HV] at*;obtain ⟨rfl,rfl⟩:=h;simp
 | .val t::rs,x,n,ys,S,h=>by
  simp only [HV] at*;obtain ⟨ys',rfl,h⟩:=h;exact ⟨_,by simp [qy],Q0 m rs _ n h⟩
 | .own t::rs,x,n,ys,S,h=>by
  simp only [HV] at*;rcases h with ⟨v,ys',S1,rfl,rfl,h⟩ | ⟨h0,ys',rfl,h⟩
  ·refine .inl ⟨v,ys'.map (tK m),S1,rfl,rfl,?_⟩;have:=Q0 m rs _ (n+1) h;rwa [show n+1+m=n+m+1 by omega] at this
  ·exact .inr ⟨h0,ys'.map (tK m),rfl,Q0 m rs _ n h⟩
theorem tL (m:Nat) (x:AA):PM x (tK m x):=by
 cases x<;>first | exact .sl | exact .refl _
theorem pc (m:Nat): ∀xs:List AA,Zq xs (xs.map (tK m))
 | []=>.nil
 | x::xs=>.cons (tL m x) (pc m xs)
theorem pW (m:Nat): ∀xs:List AA,PM (Lg xs) (Lg (xs.map (tK m)))
 | []=>.DG .nil
 | [x]=>tL m x
 | x::y::xs=>.DG (pc m (x::y::xs))
mutual
def plain:AA->Bool
 | .Em n _=>Nat.beq n 0
 | .Fm _=>false
 | .agg cs=>Dk cs
 | .DG cs=>Dk cs
 | .fn _ xs ys=>Dk xs && Dk ys
 | .iface _ x=>plain x
 | _=>true
def Dk:List AA->Bool
 | []=>true
 | x::xs=>plain x && Dk xs
end
mutual
theorem ON {E E':Env} {fz fz':Nat->Prop} {w w':World} (hE: ∀v x,E v=some x->E' v=some x): ∀(x:AA) (v:Value),plain x=true->Rel E fz w x v->Rel E' fz' w' x v
 | .agg cs,v,h,hr=>by
  simp only [Rel] at*;obtain ⟨vs,h1,h2,h3⟩:=hr;exact ⟨vs,h1,J4 hE cs vs (by simpa [plain] using h) h2,h3⟩
 | .DG cs,v,h,hr=>by
  simp only [Rel] at*;obtain ⟨vs,h1,h2⟩:=hr;exact ⟨vs,h1,J4 hE cs vs (by simpa [plain] using h) h2⟩
 | .fn f xs ys,v,h,hr=>by
  simp only [Rel] at*;obtain ⟨vs,us,h1,h2,h3⟩:=hr;simp only [plain,Bool.and_eq_true] at h;exact ⟨vs,us,h1,J4 hE xs vs h.1 h2,J4 hE ys us h.2 h3⟩
 | .iface t x,v,h,hr=>by
  simp only [Rel] at*;obtain ⟨u,h1,h2⟩:=hr;exact ⟨u,h1,ON hE x u (by simpa [plain] using h) h2⟩
 | .Em n cs,v,h,hr=>by
  have hn:n=0:=by simpa [plain] using h
  subst hn;simp only [Rel] at*;rcases hr with hr | ⟨b,off,c,g1,g2,g3,g4⟩
  ·exact .inl hr
  ·exact .inl ⟨trivial,_,_,g3⟩
 | .Fm _,_,h,_=>by simp [plain] at h
 | .ptr _ _ _,_,_,hr=>by
  simp only [Rel] at*;obtain ⟨b,base,cap,k,h1,h2⟩:=hr;exact ⟨b,base,cap,k,hE _ _ h1,h2⟩
 | .sl _ _ _ _,_,_,hr=>by
  simp only [Rel] at*;rcases hr with h | ⟨b,base,cap,k,c,h1,h2⟩
  ·exact .inl h
  ·exact .inr ⟨b,base,cap,k,c,hE _ _ h1,h2⟩
 | .map _ _,_,_,hr=>by
  simp only [Rel] at*;obtain ⟨b,h1,h2⟩:=hr;exact ⟨b,hE _ _ h1,h2⟩
 | .int _ _,_,_,hr=>by simpa [Rel] using hr
 | .str _,_,_,hr=>by simpa [Rel] using hr
 | .bool _,_,_,hr=>by simpa [Rel] using hr
 | .tt,_,_,hr=>by simpa [Rel] using hr
 | .ff,_,_,hr=>by simpa [Rel] using hr
 | .Ci,_,_,hr=>by simp [Rel]
 | .Bp,_,_,hr=>by simpa [Rel] using hr
 | .AM,_,_,hr=>by simpa [Rel] using hr
 | .H8,_,_,hr=>by simpa [Rel] using hr
 | .H9,_,_,hr=>by simpa [Rel] using hr
 | .MN,_,_,hr=>by simpa [Rel] using hr
 | .Zs _,_,_,hr=>by simpa [Rel] using hr
theorem J4 {E E':Env} {fz fz':Nat->Prop} {w w':World} (hE: ∀v x,E v=some x->E' v=some x): ∀(xs:List AA) (vs:List Value),Dk xs=true->AZ E fz w xs vs->AZ E' fz' w' xs vs
 | [],_,_,hr=>by simpa [AZ] using hr
 | x::xs,_,h,hr=>by
  simp only [AZ] at*;obtain ⟨v,us,h0,h1,h2⟩:=hr;simp only [Dk,Bool.and_eq_true] at h;exact ⟨v,us,h0,ON hE x v h.1 h1,J4 hE xs us h.2 h2⟩
end
theorem VT: ∀ {xs:List AA},Dk xs=true-> ∀x∈xs,plain x=true
 | [],_,x,h=>by cases h
 | y::ys,hp,x,h=>by
  simp only [Dk,Bool.and_eq_true] at hp;rcases List.mem_cons.1 h with rfl | h
  ·exact hp.1
  ·exact VT hp.2 x h
theorem K7: ∀ {xs ys:List AA},Dk xs=true->Dk ys=true->Dk (xs++ys)=true
 | [],_,_,h=>h
 | x::xs,ys,h,h'=>by
  simp only [Dk,Bool.and_eq_true,List.cons_append] at*;exact ⟨h.1,K7 h.2 h'⟩
def pC:Ob->Prop
 | .row _ _ cs=>Dk cs=true
 | .dead=>True
 | .Cw _ _=>False
 | .GP _ _ _=>False
 | .Ep _ _ _ _ _=>False
mutual
theorem PZ: ∀(t:Ty) (x:T t),O5 t=true->Dk (BQ t x)=true
 | .int _,_,_=>rfl
 | .str,_,_=>rfl
 | .bool,_,_=>rfl
 | .st fs,x,h=>by simp only [O5] at h;simp only [BQ];exact NM fs x h
 | .sl _,_,h=>by simp [O5] at h
theorem NM: ∀(ts:KJ) (x:Ts ts),Ui ts=true->Dk (Gg ts x)=true
 | .nil,_,_=>rfl
 | .cons t .nil,x,h=>by
  simp only [Ui,Bool.and_eq_true] at h;simp only [Gg];exact PZ t x h.1
 | .cons t (.cons u ts),(x,y),h=>by
  rw [Ui,Bool.and_eq_true] at h;simp only [Gg];exact K7 (PZ t x h.1) (NM (.cons u ts) y h.2)
end
theorem a_: ∀(t:Ty) (x:T t),O5 t=true->plain (DL t x)=true
 | .int _,_,_=>rfl
 | .str,_,_=>rfl
 | .bool,_,_=>rfl
 | .st fs,x,h=>by simp only [O5] at h;simp only [DL,plain];exact NM fs x h
 | .sl _,_,h=>by simp [O5] at h
theorem XE {t:Ty} (h:O5 t=true): ∀ls:List (T t),Dk (ls.flatMap (BQ t))=true
 | []=>rfl
 | x::ls=>by rw [List.flatMap_cons];exact K7 (PZ t x h) (XE h ls)
theorem OU: ∀(rs:List M0) (x:P7 rs) (n:Nat) {ys:List AA} {S:AB},O4 rs=true->HV rs x n ys S->Dk ys=true/\ ∀o∈S,pC o
 | [],_,n,ys,S,_,h=>by
  simp only [HV] at h;obtain ⟨rfl,rfl⟩:=h;exact ⟨rfl,by simp⟩
 | .val t::rs,x,n,ys,S,hf,h=>by
  simp only [HV] at h;obtain ⟨ys',rfl,h⟩:=h;simp only [O4,Bool.and_eq_true] at hf;obtain ⟨g1,g2⟩:=OU rs _ n hf.2 h;exact ⟨by simp [Dk,a_ t _ hf.1,g1],g2⟩
 | .own t::rs,x,n,ys,S,hf,h=>by
  simp only [HV] at h;simp only [O4,Bool.and_eq_true] at hf;rcases h with ⟨v,ys',S1,rfl,rfl,h⟩ | ⟨h0,ys',rfl,h⟩
  ·obtain ⟨g1,g2⟩:=OU rs _ _ hf.2 h;refine ⟨by simp [Dk,plain,g1],fun o ho=>?_⟩;rcases List.mem_cons.1 ho with rfl | ho
   ·exact XE hf.1 _
   ·exact g2 o ho
  ·obtain ⟨g1,g2⟩:=OU rs _ _ hf.2 h;exact ⟨by simp [Dk,plain,g1],g2⟩
section
variable {P : Program} {f : FuncId}
theorem AU.vD {S:AB} {args args':List AA} {R K:AA->AB->Prop} (h:AU P f args' [] R)
  (hargs: ∀E fz w vals,St E fz S w->AZ E fz w args vals->AZ E (frozen E fz S) w args' vals)
  (hK: ∀r S',R r S'-> ∃r',PM r r'/\plain r'=true/\(∀o∈S',pC o)/\K r' (S++S')):AU P f args S K:=by
 refine ⟨fun E fz w vals st hrel=>?_⟩;have no: ∀b,¬Own E [] b:=fun b ⟨l,o,h,_⟩=>by simp at h
 refine (h.out E _ w vals st.freeze (hargs E fz w vals st hrel)).mono fun e w' ⟨r,S',v,E',fz',h1,h2,h3,h4,h5⟩=>?_;obtain ⟨r',g1,g2,g3,g4⟩:=hK r S' h5;have hh: ∀b,b<w.heap.size->w'.heap[b]?=w.heap[b]?:=fun b hb=>h2.AW b hb (no b);have nf: ∀b,fz b-> ¬Own E S b:=fun b hb ⟨l,ho⟩=>(st.EU ho).2 hb;have new: ∀l b,DH E' S' l b->w.heap.size<=b:=fun l b ho=>by
  rcases h2.own b ⟨_,ho⟩ with q | q
  ·exact absurd q (no b)
  ·exact q
 have split: ∀l b,DH E' (S++S') l b->(l<S.length/\DH E S l b)\/(S.length<=l/\DH E' S' (l-S.length) b):=fun l b ⟨o,q1,q2⟩=>by
  by_cases hl:l<S.length
  ·rw [List.getElem?_append_left hl] at q1;exact .inl ⟨hl,o,q1,by rw [<-(st.ok l o q1).block h2.env];exact q2⟩
  ·rw [List.getElem?_append_right (by omega)] at q1;exact .inr ⟨by omega,o,q1,q2⟩
 refine ⟨r',S++S',v,E',fun b=>fz' b/\ ¬Own E S b,h1,⟨h2.env,fun b hb=>⟨h2.WI b (.inl hb),nf b hb⟩,fun b ⟨hb,hn⟩=>?_,fun b hb _=>hh b hb,fun b ⟨l,ho⟩=>?_,h2.size,h2.os,h2.output,h2.tape⟩,
  ⟨fun l o hl=>?_,fun l l' b q1 q2=>?_,fun b hb=>h3.Fx b hb.1,h3.fresh⟩,ON (fun _ _ h=>h) r' v g2 (g1 _ _ _ _ h4),g4⟩
 ·rcases h2.Gi b hb with (q | q) | q | q
  ·exact .inl q
  ·exact absurd q hn
  ·exact absurd q (no b)
  ·exact .inr (.inr q)
 ·rcases split l b ho with ⟨_,q⟩ | ⟨_,q⟩
  ·exact .inl ⟨l,q⟩
  ·exact .inr (new _ _ q)
 ·by_cases hlt:l<S.length
  ·rw [List.getElem?_append_left hlt] at hl;exact (st.ok l o hl).mono h2.env (fun b hb=>⟨h2.WI b (.inl hb),nf b hb⟩) (fun b hb=>hh b (st.Fx b hb)) fun b hb=>⟨hh b (st.EU ⟨o,hl,hb⟩).1,fun q=>q.2 ⟨l,o,hl,hb⟩⟩
  ·rw [List.getElem?_append_right (by omega)] at hl;have ok:=h3.ok _ _ hl;have pl:=g3 o (List.mem_of_getElem? hl);cases o with
   | dead=>trivial
   | Cw v es=>exact pl.elim
   | GP b L F=>exact pl.elim
   | Ep v mv since last seen=>exact pl.elim
   | row v k cs=>
    rcases ok with ⟨q1,q2⟩ | ⟨b,base,cap,arr,T,lo,hi,q1,q2,q3,q4,q5,q6,q7⟩
    ·exact .inl ⟨q1,q2⟩
    ·refine .inr ⟨b,base,cap,arr,T,lo,hi,q1,q2,q3,q4,q5,CR.mk fun i x hx=>?_,fun hf=>q7 hf.1⟩;obtain ⟨c,c1,c2,c3⟩:=q6.get hx;exact ⟨c,c1,c2,ON (fun _ _ h=>h) x c (VT pl x (List.mem_of_getElem? hx)) c3⟩
 ·rcases split l b q1 with ⟨a1,a2⟩ | ⟨a1,a2⟩<;>rcases split l' b q2 with ⟨b1,b2⟩ | ⟨b1,b2⟩
  ·exact st.sep _ _ _ a2 b2
  ·have:=(st.EU a2).1;have:=new _ _ b2;omega
  ·have:=(st.EU b2).1;have:=new _ _ a2;omega
  ·have:=h3.sep _ _ _ a2 b2;omega
end
end Go.Vc
end
section
namespace Go.Vc
section
variable {H : HF} {TS : List B4} {S : AB}
theorem pP {E:Env} {fz:Nat->Prop} {w:World} {b off:Nat} {xs ys:List AA} (h:CR E fz w b off (xs++ys)):CR E fz w b off xs:=by
 have:=h.take xs.length;rwa [List.take_left'] at this;rfl
theorem DN (st:DO H TS S) {l:Nat} {t:Ty} {ls:List (T t)} (ho:Bq TS l=some (.row t ls)): ∃loc,H l=some ⟨loc,GZ t,ls.length,[]⟩/\CK S t ls loc:=by
 rw [Iu] at ho;exact st.ob l _ ho
theorem OA (st:DO H TS S) {l k:Nat} {cs:List TV} (ho:Bq TS l=some (.cells k cs)): ∃p v xs,H l=some ⟨some (p,v),k,cs.length,[]⟩/\S[p]?=some (.row v k xs)/\AJ H cs xs:=by
 rw [Iu] at ho;exact st.ob l _ ho
theorem Ir (st:DO H TS S) {l:Nat} {t:Ty} {ls:List (List (T t))} (ho:Bq TS l=some (.ED t ls)): ∃p v sub,H l=some ⟨some (p,v),1,ls.length,sub⟩/\S[p]?=some (.row v 1 (sub.map Zd))/\PN S t ls sub:=by
 rw [Iu] at ho;exact st.ob l _ ho
theorem OJ {t:Ty} (ls:List (T t)) (a n:Nat):(ls.flatMap (BQ t)).drop (a*GZ t)=((ls.drop a).take n).flatMap (BQ t)++((ls.drop a).drop n).flatMap (BQ t):=by
 rw [RY (A5 t),<-List.flatMap_append,List.take_append_drop]
theorem nM (st3:DO H TS S) {t:Ty} {x:TV} {a:List (T t)} {y:AA} (h:UR TS t x=some a) (hs:AE H x y) {E:Env} {fz fz':Nat->Prop} {w:World} {v:Value} (hfz: ∀b,fz b->fz' b)
  (hx:Gn x=true\/(fz'=frozen E fz S/\St E fz S w)) (hr:Rel E fz w y v):Rel E fz' w (.Em a.length (a.flatMap (BQ t))) v:=by
 have nilc:Rel E fz w .AM v->Rel E fz' w (.Em 0 []) v:=fun h=>by
  simp only [Rel] at h |-;exact .inl ⟨trivial,none,0,h⟩
 unfold UR at h;split at h
 ·split at h<;>cases h;rename_i hh _;subst hh;simp only [AE] at hs;subst hs;exact hr.mono (fun _ _ h=>h) hfz (fun _ _=>rfl)
 ·cases h;simp only [AE] at hs;subst hs;exact nilc hr
 ·rename_i l;split at h
  ·rename_i e ls ho;split at h<;>cases h;rename_i hh _;subst hh;obtain ⟨loc,h1,h2⟩:=DN st3 ho;simp only [AE] at hs;obtain ⟨hd,g1,rfl⟩:=hs;rw [h1] at g1;cases g1;rcases hx with hx | ⟨rfl,stE⟩
   ·simp [Gn] at hx
   cases loc with
   | none=>
    simp only [CK] at h2;subst h2;exact nilc hr
   | some q=>
    obtain ⟨p,ver⟩:=q;have:=RX stE 1 _ _ hr;simpa [deref,KU,show S[p]?=_ from h2] using this
  ·cases h
 ·rename_i l off len;split at h
  ·rename_i e ls ho;split at h<;>cases h;rename_i hh _;subst hh;obtain ⟨loc,h1,h2⟩:=DN st3 ho;simp only [AE] at hs;obtain ⟨hd,g1,g2,g3,g4,rfl⟩:=hs;rw [h1] at g1;cases g1;simp only at g4;have hlen:((ls.drop off.toNat).take len.toNat).length=len.toNat:=by simp;omega
   rw [hlen];rcases hx with hx | ⟨rfl,stE⟩
   ·simp [Gn] at hx
   cases loc with
   | none=>
    simp only [CK] at h2;subst h2;simp only [List.length_nil] at g4;have:len.toNat=0:=by omega
    rw [this];simpa using nilc hr
   | some q=>
    obtain ⟨p,ver⟩:=q;have:=RX stE 1 _ _ hr;simp only [deref,KU,show S[p]?=_ from h2,if_pos,List.map_id'] at this;rw [OJ ls off.toNat len.toNat] at this;simp only [Rel] at this |-;rcases this with hz | ⟨b,o,c,q1,q2,q3,q4⟩
    ·exact .inl hz
    ·exact .inr ⟨b,o,c,q1,q2,q3,pP q4⟩
  ·cases h
 ·cases h
theorem aS (st3:DO H TS S) {t:Ty} {x:TV} {a:T t} {y:AA} (h:PV TS t x=some a) (hs:AE H x y) {E:Env} {fz fz':Nat->Prop} {w:World} {v:Value} (hfz: ∀b,fz b->fz' b)
  (hx:Gn x=true\/(fz'=frozen E fz S/\St E fz S w)) (hr:Rel E fz w y v):Rel E fz' w (DL t a) v:=by
 have up:Rel E fz' w y v:=hr.mono (fun _ _ h=>h) hfz (fun _ _=>rfl);cases t with
 | int k=>
  simp only [PV,aQ] at h;split at h
  ·rename_i k' n hi;split at h<;>cases h;rename_i hk;have hk:=G_ hk;subst hk;rw [Eb hi hs] at up;exact up
  ·cases h
 | str=>
  simp only [PV] at h;unfold aR at h;split at h<;>cases h;simp only [AE] at hs;subst hs;exact up
 | bool=>
  simp only [PV] at h;rw [T3 h hs] at up;exact up
 | st fs=>
  simp only [PV] at h;unfold aT at h;split at h
  ·split at h<;>cases h;rename_i hd;simp only [AE] at hs;obtain ⟨xs,rfl,hs⟩:=hs;obtain ⟨zs,rfl,hz⟩:=LN fs hd hs;simp only [AJ] at hz;subst hz;rw [List.append_nil] at up;exact up
  ·cases h
 | sl e=>
  simp only [PV] at h;exact nM st3 h hs hfz hx hr
theorem RV (st3:DO H TS S) {E:Env} {fz fz':Nat->Prop} {w:World} (hfz: ∀b,fz b->fz' b): ∀(ts:KJ) {xs:List TV} {a:Ts ts} {ys:List AA} {vs:List Value},Oo TS ts xs=some a->AJ H xs ys->
  (JM xs=true\/(fz'=frozen E fz S/\St E fz S w))->AZ E fz w ys vs->AZ E fz' w (Ff ts a) vs
 | .nil,xs,a,ys,vs,h,hs,hx,hr=>by
  unfold Oo at h;split at h<;>cases h;simp only [AJ] at hs;subst hs;simpa [Ff,AZ] using hr
 | .cons t .nil,xs,a,ys,vs,h,hs,hx,hr=>by
  have h:nK TS t xs=some a:=h;unfold nK at h;split at h
  ·simp only [AJ] at hs;obtain ⟨y,zs,rfl,h1,rfl⟩:=hs;simp only [AZ,Ff] at hr |-;obtain ⟨v,us,rfl,r1,r2⟩:=hr;exact ⟨v,us,rfl,aS st3 h h1 hfz (hx.imp (fun q=>by simpa [JM] using q) id) r1,r2⟩
  ·cases h
 | .cons t (.cons u ts),[],a,ys,vs,h,hs,hx,hr=>by rw [Oo] at h;cases h
 | .cons t (.cons u ts),x::xs,a,ys,vs,h,hs,hx,hr=>by
  rw [Oo] at h;split at h<;>cases h;rename_i p q h1 h2;simp only [AJ] at hs;obtain ⟨y,zs,rfl,s1,s2⟩:=hs;simp only [AZ,Ff] at hr |-;obtain ⟨v,us,rfl,r1,r2⟩:=hr;refine ⟨v,us,rfl,aS st3 h1 s1 hfz (hx.imp (fun q=>?_) id) r1,RV st3 hfz (.cons u ts) h2 s2 (hx.imp (fun q=>?_) id) r2⟩
  ·simp only [JM,Bool.and_eq_true] at q;exact q.1
  ·simp only [JM,Bool.and_eq_true] at q;exact q.2
theorem lT: ∀ {ys:List AA},Dk ys=true->plain (Lg ys)=true
 | [],_=>rfl
 | [x],h=>by simpa [Dk,Lg] using h
 | x::y::ys,h=>h
theorem cR (m:Nat): ∀ {ys:List AA},Dk ys=true->Dk (ys.map (tK m))=true
 | [],_=>rfl
 | x::ys,h=>by
  simp only [Dk,Bool.and_eq_true,List.map_cons] at*;refine ⟨?_,cR m h.2⟩;cases x<;>first | rfl | exact h.1
theorem iI {P:Program} {f:FuncId} {ct:Ct} (hc:BS P f ct) (st3:DO H TS S) {xs:List TV} {a:Ts ct.args} {ys:List AA} (hd:Oo TS ct.args xs=some a) (hp:ct.pre a) (hs:AJ H xs ys) (hf:(O4 ct.res || JM xs)=true)
  {K:AA->AB->Prop} (hk: ∀rs S',HV ct.res (ct.fn a) S.length rs S'->K (Lg rs) (S++S')):AU P f ys S K:=by
 have h:=hc.2 a hp;rw [Bool.or_eq_true] at hf;rcases hf with hf | hf
 ·refine h.vD (fun E fz w vals stE hr=>RV st3 (fun b hb=>.inl hb) ct.args hd hs (.inr ⟨rfl,stE⟩) hr) fun r S' ⟨rs,hr,e⟩=>?_;subst e;have hr':=Q0 S.length ct.res _ 0 hr;obtain ⟨g1,g2⟩:=OU ct.res _ 0 hf hr;rw [Nat.zero_add] at hr';exact ⟨_,pW S.length rs,lT (cR _ g1),g2,hk _ _ hr'⟩
 ·have h':AU P f ys [] (pU ct.res (ct.fn a)):=⟨fun E fz w vals stE hr=>h.out E fz w vals stE (RV st3 (fun _ h=>h) ct.args hd hs (.inl hf) hr)⟩
  refine h'.Yo fun r S' ⟨rs,hr,e⟩=>?_;subst e;have hr':=Q0 S.length ct.res _ 0 hr;rw [Nat.zero_add] at hr';exact ⟨_,id,S',pW S.length rs,.refl,hk _ _ hr'⟩
theorem ZS {H:HF}: ∀ {xs:List TV} {ys:List AA},AJ H xs ys->AE H (ZR xs) (Lg ys)
 | [],_,h=>by simp only [AJ] at h;subst h;simp only [ZR,Lg,AE];exact ⟨[],rfl,by simp [AJ]⟩
 | [x],_,h=>by
  simp only [AJ] at h;obtain ⟨y,zs,rfl,h1,rfl⟩:=h;exact h1
 | x::x'::xs,ys,h=>by
  have hl:=h.length
  match ys,hl,h with
  | y::y'::ys,_,h=>simp only [ZR,Lg,AE];exact ⟨_,rfl,h⟩
theorem qo {P:Program} {f:FuncId} {ct:Ct} (hc:BS P f ct) (st3:DO H TS S) {xs:List TV} {a:Ts ct.args} {ys:List AA} (hd:Oo TS ct.args xs=some a) (hp:ct.pre a) (hs:AJ H xs ys) (hf:(O4 ct.res || JM xs)=true)
  {K:AA->AB->Prop} (hk: ∀r S' H',TT H H'->DO H' (TS++(GR ct.res (ct.fn a) TS.length).2) S'->AE H' (ZR (GR ct.res (ct.fn a) TS.length).1) r->K r S'):AU P f ys S K:=
 iI hc st3 hd hp hs hf fun rs S' hr=>by
  obtain ⟨H',g1,g2,g3⟩:=Q4 ct.res _ st3 hr;exact hk _ _ H' g1 g2 (ZS g3)
def Oy:(rs:List M0)->P7 rs->List AA
 | [],_=>[]
 | .val t::rs,x=>DL t (mU (.val t) rs x)::Oy rs (mV (.val t) rs x)
 | .own t::rs,x=>Oy rs (mV (.own t) rs x)
theorem Zl: ∀(rs:List M0) (x:P7 rs) (n:Nat) {ys:List AA} {S:AB},Ku rs=true->HV rs x n ys S->ys=Oy rs x/\S=[]
 | [],_,n,ys,S,_,h=>by simpa [HV,Oy] using h
 | .val t::rs,x,n,ys,S,ha,h=>by
  simp only [HV] at h;obtain ⟨ys',rfl,h⟩:=h;obtain ⟨e1,e2⟩:=Zl rs _ n (by simpa [Ku] using ha) h;exact ⟨by rw [e1];rfl,e2⟩
 | .own t::rs,x,n,ys,S,ha,h=>by simp [Ku] at ha
theorem je {H:HF}: ∀(rs:List M0) (x:P7 rs) (n:Nat),Ku rs=true->AJ H (GR rs x n).1 (Oy rs x)
 | [],_,n,_=>by simp [GR,Oy,AJ]
 | .val t::rs,x,n,ha=>by
  rw [Xq];simp only [Oy,AJ];exact ⟨_,_,rfl,UE _ _,je rs _ n (by simpa [Ku] using ha)⟩
 | .own t::rs,x,n,ha=>by simp [Ku] at ha
theorem iH {P:Program} {f:FuncId} {ct:Ct} (hc:BS P f ct) (st3:DO H TS S) {xs:List TV} {a:Ts ct.args} {ys:List AA} (hd:Oo TS ct.args xs=some a) (hp:ct.pre a) (hs:AJ H xs ys) (hf:(O4 ct.res || JM xs)=true)
  (hv:Ku ct.res=true): ∃r0,AE H (ZR (GR ct.res (ct.fn a) 0).1) r0/\AU P f ys S (fun r S'=>r=r0/\S'=S):=
 ⟨Lg (Oy ct.res (ct.fn a)),ZS (je _ _ _ hv),iI hc st3 hd hp hs hf fun rs S' hr=>by
  obtain ⟨e1,e2⟩:=Zl _ _ _ hv hr;subst e1;subst e2;exact ⟨rfl,by simp⟩⟩
end
end Go.Vc
end
