/- Part of the proof of enginePlays_holds: the whole is true of every input. Conditions: none. -/
import Derived.Test.YtlibocgedgdmlaaGreatP3
set_option linter.all false
section
namespace Go.Vc
abbrev Nm (_:String) (α:Type):=α
noncomputable def H6 {α:Type} (p:Prop) (a b:α):α:= @ite α p (Classical.propDecidable p) a b
noncomputable def bo (p:Prop):Bool:= @decide p (Classical.propDecidable p)
def gt {α:Type} [Inhabited α] (l:List α) (i:Int):α:=l.getD i.toNat default
def iZ:(k k':IntKind)->Option (PLift (k=k'))
 | .i8,.i8=>some ⟨rfl⟩
 | .u8,.u8=>some ⟨rfl⟩
 | .i16,.i16=>some ⟨rfl⟩
 | .u16,.u16=>some ⟨rfl⟩
 | .i32,.i32=>some ⟨rfl⟩
 | .u32,.u32=>some ⟨rfl⟩
 | .i64,.i64=>some ⟨rfl⟩
 | .u64,.u64=>some ⟨rfl⟩
 | _,_=>none
mutual
def PR:(a b:Ty)->Option (PLift (a=b))
 | .int k,.int k'=>(match iZ k k' with | some ⟨h⟩=>some ⟨by rw [h]⟩ | none=>none)
 | .str,.str=>some ⟨rfl⟩
 | .bool,.bool=>some ⟨rfl⟩
 | .st a,.st b=>(match ud a b with | some ⟨h⟩=>some ⟨by rw [h]⟩ | none=>none)
 | .sl a,.sl b=>(match PR a b with | some ⟨h⟩=>some ⟨by rw [h]⟩ | none=>none)
 | _,_=>none
def ud:(a b:Ky)->Option (PLift (a=b))
 | .nil,.nil=>some ⟨rfl⟩
 | .cons a yV,.cons b bs=>(match PR a b,ud yV bs with | some ⟨h⟩,some ⟨g⟩=>some ⟨by rw [h,g]⟩ | _,_=>none)
 | _,_=>none
end
mutual
def zT:(t:Ty)->T t
 | .int _=>(0:Int)
 | .str=>([]:List UInt8)
 | .bool=>false
 | .st fs=>yG fs
 | .sl e=>([]:List (T e))
def yG:(ts:Ky)->Ts ts
 | .nil=>()
 | .cons t .nil=>zT t
 | .cons t (.cons u ts)=>(zT t,yG (.cons u ts))
end
inductive TV where
 | C3
 | tt
 | ff
 | bb (b:Bool)
 | pr (p:Prop)
 | gd (p:Prop)
 | int (k:IntKind) (n:Int)
 | byte (b:UInt8)
 | str (s:List UInt8)
 | B4
 | I3
 | I4
 | M8
 | AL
 | ptr (l off:Nat)
 | I0 (l:Nat) (i:Int) (fo:Nat)
 | GX (cs:List TV)
 | Ez (t:Ty) (l:List (T t))
 | IU (l:Nat)
 | sl (l:Nat) (off len:Int)
 | agg (cs:List TV)
 | DH (cs:List TV)
 | fn (f:Nat) (cap:List TV)
 | Xc (l:Nat) (i:Int)
 | F7 (l:Nat) (i j:Int) (k fo:Nat)
 | ifs (t l:Nat)
 | bq (v:Value)
 deriving Inhabited
inductive CI where
 | dead
 | cells (k:Nat) (cs:List TV)
 | row (t:Ty) (l:List (T t))
 | Eg (t:Ty) (l:List (List (T t)))
 deriving Inhabited
abbrev RF:=List (Nat×List (Nat×Bool)×Prop×TV)
def BL {α:Type}:List (Nat×α)->Nat->Option α
 | [],_=>none
 | (k,x)::l,n=>match Nat.beq k n with | true=>some x | false=>BL l n
def N0:List (Nat×Bool)->List (Nat×Bool)->Bool
 | [],[]=>true
 | (a,true)::p,(b,true)::q=>match Nat.beq a b with | true=>N0 p q | false=>false
 | (a,false)::p,(b,false)::q=>match Nat.beq a b with | true=>N0 p q | false=>false
 | _,_=>false
def jb (gs:List (Nat×Bool)):List (Nat×Bool)->Bool
 | []=>match gs with | []=>true | _::_=>false
 | q::p=>match N0 gs (q::p) with | true=>true | false=>jb gs p
def xC:AA->Option TV
 | .bool true=>some .tt
 | .bool false=>some .ff
 | .int k n=>some (.int k n)
 | .str s=>some (.str s)
 | .B4=>some .B4
 | .I3=>some .I3
 | .I4=>some .I4
 | .M8=>some .M8
 | .AL=>some .AL
 | .fn (.func f) [] []=>some (.fn f [])
 | _=>none
def qS:List AA->Option (List TV)
 | []=>some []
 | x::xs=>match xC x,qS xs with | some y,some ys=>some (y::ys) | _,_=>none
def xZ:AA->Option TV
 | .agg cs=>(match qS cs with | some ys=>some (.agg ys) | none=>none)
 | x=>xC x
def O_ (F:RF) (path:List (Nat×Bool)):AO->Option TV
 | .c x=>xZ x
 | .t n=>match BL F n with
  | some (gs,_,x)=>(match jb gs path with | true=>some x | false=>none)
  | none=>none
def Wm (F:RF) (path:List (Nat×Bool)):List AO->Option (List TV)
 | []=>some []
 | x::xs=>match O_ F path x,Wm F path xs with | some y,some ys=>some (y::ys) | _,_=>none
def PJ:List Prop->Prop->Prop
 | [],q=>q
 | p::ps,q=>p/\PJ ps q
def Oh (c:Prop):List Prop->List Prop
 | []=>[]
 | p::ps=>(c->p)::Oh c ps
mutual
def Gb:(t:Ty)->T t->List TV
 | .int k,n=>[.int k n]
 | .str,s=>[.str s]
 | .bool,b=>[.bb b]
 | .st fs,x=>Mv fs x
 | .sl e,l=>[.Ez e l]
def Mv:(ts:Ky)->Ts ts->List TV
 | .nil,_=>[]
 | .cons t .nil,x=>Gb t x
 | .cons t (.cons u ts),x=>Gb t x.1++Mv (.cons u ts) x.2
end
def bY:(t:Ty)->T t->TV
 | .int k,n=>.int k n
 | .str,s=>.str s
 | .bool,b=>.bb b
 | .st fs,x=>.agg (Mv fs x)
 | .sl e,l=>.Ez e l
def gM:TV->Option (IntKind×Int)
 | .int k n=>some (k,n)
 | .byte b=>some (.u8,(b.toNat:Int))
 | _=>none
def oY:TV->Option Prop
 | .pr p=>some p
 | .gd p=>some p
 | .bb b=>some (b=true)
 | .tt=>some True
 | .ff=>some False
 | _=>none
noncomputable def v_:TV->Option Bool
 | .pr p=>some (bo p)
 | .bb b=>some b
 | .tt=>some true
 | .ff=>some false
 | _=>none
def sM (k:IntKind):List TV->Option (Int×List TV)
 | x::r=>(match gM x with | some (k',n)=>(match iZ k k' with | some _=>some (n,r) | none=>none) | none=>none)
 | []=>none
def iA:List TV->Option (List UInt8×List TV)
 | .str s::r=>some (s,r)
 | _=>none
noncomputable def VI:List TV->Option (Bool×List TV)
 | x::r=>(match v_ x with | some b=>some (b,r) | none=>none)
 | []=>none
def pA (e:Ty):List TV->Option (List (T e)×List TV)
 | .Ez e' l::r=>(match PR e' e with | some ⟨h⟩=>some ((h▸l:List (T e)),r) | none=>none)
 | _=>none
mutual
noncomputable def Vk:(t:Ty)->List TV->Option (T t×List TV)
 | .int k,cs=>sM k cs
 | .str,cs=>iA cs
 | .bool,cs=>VI cs
 | .st fs,cs=>Vl fs cs
 | .sl e,cs=>pA e cs
noncomputable def Vl:(ts:Ky)->List TV->Option (Ts ts×List TV)
 | .nil,cs=>some ((),cs)
 | .cons t .nil,cs=>Vk t cs
 | .cons t (.cons u ts),cs=>(match Vk t cs with
  | some (x,r)=>(match Vl (.cons u ts) r with | some (y,r')=>some ((x,y),r') | none=>none)
  | none=>none)
end
noncomputable def cV (t:Ty):Nat->List TV->Option (List (T t))
 | 0,[]=>some []
 | n+1,cs=>(match Vk t cs with
  | some (x,r)=>(match cV t n r with | some xs=>some (x::xs) | none=>none)
  | none=>none)
 | 0,_::_=>none
def B5:List CI->Nat->Option CI
 | [],_=>none
 | o::_,0=>some o
 | _::S,l+1=>B5 S l
def GU:List CI->Nat->CI->List CI
 | [],_,_=>[]
 | _::S,0,o=>o::S
 | a::S,l+1,o=>a::GU S l o
def Vm (TS:List CI) (t:Ty):TV->Option (List (T t))
 | .Ez e l=>(match PR e t with | some ⟨h⟩=>some (h▸l) | none=>none)
 | .AL=>some []
 | .IU l=>(match B5 TS l with
  | some (.row e ls)=>(match PR e t with | some ⟨h⟩=>some (h▸ls) | none=>none)
  | _=>none)
 | .sl l off len=>(match B5 TS l with
  | some (.row e ls)=>(match PR e t with | some ⟨h⟩=>some ((h▸ls:List (T t)).drop off.toNat |>.take len.toNat) | none=>none)
  | _=>none)
 | _=>none
def cP (k:IntKind) (x:TV):Option Int:=(match gM x with | some (k',n)=>(match iZ k k' with | some _=>some n | none=>none) | none=>none)
def cQ:TV->Option (List UInt8) | .str s=>some s | _=>none
noncomputable def cT (fs:Ky):TV->Option (Ts fs)
 | .agg cs=>(match Vl fs cs with | some (x,[])=>some x | _=>none)
 | _=>none
noncomputable def P_ (TS:List CI):(t:Ty)->TV->Option (T t)
 | .int k,x=>cP k x
 | .str,x=>cQ x
 | .bool,x=>v_ x
 | .st fs,x=>cT fs x
 | .sl e,x=>Vm TS e x
def PG:TV->Option (List TV)
 | .agg cs=>some cs
 | .DH _=>none
 | .C3=>none
 | .gd _=>none
 | .Xc _ _=>none
 | .F7 _ _ _ _ _=>none
 | .ifs _ _=>none
 | .bq _=>none
 | x=>some [x]
def I6 {α:Type}:Nat->List α->Option (List α)
 | 0,_=>some []
 | n+1,x::xs=>(match I6 n xs with | some ys=>some (x::ys) | none=>none)
 | _+1,[]=>none
def NT {α:Type}:List α->List α->List α
 | [],_=>[]
 | cs,[]=>cs
 | _::cs,y::ys=>y::NT cs ys
def Kk {α:Type}:List α->Nat->List α->List α
 | cs,0,ys=>NT cs ys
 | [],_+1,_=>[]
 | c::cs,n+1,ys=>c::Kk cs n ys
def nB (ag:Bool) (xs:List TV):Option TV:=
 match ag with | true=>some (.agg xs) | false=>(match xs with | [x]=>some x | _=>none)
def NI {α:Type}:List α->Nat->Bool
 | [],0=>true
 | _::l,n+1=>NI l n
 | _,_=>false
def sizeLe:Nat->List TV->Bool
 | 0,_=>true
 | n+1,_::l=>sizeLe n l
 | _+1,[]=>false
def YV (F:RF) (path:List (Nat×Bool)) (cs:List TV):List (Nat×Nat×AO)->Option (List TV)
 | []=>some cs
 | (off,n,x)::rest=>(match O_ F path x with
  | some x=>(match PG x with
   | some ys=>(match NI ys n,sizeLe (off+n) cs with
    | true,true=>YV F path (Kk cs off ys) rest
    | _,_=>none)
   | none=>none)
  | none=>none)
def nA (k:IntKind) (n:Int):List Prop×TV:=
 match k with | .i64=>([AQ n],.int .i64 n) | k=>([],.int k (k.wrap n))
def VN (op:BinOp) (k:IntKind) (a b:Int):Option (List Prop×TV):=
 match op with
 | .add=>some (nA k (a+b))
 | .sub=>some (nA k (a-b))
 | .mul=>some (nA k (a*b))
 | .quo=>some ((b≠0)::(nA k (a.tdiv b)).1,(nA k (a.tdiv b)).2)
 | .rem=>some ([b≠0],.int k (a.tmod b))
 | .eql=>some ([],.pr (a=b))
 | .neq=>some ([],.pr (a≠b))
 | .lss=>some ([],.pr (a<b))
 | .leq=>some ([],.pr (a<=b))
 | .gtr=>some ([],.pr (b<a))
 | .geq=>some ([],.pr (b<=a))
 | .and=>some ([],.int k (k.wrap ((BitVec.ofInt k.bits a) &&& (BitVec.ofInt k.bits b)).toNat))
 | .or=>some ([],.int k (k.wrap ((BitVec.ofInt k.bits a) ||| (BitVec.ofInt k.bits b)).toNat))
 | .xor=>some ([],.int k (k.wrap ((BitVec.ofInt k.bits a) ^^^ (BitVec.ofInt k.bits b)).toNat))
 | _=>none
def bU (op:BinOp) (a b:List UInt8):Option (List Prop×TV):=
 match op with
 | .add=>some ([AQ (a.length+b.length)],.str (a++b))
 | .eql=>some ([],.pr (a=b))
 | .neq=>some ([],.pr (a≠b))
 | .lss=>some ([],.pr (Op.bytesLess a b=true))
 | .leq=>some ([],.pr (Op.bytesLess a b=true\/a=b))
 | .gtr=>some ([],.pr (¬(Op.bytesLess a b=true\/a=b)))
 | .geq=>some ([],.pr (¬Op.bytesLess a b=true))
 | _=>none
def lV:TV->Option Prop
 | .pr p=>some p
 | .bb b=>some (b=true)
 | .tt=>some True
 | .ff=>some False
 | _=>none
def On (k:FK) (x y:TV):Option Prop:=
 match k with
 | .int=>(match gM x,gM y with
  | some (k,a),some (k',b)=>(match iZ k k' with | some _=>some (a=b) | none=>none)
  | _,_=>none)
 | .str=>(match decAS0 x,decAS0 y with | some a,some b=>some (a=b) | _,_=>none)
 | .bool=>(match lV x,lV y with | some a,some b=>some (a↔b) | _,_=>none)
where decAS0:TV->Option (List UInt8) | .str s=>some s | _=>none
def Ga:List FK->List TV->List TV->Option Prop
 | [],[],[]=>some True
 | [k],[x],[y]=>On k x y
 | k::ks,x::xs,y::ys=>(match On k x y,Ga ks xs ys with | some p,some q=>some (p/\q) | _,_=>none)
 | _,_,_=>none
def mA (op:BinOp) (p:Prop):Option (List Prop×TV):=
 match op with | .eql=>some ([],.pr p) | .neq=>some ([],.pr (¬p)) | _=>none
def lf (op:BinOp) (k:IntKind) (a:Int) (k':IntKind) (b:Int):Option (List Prop×TV):=
 match op with
 | .shl=>some ((0<=b)::(nA k (a*2 ^ (min b.toNat k.bits))).1,(nA k (a*2 ^ (min b.toNat k.bits))).2)
 | .shr=>some ([0<=b],.int k (a.fdiv (2 ^ (min b.toNat k.bits))))
 | op=>(match iZ k k' with | some _=>VN op k a b | none=>none)
def uq (q:lN) (op:BinOp) (x y:TV):Option (List Prop×TV):=
 match x,y with
 | .byte a,.byte b=>(match op with
  | .eql=>some ([],.pr (a=b))
  | .neq=>some ([],.pr (a≠b))
  | op=>lf op .u8 (a.toNat:Int) .u8 (b.toNat:Int))
 | .int k a,.int k' b=>lf op k a k' b
 | .byte a,.int k' b=>lf op .u8 (a.toNat:Int) k' b
 | .int k a,.byte b=>lf op k a .u8 (b.toNat:Int)
 | .str a,.str b=>bU op a b
 | .agg xs,.agg ys=>(match q with | .agg ks=>(match Ga ks xs ys with | some p=>mA op p | none=>none) | _=>none)
 | .B4,.B4=>(match q with | .ptr=>mA op True | _=>none)
 | .B4,.ptr _ _=>(match q with | .ptr=>mA op False | _=>none)
 | .B4,.I0 _ _ _=>(match q with | .ptr=>mA op False | _=>none)
 | .B4,.GX _=>(match q with | .ptr=>mA op False | _=>none)
 | .ptr _ _,.B4=>(match q with | .ptr=>mA op False | _=>none)
 | .I0 _ _ _,.B4=>(match q with | .ptr=>mA op False | _=>none)
 | .GX _,.B4=>(match q with | .ptr=>mA op False | _=>none)
 | .I3,.I3=>(match q with | .func=>mA op True | _=>none)
 | .fn _ _,.I3=>(match q with | .func=>mA op False | _=>none)
 | x,y=>(match q with
  | .bool=>(match lV x,lV y with | some a,some b=>mA op (a↔b) | _,_=>none)
  | _=>none)
def qz:Value->Value->Bool
 | .pointer (some ⟨b,o,none⟩),.pointer (some ⟨b',o',none⟩)=>Nat.beq b b' && Nat.beq o o'
 | _,_=>false
mutual
def UX:TV->TV->Bool
 | .IU l,.IU l'=>Nat.beq l l'
 | .ptr l o,.ptr l' o'=>Nat.beq l l' && Nat.beq o o'
 | .B4,.B4=>true
 | .I3,.I3=>true
 | .I4,.I4=>true
 | .M8,.M8=>true
 | .AL,.AL=>true
 | .tt,.tt=>true
 | .ff,.ff=>true
 | .fn f xs,.fn g ys=>Nat.beq f g && Rz xs ys
 | .agg xs,.agg ys=>Rz xs ys
 | .DH xs,.DH ys=>Rz xs ys
 | .GX xs,.GX ys=>Rz xs ys
 | .bq v,.bq u=>qz v u
 | _,_=>false
def Rz:List TV->List TV->Bool
 | [],[]=>true
 | x::xs,y::ys=>UX x y && Rz xs ys
 | _,_=>false
end
noncomputable def kh (p:Prop) (x y:TV):Option TV:=
 match x,y with
 | .tt,.ff=>some (.pr p)
 | .ff,.tt=>some (.pr (¬p))
 | .tt,.tt=>some .tt
 | .ff,.ff=>some .ff
 | .int k a,.int k' b=>(match iZ k k' with | some _=>some (.int k (H6 p a b)) | none=>none)
 | .byte a,.byte b=>some (.byte (H6 p a b))
 | .int .u8 a,.byte b=>some (.int .u8 (H6 p a (b.toNat:Int)))
 | .byte a,.int .u8 b=>some (.int .u8 (H6 p (a.toNat:Int) b))
 | .str a,.str b=>some (.str (H6 p a b))
 | .tt,y=>(match lV y with | some b=>some (.pr (p\/b)) | none=>none)
 | x,.ff=>(match lV x with | some a=>some (.pr (p/\a)) | none=>none)
 | .ff,y=>(match lV y with | some b=>some (.pr (¬p/\b)) | none=>none)
 | x,y=>(match lV x,lV y with
  | some a,some b=>some (.pr ((p/\a)\/(¬p/\b)))
  | _,_=>(match UX x y with | true=>some x | false=>none))
noncomputable def Wd (p:Prop):List TV->List TV->Option (List TV)
 | [],[]=>some []
 | x::xs,y::ys=>(match kh p x y,Wd p xs ys with | some z,some zs=>some (z::zs) | _,_=>none)
 | _,_=>none
noncomputable def Pq (p:Prop) (x y:TV):Option TV:=
 match x,y with
 | .agg xs,.agg ys=>(match UX (.agg xs) (.agg ys) with | true=>some (.agg xs) | false=>(match Wd p xs ys with | some zs=>some (.agg zs) | none=>none))
 | x,y=>kh p x y
noncomputable def eJ (k:Nat) (i:Int) (ag:Bool) (cs:List TV):Nat->Nat->Option TV
 | 0,_=>none
 | n+1,j=>(match I6 k (cs.drop (j*k)) with
  | some xs=>(match nB ag xs with
   | some x=>(match n with
    | 0=>some x
    | n+1=>(match eJ k i ag cs (n+1) (j+1) with | some y=>Pq (i=(j:Int)) x y | none=>none))
   | none=>none)
  | none=>none)
def uI (k:IntKind) (x:TV):Option (List Prop×TV):=
 match x with
 | .int _ n=>some (nA k n)
 | .byte b=>(match k with
  | .i64=>some ([],.int .i64 (b.toNat:Int))
  | .u8=>some ([],.byte b)
  | k=>some (nA k (b.toNat:Int)))
 | _=>none
def tF (F:RF) (path:List (Nat×Bool)):Option AO->Option Int
 | none=>some 0
 | some r=>(match O_ F path r with | some x=>(match gM x with | some (_,n)=>some n | none=>none) | none=>none)
def re (F:RF) (path:List (Nat×Bool)) (n:Int):Option AO->Option Int
 | none=>some n
 | some r=>(match O_ F path r with | some x=>(match gM x with | some (_,n)=>some n | none=>none) | none=>none)
def pz (k:IntKind) (a:Int):List TV->Option TV
 | []=>some (.int k a)
 | .int k' b::r=>(match iZ k k' with | some _=>pz k (min a b) r | none=>none)
 | _=>none
def px (k:IntKind) (a:Int):List TV->Option TV
 | []=>some (.int k a)
 | .int k' b::r=>(match iZ k k' with | some _=>px k (max a b) r | none=>none)
 | _=>none
inductive Nc where
 | val (t:Ty)
 | own (t:Ty)
abbrev RT:Nc->Type
 | .val t=>T t
 | .own t=>List (T t)
def Qn:List Nc->Type
 | []=>Unit
 | [r]=>RT r
 | r::s::rs=>RT r×Qn (s::rs)
structure Ct where
 args:Ky
 res:List Nc
 pre:Ts args->Prop
 fn:Ts args->Qn res
def HH:(rs:List Nc)->Qn rs->Nat->List TV×List CI
 | [],_,_=>([],[])
 | [.val t],x,_=>([bY t x],[])
 | [.own t],x,n=>([.IU n],[.row t x])
 | .val t::s::rs,x,n=>(bY t x.1::(HH (s::rs) x.2 n).1,(HH (s::rs) x.2 n).2)
 | .own t::s::rs,x,n=>(.IU n::(HH (s::rs) x.2 (n+1)).1,.row t x.1::(HH (s::rs) x.2 (n+1)).2)
def bH (xs:List TV):TV:=match xs with | [x]=>x | xs=>.DH xs
def Ld:List Nc->Bool
 | []=>true
 | .val _::rs=>Ld rs
 | .own _::_=>false
mutual
def Pk:Ty->Bool
 | .sl _=>false
 | .st fs=>V0 fs
 | _=>true
def V0:Ky->Bool
 | .nil=>true
 | .cons t ts=>Pk t && V0 ts
end
def Pj:List Nc->Bool
 | []=>true
 | .val t::rs=>Pk t && Pj rs
 | .own t::rs=>Pk t && Pj rs
mutual
def Ha:TV->Bool
 | .ptr _ _ | .I0 _ _ _ | .IU _ | .sl _ _ _ | .Xc _ _ | .F7 _ _ _ _ _ | .ifs _ _=>false
 | .GX cs=>KA cs
 | .agg cs=>KA cs
 | .DH cs=>KA cs
 | .fn _ cs=>KA cs
 | _=>true
def KA:List TV->Bool
 | []=>true
 | x::xs=>Ha x && KA xs
end
noncomputable def o8 (TS:List CI) (t:Ty):List TV->Option (T t)
 | [x]=>P_ TS t x
 | _=>none
noncomputable def PV (TS:List CI):(ts:Ky)->List TV->Option (Ts ts)
 | .nil,xs=>(match xs with | []=>some () | _::_=>none)
 | .cons t .nil,xs=>o8 TS t xs
 | .cons t (.cons u ts),xs=>(match xs with
  | x::xs=>(match P_ TS t x,PV TS (.cons u ts) xs with | some a,some b=>some (a,b) | _,_=>none)
  | []=>none)
section
variable (Γ : List (Nat × Ct)) (ht : Option Ty) (F : RF) (path : List (Nat × Bool)) (TS : List CI)
def iY:AO->Bool | .c .AL=>true | _=>false
def uO (x:AO):Option (List Prop×TV):=
 match ht,iY x with
 | some _,true=>none
 | _,_=>(match O_ F path x with | some y=>some ([],y) | none=>none)
noncomputable def kL (n:Nat) (gs:List (Nat×Bool)) (c:TV) (a b:AO):Option (List Prop×TV):=
 match c with
 | .gd p=>(match O_ F ((n,true)::gs) a,O_ F ((n,false)::gs) b with
  | some x,some y=>(match Pq p x y with | some z=>some ([],z) | none=>none)
  | _,_=>none)
 | c=>(match lV c,O_ F path a,O_ F path b with
  | some p,some x,some y=>(match Pq p x y with | some z=>some ([],z) | none=>none)
  | _,_,_=>none)
noncomputable def pM (c a b:AO):Option (List Prop×TV):=
 match c with
 | .t n=>(match BL F n with
  | some (gs,_,c)=>(match jb gs path with
   | true=>kL F path n gs c a b
   | false=>none)
  | none=>none)
 | .c _=>none
def j_ (z:List AA) (parts:List (Nat×Nat×AO)):Option (List Prop×TV):=
 match qS z with
 | some cs=>(match YV F path cs parts with | some ys=>some ([],.agg ys) | none=>none)
 | none=>none
noncomputable def kJ (len k:Nat) (z:List AA) (parts:List (Nat×Nat×AO)):Option ((t:Ty)×List (T t)):=
 match ht,qS z with
 | some t,some cs=>(match Nat.beq (G9 t) k,YV F path cs parts with
  | true,some ys=>(match cV t len ys with | some xs=>some ⟨t,xs⟩ | none=>none)
  | _,_=>none)
 | _,_=>none
def UP (ag:Bool) (n:Nat) (cs:List TV):Option (List Prop×TV):=
 match I6 n cs with | some xs=>(match nB ag xs with | some y=>some ([],y) | none=>none) | none=>none
def Sb (n:Nat) (ag:Bool) (x:TV):Option (List Prop×TV):=
 match x with
 | .GX cs=>UP ag n cs
 | .ptr l off=>(match B5 TS l with
  | some (.cells _ cs)=>UP ag n (cs.drop off)
  | _=>none)
 | .I0 l i fo=>(match B5 TS l with
  | some (.row t ls)=>UP ag n ((Gb t (@gt (T t) ⟨zT t⟩ ls i)).drop fo)
  | some (.Eg _ _)=>(match n,ag,fo with | 1,false,0=>some ([],.Xc l i) | _,_,_=>none)
  | _=>none)
 | .F7 l i j k fo=>(match B5 TS l with
  | some (.Eg t ls)=>(match Nat.beq (G9 t) k with
   | true=>UP ag n ((Gb t (@gt (T t) ⟨zT t⟩ (gt ls i) j)).drop fo)
   | false=>none)
  | _=>none)
 | _=>none
def cy (x:TV):Option (List Prop×TV):=
 match x with
 | .GX cs=>some ([],.GX cs)
 | .ptr l off=>some ([],.ptr l off)
 | .I0 l i fo=>some ([],.I0 l i fo)
 | .F7 l i j k fo=>some ([],.F7 l i j k fo)
 | .fn f cs=>some ([],.fn f cs)
 | _=>none
def uP (x:TV):Option (List Prop×TV):=
 match x with
 | .tt=>some ([],.ff)
 | .ff=>some ([],.tt)
 | y=>(match oY y with | some p=>some ([],.pr (¬p)) | none=>none)
def Vw (x:TV) (lo hi:Option AO):Option (List Prop×TV):=
 match x with
 | .str s=>(match tF F path lo,re F path (s.length:Int) hi with
  | some a,some b=>some ([0<=a,a<=b,b<=(s.length:Int)],.str ((s.take b.toNat).drop a.toNat))
  | _,_=>none)
 | _=>none
def Vx (k:Nat) (x:TV) (lo hi:Option AO):Option (List Prop×TV):=
 match x with
 | .Ez t l=>(match tF F path lo,re F path (l.length:Int) hi,Nat.beq (G9 t) k with
  | some a,some b,true=>some ([0<=a,a<=b,b<=(l.length:Int)],.Ez t ((l.take b.toNat).drop a.toNat))
  | _,_,_=>none)
 | .IU l=>(match B5 TS l with
  | some (.row t ls)=>(match tF F path lo,re F path (ls.length:Int) hi,Nat.beq (G9 t) k with
   | some a,some b,true=>some ([0<=a,a<=b,b<=(ls.length:Int)],.sl l a (b-a))
   | _,_,_=>none)
  | _=>none)
 | .sl l off len=>(match B5 TS l with
  | some (.row t ls)=>(match tF F path lo,re F path len hi,Nat.beq (G9 t) k with
   | some a,some b,true=>some ([0<=a,a<=b,b<=len],.sl l (off+a) (b-a))
   | _,_,_=>none)
  | _=>none)
 | .AL=>(match tF F path lo,re F path 0 hi with
  | some a,some b=>some ([a=0,b=0],.AL)
  | _,_=>none)
 | _=>none
def kE (off:Nat) (x:TV):Option (List Prop×TV):=
 match x with
 | .ptr l o=>some ([],.ptr l (o+off))
 | .I0 l i fo=>some ([],.I0 l i (fo+off))
 | .F7 l i j k fo=>some ([],.F7 l i j k (fo+off))
 | .GX cs=>some ([],.GX (cs.drop off))
 | _=>none
def kG (off n:Nat) (ag:Bool) (x:TV):Option (List Prop×TV):=
 match x with
 | .agg cs=>UP ag n (cs.drop off)
 | _=>none
def kH (k:Nat) (x:TV) (j:Int):Option (List Prop×TV):=
 match x with
 | .Ez t l=>(match Nat.beq (G9 t) k with
  | true=>some ([0<=j,j<(l.length:Int)],.GX (Gb t (@gt (T t) ⟨zT t⟩ l j)))
  | false=>none)
 | .IU l=>(match B5 TS l with
  | some (.row t ls)=>(match Nat.beq (G9 t) k with
   | true=>some ([0<=j,j<(ls.length:Int)],.I0 l j 0)
   | false=>none)
  | some (.Eg t ls)=>(match Nat.beq 1 k with
   | true=>some ([0<=j,j<(ls.length:Int)],.I0 l j 0)
   | false=>none)
  | _=>none)
 | .Xc l i=>(match B5 TS l with
  | some (.Eg t ls)=>(match Nat.beq (G9 t) k with
   | true=>some ([0<=j,j<((gt ls i).length:Int)],.F7 l i j k 0)
   | false=>none)
  | _=>none)
 | .sl l off len=>(match B5 TS l with
  | some (.row t ls)=>(match Nat.beq (G9 t) k with
   | true=>some ([0<=j,j<len],.I0 l (off+j) 0)
   | false=>none)
  | _=>none)
 | _=>none
noncomputable def kI (k:Nat) (ar:Option Nat) (ag:Bool) (x:TV) (j:Int):Option (List Prop×TV):=
 match ar with
 | none=>(match x with
  | .str s=>some ([0<=j,j<(s.length:Int)],.byte (gt s j))
  | _=>none)
 | some n=>(match x with
  | .agg cs=>(match eJ k j ag cs n 0 with
   | some z=>some ([0<=j,j<(n:Int)],z)
   | none=>none)
  | _=>none)
def uM (str:Bool) (x:TV):Option (List Prop×TV):=
 match str,x with
 | true,.str s=>some ([],.int .i64 (s.length:Int))
 | false,.Ez _ l=>some ([],.int .i64 (l.length:Int))
 | false,.IU l=>(match B5 TS l with | some (.row _ ls)=>some ([],.int .i64 (ls.length:Int)) | some (.Eg _ ls)=>some ([],.int .i64 (ls.length:Int)) | _=>none)
 | false,.Xc l i=>(match B5 TS l with | some (.Eg _ ls)=>some ([],.int .i64 ((gt ls i).length:Int)) | _=>none)
 | false,.sl l off len=>some ([],.int .i64 len)
 | false,.AL=>some ([],.int .i64 0)
 | _,_=>none
def sV (mx:Bool) (xs:List TV):Option (List Prop×TV):=
 match xs with
 | .int k a::r=>(match (match mx with | true=>px k a r | false=>pz k a r) with | some y=>some ([],y) | none=>none)
 | _=>none
def pL (f:Fn) (first:List AO) (cap:List AO):Option (List Prop×TV):=
 match f,first with
 | .func f,[]=>(match Wm F path cap with | some xs=>some ([],.fn f xs) | none=>none)
 | _,_=>none
def wA:TV->Option UInt8
 | .byte b=>some b
 | .int .u8 n=>some n.toNat.toUInt8
 | _=>none
def uL (k:gE) (xs:List TV):Option (List Prop×TV):=
 match xs with
 | [.str s,c]=>(match wA c with
  | some b=>(match k with
   | .pZ=>some ([],.int .i64 (Lib.indexByte s b))
   | .wJ=>some ([],.int .i64 ((Lib.countByte s b:Nat):Int)))
  | none=>none)
 | _=>none
def YU (x:TV) (i:Nat):Option (List Prop×TV):=
 match x with
 | .DH xs=>(match xs.drop i with | y::_=>some ([],y) | []=>none)
 | _=>none
noncomputable def aC (f:Nat) (xs:List TV):Option (List Prop×TV):=
 match BL Γ f with
 | some ct=>(match Ld ct.res,PV TS ct.args xs,Pj ct.res || KA xs with
  | true,some a,true=>some ([ct.pre a],bH (HH ct.res (ct.fn a) 0).1)
  | _,_,_=>none)
 | none=>none
mutual
def w_:TV->TV->Option (List Prop)
 | .int k a,.int k' b=>(match iZ k k' with | some _=>some [a=b] | none=>none)
 | .byte a,.byte b=>some [a=b]
 | .str a,.str b=>some [a=b]
 | .Ez t a,.Ez t' b=>(match PR t t' with | some ⟨h⟩=>some [h▸a=b] | none=>none)
 | .IU l,.IU l'=>(match Nat.beq l l' with | true=>some [] | false=>none)
 | .ptr l o,.ptr l' o'=>(match Nat.beq l l',Nat.beq o o' with | true,true=>some [] | _,_=>none)
 | .GX xs,.GX ys=>iL xs ys
 | .fn f xs,.fn g ys=>(match Nat.beq f g with | true=>iL xs ys | false=>none)
 | _,_=>none
def iL:List TV->List TV->Option (List Prop)
 | [],[]=>some []
 | x::xs,y::ys=>(match w_ x y,iL xs ys with | some ps,some qs=>some (ps++qs) | _,_=>none)
 | _,_=>none
end
def Iy (x:AO) (f:TV->Option (List Prop×TV)):Option (List Prop×TV):=match O_ F path x with | some y=>f y | none=>none
def ZU (x y:AO) (f:TV->TV->Option (List Prop×TV)):Option (List Prop×TV):=match O_ F path x,O_ F path y with | some a,some b=>f a b | _,_=>none
def lK (x i:AO) (f:TV->Int->Option (List Prop×TV)):Option (List Prop×TV):=
 match O_ F path x,O_ F path i with | some a,some b=>(match gM b with | some (_,j)=>f a j | none=>none) | _,_=>none
def P1 (xs:List AO) (f:List TV->Option (List Prop×TV)):Option (List Prop×TV):=match Wm F path xs with | some ys=>f ys | none=>none
noncomputable def uQ:EL->Option (List Prop×TV)
 | .CD x=>uO ht F path x
 | .pick c a b=>pM F path c a b
 | .build z parts=>j_ F path z parts
 | .Ax ro len k z parts=>(match ro with
  | true=>(match kJ ht F path len k z parts with | some ⟨t,xs⟩=>some ([],.Ez t xs) | none=>none)
  | false=>none)
 | .load n ag x=>Iy F path x (Sb TS n ag)
 | .Fg x=>Iy F path x cy
 | .bin q op x y=>ZU F path x y (uq q op)
 | .Od x=>Iy F path x fun x=>match x with | .str s=>some ([],.str s) | _=>none
 | .sA x=>Iy F path x fun x=>match Vm TS (.int .u8) x with | some l=>some ([],.str (List.map (fun n:Int=>UInt8.ofNat n.toNat) l)) | none=>none
 | .not x=>Iy F path x uP
 | .neg x=>Iy F path x fun x=>match x with | .int k n=>some (nA k (0-n)) | _=>none
 | .conv k x=>Iy F path x (uI k)
 | .slice k x lo hi=>Iy F path x fun x=>match k with | 0=>Vw F path x lo hi | k+1=>Vx F path TS (k+1) x lo hi
 | .Bo off x=>Iy F path x (kE off)
 | .field off n ag x=>Iy F path x (kG off n ag)
 | .DT k ar x i=>(match ar with | none=>lK F path x i (kH TS k) | some _=>none)
 | .index k ar ag x i=>lK F path x i (kI k ar ag)
 | .len str x=>Iy F path x (uM TS str)
 | .min xs=>P1 F path xs (sV false)
 | .max xs=>P1 F path xs (sV true)
 | .HJ f first cap=>pL F path f first cap
 | .slice3 k x h m=>Iy F path x fun x=>ZU F path h m fun y z=>(match gM y,gM z with
  | some (k1,n),some (k2,n')=>(match x with
   | .IU l=>(match B5 TS l with
    | some (.row t ls)=>(match Nat.beq (G9 t) k,iZ k1 k2 with | true,some _=>some ([n'=n,0<=n,n<=ls.length],.sl l 0 n) | _,_=>none)
    | _=>none)
   | _=>none)
  | _,_=>none)
 | .WR t x=>Iy F path x fun x=>match x with | .IU l=>some ([],.ifs t l) | _=>none
 | .ext k xs=>P1 F path xs (uL k)
 | .extract x i=>Iy F path x fun x=>YU x i
 | .call f args=>P1 F path args (aC Γ TS f)
 | .again t n ag x=>ZU F path x (.t t) fun x y=>(match Sb TS n ag x with
  | some (ps,z)=>(match w_ z y with | some qs=>some (ps++qs,.C3) | none=>none)
  | none=>none)
 | .GZ x args=>Iy F path x fun x=>(match x with | .fn f cap=>P1 F path args fun xs=>aC Γ TS f (xs++cap) | _=>none)
 | _=>none
end
mutual
def Ej (l:Nat):TV->TV
 | .IU l'=>(match Nat.beq l l' with | true=>.C3 | false=>.IU l')
 | .sl l' a b=>(match Nat.beq l l' with | true=>.C3 | false=>.sl l' a b)
 | .I0 l' a b=>(match Nat.beq l l' with | true=>.C3 | false=>.I0 l' a b)
 | .ptr l' a=>(match Nat.beq l l' with | true=>.C3 | false=>.ptr l' a)
 | .Xc l' i=>(match Nat.beq l l' with | true=>.C3 | false=>.Xc l' i)
 | .F7 l' i j k a=>(match Nat.beq l l' with | true=>.C3 | false=>.F7 l' i j k a)
 | .ifs t l'=>(match Nat.beq l l' with | true=>.C3 | false=>.ifs t l')
 | .agg cs=>.agg (Ji l cs)
 | .DH cs=>.DH (Ji l cs)
 | .GX cs=>.GX (Ji l cs)
 | .fn f cs=>.fn f (Ji l cs)
 | x=>x
def Ji (l:Nat):List TV->List TV
 | []=>[]
 | x::xs=>Ej l x::Ji l xs
end
def NO (l:Nat):RF->RF
 | []=>[]
 | (s,gs,p,x)::F=>(s,gs,p,Ej l x)::NO l F
def UG (l:Nat):List RF->List RF
 | []=>[]
 | F::G=>NO l F::UG l G
def N8 (l:Nat):List CI->List CI
 | []=>[]
 | .cells k cs::S=>.cells k (Ji l cs)::N8 l S
 | o::S=>o::N8 l S
mutual
def DP (l:Nat):TV->TV
 | .Xc l' i=>(match Nat.beq l l' with | true=>.C3 | false=>.Xc l' i)
 | .F7 l' i j k a=>(match Nat.beq l l' with | true=>.C3 | false=>.F7 l' i j k a)
 | .ifs t l'=>(match Nat.beq l l' with | true=>.C3 | false=>.ifs t l')
 | .agg cs=>.agg (JF l cs)
 | .DH cs=>.DH (JF l cs)
 | .GX cs=>.GX (JF l cs)
 | .fn f cs=>.fn f (JF l cs)
 | x=>x
def JF (l:Nat):List TV->List TV
 | []=>[]
 | x::xs=>DP l x::JF l xs
end
def QG (l:Nat):RF->RF
 | []=>[]
 | (s,gs,p,x)::F=>(s,gs,p,DP l x)::QG l F
def ig (l:Nat):List RF->List RF
 | []=>[]
 | F::G=>QG l F::ig l G
def Sm (l:Nat):List CI->List CI
 | []=>[]
 | .cells k cs::S=>.cells k (JF l cs)::Sm l S
 | o::S=>o::Sm l S
def PL:List CI->Nat
 | []=>0
 | _::S=>PL S+1
def NU:List CI->CI->List CI
 | [],o=>[o]
 | a::S,o=>a::NU S o
def ed:List CI->List CI->List CI
 | [],S=>S
 | a::S,S'=>a::ed S S'
noncomputable def fM (TS:List CI) (t:Ty):TV->Option (List (T t))
 | .str s=>(match t with | .int .u8=>some ((s.map fun c=>(c.toNat:Int)):List Int) | _=>none)
 | x=>Vm TS t x
section
variable (Γ : List (Nat × Ct)) (ht : Option Ty) (F : RF) (G : List RF) (TS : List CI)
abbrev ER:=Option (List Prop×TV×RF×List RF×List CI)
def kK:ER:=match ht with | some t=>some ([],.IU (PL TS),F,G,NU TS (.row t [])) | none=>none
noncomputable def sX (k bytes:Nat) (z:List AA) (len cap:TV):ER:=
 match ht,qS z,gM len,gM cap with
 | some t,some cs,some (k1,a),some (k2,b)=>(match cV t 1 cs,Nat.beq (G9 t) k,iZ k1 k2 with
  | some [x],true,some _=>some ([b=a,0<=a,bytes*a.toNat<=140737488355328],.IU (PL TS),F,G,NU TS (.row t (List.replicate a.toNat x)))
  | _,_,_=>none)
 | _,_,_,_=>none
def pD (ht:Option Ty) (z:List AA) (k:Nat):Option Ty:=
 match ht,z,k with
 | some (.sl e),[.AL],1=>some e
 | _,_,_=>none
noncomputable def uN (e:Ty) (bytes:Nat) (len cap:TV):ER:=
 match gM len,gM cap with
 | some (k1,a),some (k2,b)=>(match iZ k1 k2 with
  | some _=>some ([b=a,0<=a,bytes*a.toNat<=140737488355328],.IU (PL TS),F,G,NU TS (.Eg e (List.replicate a.toNat [])))
  | none=>none)
 | _,_=>none
noncomputable def Vy (n:Nat) (x y:TV):ER:=
 match x,y with
 | .I0 l i fo,.IU q=>(match B5 TS l,B5 TS q with
  | some (.Eg t ls),some (.row t' xs)=>(match n,fo,Nat.beq q l,PR t' t with
   | 1,0,false,some ⟨h⟩=>some ([],.C3,NO q (QG l F),UG q (ig l G),GU (GU (N8 q (Sm l TS)) q .dead) l (.Eg t (ls.set i.toNat (h▸xs))))
   | _,_,_,_=>none)
  | _,_=>none)
 | .F7 l i j k fo,y=>(match B5 TS l,PG y with
  | some (.Eg t ls),some ys=>(match Nat.beq (G9 t) k,NI ys n,sizeLe (fo+n) (Gb t (@gt (T t) ⟨zT t⟩ (gt ls i) j)),Vk t (Kk (Gb t (@gt (T t) ⟨zT t⟩ (gt ls i) j)) fo ys),n with
   | true,true,true,some (x',[]),_+1=>some ([],.C3,F,G,GU TS l (.Eg t (ls.set i.toNat ((gt ls i).set j.toNat x'))))
   | _,_,_,_,_=>none)
  | _,_=>none)
 | _,_=>none
def VP (n:Nat) (x y:TV):Option (Nat×Nat×Nat×List TV×Nat×Ty):=
 match y,n,x with
 | .AL,1,.ptr l off=>(match B5 TS l with
  | some (.cells k cs)=>(match cs.drop off with
   | .IU m::_=>(match B5 TS m,Nat.beq m l with | some (.row t _),false=>some (l,off,k,cs,m,t) | _,_=>none)
   | .sl m _ _::_=>(match B5 TS m,Nat.beq m l with | some (.row t _),false=>some (l,off,k,cs,m,t) | _,_=>none)
   | _=>none)
  | _=>none)
 | _,_,_=>none
noncomputable def aD (n:Nat) (x y:TV):ER:=
 match VP TS n x y with
 | some (l,off,k,cs,m,t)=>some ([],.C3,NO m F,UG m G,GU (GU (N8 m TS) m (.row t [])) l (.cells k (Kk (Ji m cs) off [.IU m])))
 | none=>match x,PG y with
 | .ptr l off,some ys=>(match B5 TS l with
  | some (.cells k cs)=>(match NI ys n,sizeLe (off+n) cs,n with
   | true,true,_+1=>some ([],.C3,F,G,GU TS l (.cells k (Kk cs off ys)))
   | _,_,_=>none)
  | _=>none)
 | .I0 l i fo,some ys=>(match B5 TS l with
  | some (.row t ls)=>(match NI ys n,sizeLe (fo+n) (Gb t (@gt (T t) ⟨zT t⟩ ls i)),Vk t (Kk (Gb t (@gt (T t) ⟨zT t⟩ ls i)) fo ys),n with
   | true,true,some (x',[]),_+1=>some ([],.C3,F,G,GU TS l (.row t (ls.set i.toNat x')))
   | _,_,_,_=>none)
  | _=>none)
 | _,_=>none
noncomputable def Vv (k bytes:Nat) (x y:TV):ER:=
 match x with
 | .IU l=>(match B5 TS l with
  | some (.row t ls)=>(match fM TS t y,Nat.beq (G9 t) k with
   | some ys,true=>some ([(ls.length+ys.length)*bytes<=140737488355328],.IU l,NO l F,UG l G,GU (N8 l TS) l (.row t (ls++ys)))
   | _,_=>none)
  | _=>none)
 | .sl l off len=>(match B5 TS l with
  | some (.row t ls)=>(match fM TS t y,Nat.beq (G9 t) k with
   | some ys,true=>some ([(len.toNat+ys.length)*bytes<=140737488355328],.IU l,NO l F,UG l G,GU (N8 l TS) l (.row t ((ls.drop off.toNat).take len.toNat++ys)))
   | _,_=>none)
  | _=>none)
 | .AL=>(match ht with
  | some t=>(match fM TS t y,Nat.beq (G9 t) k with
   | some ys,true=>some ([ys.length*bytes<=140737488355328],.IU (PL TS),F,G,NU TS (.row t ys))
   | _,_=>none)
  | none=>none)
 | _=>none
noncomputable def kC (f:Nat) (xs:List TV):ER:=
 match BL Γ f with
 | some ct=>(match PV TS ct.args xs,Pj ct.res || KA xs with
  | some a,true=>some ([ct.pre a],bH (HH ct.res (ct.fn a) (PL TS)).1,F,G,ed TS (HH ct.res (ct.fn a) (PL TS)).2)
  | _,_=>none)
 | none=>none
def Qf (x y:AO) (f:TV->TV->ER):ER:=match O_ F [] x,O_ F [] y with | some a,some b=>f a b | _,_=>none
noncomputable def kD (k:Nat) (z:List AA) (x:TV):ER:=
 match x,qS z with
 | .AL,_=>some ([],.C3,F,G,TS)
 | .IU l,some cs=>(match B5 TS l with
  | some (.row t ls)=>(match cV t 1 cs,Nat.beq (G9 t) k with
   | some [x],true=>some ([],.C3,F,G,GU TS l (.row t (List.replicate ls.length x)))
   | _,_=>none)
  | _=>none)
 | .sl l off len,some cs=>(match B5 TS l with
  | some (.row t ls)=>(match cV t 1 cs,Nat.beq (G9 t) k with
   | some [x],true=>some ([],.C3,F,G,GU TS l (.row t (ls.take off.toNat++List.replicate len.toNat x++ls.drop (off.toNat+len.toNat))))
   | _,_=>none)
  | _=>none)
 | _,_=>none
noncomputable def xP:EL->ER
 | .DE k=>(match ht with | some t=>(match Nat.beq (G9 t) k with | true=>kK ht F G TS | false=>none) | none=>none)
 | .CD x=>(match iY x with | true=>kK ht F G TS | false=>none)
 | .alloc k z=>(match qS z with | some cs=>some ([],.ptr (PL TS) 0,F,G,NU TS (.cells k cs)) | none=>none)
 | .box k x=>(match O_ F [] x with
  | some y=>(match PG y with | some cs=>some ([],.ptr (PL TS) 0,F,G,NU TS (.cells k cs)) | none=>none)
  | none=>none)
 | .Ax ro len k z parts=>(match ro with
  | false=>(match kJ ht F [] len k z parts with | some ⟨t,xs⟩=>some ([],.IU (PL TS),F,G,NU TS (.row t xs)) | none=>none)
  | true=>none)
 | .Hq k bytes z len cap=>Qf F len cap fun x y=>(match pD ht z k with | some e=>uN F G TS e bytes x y | none=>sX ht F G TS k bytes z x y)
 | .store n x v=>Qf F x v fun x y=>(match Vy F G TS n x y with | some r=>some r | none=>aD F G TS n x y)
 | .append k bytes s x=>Qf F s x (Vv ht F G TS k bytes)
 | .rn x=>(match O_ F [] x with | some (.str s)=>some ([],.IU (PL TS),F,G,NU TS (.row (.int .u8) (s.map fun c=>(c.toNat:Int)))) | _=>none)
 | .mark x=>(match O_ F [] x with
  | some (.IU l)=>(match B5 TS l with | some (.row (.int _) ls)=>some ([0<ls.length],.IU l,F,G,TS) | _=>none)
  | _=>none)
 | .clear k z x=>(match O_ F [] x with | some a=>kD F G TS k z a | none=>none)
 | .call f args=>(match Wm F [] args with | some xs=>kC Γ F G TS f xs | none=>none)
 | _=>none
end
end Go.Vc
end
section
namespace Go.Vc
structure Hi where
 ty:List (Nat×Ty)
 nm:List (Nat×String)
inductive An where
 | d
 | seq (a b:An)
 | loop (Xk KL Ua:List Nat) (a:An)
def An.l:An->An | .seq a _=>a | _=>.d
def An.r:An->An | .seq _ b=>b | _=>.d
def An.body:An->An | .loop _ _ _ a=>a | _=>.d
def An.Xk:An->List Nat | .loop m _ _ _=>m | _=>[]
def An.KL:An->List Nat | .loop _ s _ _=>s | _=>[]
def An.Ua:An->List Nat | .loop _ _ s _=>s | _=>[]
abbrev TK:=RF->List RF->List CI->Prop
def mentions (d:Nat):List (Nat×Bool)->Bool
 | []=>false
 | (g,_)::gs=>match Nat.beq g d with | true=>true | false=>mentions d gs
def T1 (d:Nat):RF->RF
 | []=>[]
 | (s,gs,p,x)::F=>match mentions d gs with | true=>(s,[],True,.C3)::T1 d F | false=>(s,gs,p,x)::T1 d F
def K8 (F:RF) (d:Option Nat) (gs:List (Nat×Bool)) (p:Prop) (x:TV):RF:=
 match d with
 | some d=>(match mentions d gs with | true=>(d,[],True,.C3)::T1 d F | false=>(d,gs,p,x)::T1 d F)
 | none=>F
def GQ (F:RF):List Nat->RF
 | []=>[]
 | t::AW=>match BL F t with | some ([],_,x)=>(t,[],True,x)::GQ F AW | _=>GQ F AW
def Po (F:RF) (t:Nat):TV:=match BL F t with | some ([],_,x)=>x | _=>.C3
def LD (F:RF):List Nat->List TV
 | []=>[]
 | t::W=>Po F t::LD F W
def VF:List Nat->List TV->RF->RF
 | t::W,x::xs,F=>(t,[],True,x)::VF W xs F
 | _,_,F=>F
def Ry:RF->RF->Bool
 | [],[]=>true
 | (s,gs,_,x)::F,(s',gs',_,y)::F'=>(match Nat.beq s s',N0 gs gs' with
  | true,true=>(match Ha x with | true=>Ry F F' | false=>(match UX x y with | true=>Ry F F' | false=>false))
  | _,_=>false)
 | _,_=>false
def ZD:List RF->List RF->Bool
 | [],[]=>true
 | F::G,F'::G'=>(match Ry F F' with | true=>ZD G G' | false=>false)
 | _,_=>false
def u7 (H5:Bool) (x:TV):Option TV:=
 match H5 with
 | false=>some x
 | true=>(match oY x with | some p=>some (.gd p) | none=>none)
def Jd:List (Nat×Bool)->Prop->Prop->Bool->Prop
 | [],_,p,true=>p
 | [],_,p,false=> ¬p
 | _::_,q,p,true=>q/\p
 | _::_,q,p,false=>q/\ ¬p
def qD (TS:List CI):TV->Option Int
 | .Ez _ l=>some (l.length:Int)
 | .IU l=>(match B5 TS l with | some (.row _ ls)=>some (ls.length:Int) | _=>none)
 | .sl _ _ len=>some len
 | _=>none
def jS (F:RF) (x:AO) (v:TV):RF:=
 match x with
 | .t n=>(match BL F n with
  | some ([],_,.pr _)=>(n,[],True,v)::F
  | some ([],_,.bb _)=>(n,[],True,v)::F
  | _=>F)
 | .c _=>F
structure Sp where
 ev:List TV->List RF->List CI->Option (List Prop×TV×List RF×List CI)
structure Fi where
 n:Nat
 code:Ag
 res:List LS
 an:An
 hi:Hi
 sp:Option Sp
def xe (N:TK) (Q:Be->TK):Be->TK
 | .normal=>N
 | e=>Q e
def vK (Q:Be->TK):Be->TK:=fun e F G TS=>match G with | _::G=>Q e F G TS | []=>False
def yD (id:Nat) (Q:Be->TK):Be->TK
 | .exit id'=>match Nat.beq id' id with | true=>Q .normal | false=>Q (.exit id')
 | e=>Q e
section
variable (Γ : List (Nat × Ct)) (call : Nat -> List TV -> List RF -> List CI -> (TV -> List RF -> List CI -> Prop) -> Prop)
def pE (d:Option Nat):List C9->TV
 | []=>.ff
 | o::rest=>(match d,o.op with
  | some d',.bin _ _ (.t e) (.c (.int k _))=>(match Nat.beq d' e with | true=>.int k 0 | false=>pE d rest)
  | _,_=>pE d rest)
noncomputable def Me (hi:Hi) (K:TK):Nat->List C9->TK
 | _,[],F,G,TS=>K F G TS
 | m,o::rest,F,G,TS=>
  match o.guard with
  | some (g,w)=>(match BL F g with
   | some (gs,q,.gd p)=>(match uQ Γ (match o.dst with | some d=>BL hi.ty d | none=>none) F ((g,w)::gs) TS o.op with
    | some (ps,y)=>(match u7 o.H5 y with
     | some y=>PJ (Oh (Jd gs q p w) ps) (Me hi K (m-1) rest (K8 F o.dst ((g,w)::gs) (Jd gs q p w) y) G TS)
     | none=>False)
    | none=>(match m,o.H5,o.op with
     | 0,false,.call f args=>(match Wm F ((g,w)::gs) args with
      | some xs=>(Jd gs q p w->call f xs (F::G) TS fun y G' TS'=>(match G' with | F'::G'=>Me hi K 0 rest (K8 F' o.dst ((g,w)::gs) (Jd gs q p w) y) G' TS' | []=>False))/\
       (¬Jd gs q p w->Me hi K 0 rest (K8 F o.dst ((g,w)::gs) (Jd gs q p w) (pE o.dst rest)) G TS)
      | none=>False)
     | 0,false,.GZ x args=>(match O_ F ((g,w)::gs) x,Wm F ((g,w)::gs) args with
      | some (.fn f cap),some xs=>(Jd gs q p w->call f (xs++cap) (F::G) TS fun y G' TS'=>(match G' with | F'::G'=>Me hi K 0 rest (K8 F' o.dst ((g,w)::gs) (Jd gs q p w) y) G' TS' | []=>False))/\
       (¬Jd gs q p w->Me hi K 0 rest (K8 F o.dst ((g,w)::gs) (Jd gs q p w) (pE o.dst rest)) G TS)
      | _,_=>False)
     | _,_,_=>False))
   | _=>False)
  | none=>(match uQ Γ (match o.dst with | some d=>BL hi.ty d | none=>none) F [] TS o.op with
   | some (ps,y)=>(match u7 o.H5 y with
    | some y=>PJ ps (Me hi K (m-1) rest (K8 F o.dst [] True y) G TS)
    | none=>False)
   | none=>(match m,o.H5 with
    | 0,false=>(match xP Γ (match o.dst with | some d=>BL hi.ty d | none=>none) F G TS o.op with
     | some (ps,y,F',G',TS')=>PJ ps (Me hi K 0 rest (K8 F' o.dst [] True y) G' TS')
     | none=>(match o.op with
      | .call f args=>(match Wm F [] args with
       | some xs=>call f xs (F::G) TS fun y G' TS'=>(match G' with | F'::G'=>Me hi K 0 rest (K8 F' o.dst [] True y) G' TS' | []=>False)
       | none=>False)
      | .GZ x args=>(match O_ F [] x,Wm F [] args with
       | some (.fn f cap),some xs=>call f (xs++cap) (F::G) TS fun y G' TS'=>(match G' with | F'::G'=>Me hi K 0 rest (K8 F' o.dst [] True y) G' TS' | []=>False)
       | _,_=>False)
      | .HB neg x=>(match O_ F [] x with
       | some .AL=>Me hi K 0 rest (K8 F o.dst [] True (match neg with | true=>.ff | false=>.tt)) G TS
       | some x=>(match qD TS x with
        | some n=> ∀HB:Nm "isnil" Prop,(HB->n=0)->Me hi K 0 rest (K8 F o.dst [] True (match neg with | true=>.pr (¬HB) | false=>.pr HB)) G TS
        | none=>False)
       | none=>False)
      | _=>False))
    | _,_=>False))
noncomputable def T6 (hi:Hi) (TS:List CI):List C9->RF->Option (List Prop×RF)
 | [],F=>some ([],F)
 | o::rest,F=>
  match o.guard with
  | some (g,w)=>(match BL F g with
   | some (gs,q,.gd p)=>(match uQ Γ (match o.dst with | some d=>BL hi.ty d | none=>none) F ((g,w)::gs) TS o.op with
    | some (ps,y)=>(match u7 o.H5 y with
     | some y=>(match T6 hi TS rest (K8 F o.dst ((g,w)::gs) (Jd gs q p w) y) with
      | some (qs,F')=>some (Oh (Jd gs q p w) ps++qs,F')
      | none=>none)
     | none=>none)
    | none=>none)
   | _=>none)
  | none=>(match uQ Γ (match o.dst with | some d=>BL hi.ty d | none=>none) F [] TS o.op with
   | some (ps,y)=>(match u7 o.H5 y with
    | some y=>(match T6 hi TS rest (K8 F o.dst [] True y) with
     | some (qs,F')=>some (ps++qs,F')
     | none=>none)
    | none=>none)
   | none=>none)
noncomputable def nv (hi:Hi) (K:List C9->TK):Nat->List C9->TK
 | 0,rest,F,G,TS=>K rest F G TS
 | _+1,[],_,_,_=>False
 | q+1,o::rest,F,G,TS=>(match o.guard,o.H5,o.op with
  | none,false,.NS d k b z len cap=>(match Nat.beq d (q+1),Qf F len cap (sX (match o.dst with | some d=>BL hi.ty d | none=>none) F G TS k b z) with
   | true,some (ps,y,F',G',TS')=>PJ ps (nv hi K q rest (K8 F' o.dst [] True y) G' TS')
   | _,_=>False)
  | none,false,.NN d k z=>(match Nat.beq d (q+1),qS z with
   | true,some cs=>nv hi K q rest (K8 F o.dst [] True (.ptr (PL TS) 0)) G (NU TS (.cells k cs))
   | _,_=>False)
  | _,_,_=>(match T6 Γ hi TS [o] F with
   | some (ps,F')=>PJ ps (nv hi K (q+1) rest F' G TS)
   | none=>False))
def dQ:Option (Nat×Nat×List Nat)->Nat | none=>0 | some d=>d.2.1
noncomputable def OB (c:Prop) (Fb:RF):RF->RF
 | []=>[]
 | (s,_,_,x)::F=>(match BL Fb s with
  | some ([],_,y)=>(match Pq c x y with | some z=>(s,[],True,z)::OB c Fb F | none=>OB c Fb F)
  | _=>OB c Fb F)
noncomputable def YT (hi:Hi) (TS:List CI):Ag->RF->Option (List Prop×RF)
 | .skip,F=>some ([],F)
 | .ops l d AW,F=>(match dQ d with | _+1=>none | 0=>match T6 Γ hi TS l F with | some (ps,F')=>some (ps,GQ F' AW) | none=>none)
 | .seq a b,F=>(match YT hi TS a F with
  | some (ps,F1)=>(match YT hi TS b F1 with | some (qs,F2)=>some (ps++qs,F2) | none=>none)
  | none=>none)
 | .join AW W _ a b,F=>(match YT hi TS a F with
  | some (ps,F1)=>(match YT hi TS b (VF W (LD F1 W) (GQ F AW)) with | some (qs,F2)=>some (ps++qs,F2) | none=>none)
  | none=>none)
 | .cond x a b,F=>(match O_ F [] x with
  | some .tt=>YT hi TS a F
  | some .ff=>YT hi TS b F
  | some y=>(match oY y,YT hi TS a (jS F x .tt),YT hi TS b (jS F x .ff) with
   | some p,some (ps,Fa),some (qs,Fb)=>some (Oh p ps++Oh (¬p) qs,OB p Fb (GQ Fa (Fa.map (·.1))))
   | _,_,_=>none)
  | none=>none)
 | .block _ a,F=>YT hi TS a F
 | _,_=>none
inductive Sh where
 | val (t:Ty)
 | sub (l:Nat)
 | gz (x:TV)
inductive oW where
 | AW (o:CI)
 | row (nm:String) (t:Ty)
 | Eg (nm:String) (t:Ty)
 | cells (nm:String) (k:Nat) (shs:List Sh)
def yF:TV->Option Ty
 | .int k _=>some (.int k)
 | .byte _=>some (.int .u8)
 | .str _=>some .str
 | .pr _ | .bb _ | .tt | .ff=>some .bool
 | .Ez t _=>some (.sl t)
 | _=>none
def yE:List TV->Option Ky
 | []=>some .nil
 | x::xs=>(match yF x,yE xs with | some t,some ts=>some (.cons t ts) | _,_=>none)
def pW:List Nat->Nat->Bool
 | [],_=>false
 | a::l,n=>(match Nat.beq a n with | true=>true | false=>pW l n)
def xw (KL:List Nat) (x:TV):Sh:=
 match x with
 | .agg cs=>(match yE cs with | some ts=>.val (.st ts) | none=>.gz (.agg cs))
 | .sl l _ _=>.sub l
 | .IU l=>(match pW KL l with | true=>.sub l | false=>.gz (.IU l))
 | x=>(match yF x with | some t=>.val t | none=>.gz x)
def X0 (KL:List Nat):List TV->List Sh
 | []=>[]
 | x::xs=>xw KL x::X0 KL xs
def R4 (ms:List (Nat×String)) (KL:List Nat):Nat->List CI->List oW
 | _,[]=>[]
 | n,o::S=>(match BL ms n with
  | some nm=>(match o with
   | .dead=>.AW .dead
   | .row t _=>.row nm t
   | .Eg t _=>.Eg nm t
   | .cells k cs=>.cells nm k (X0 KL cs))
  | none=>.AW o)::R4 ms KL (n+1) S
def V7 (TS:List CI) (nm:String):Nat->List TV->List (Nat×String)
 | 0,_=>[]
 | _+1,[]=>[]
 | n+1,x::xs=>(match x with
  | .IU l=>(l,nm)::V7 TS nm n xs
  | .sl l _ _=>(l,nm)::V7 TS nm n xs
  | .I0 l _ _=>(l,nm)::V7 TS nm n xs
  | .Xc l _=>(l,nm)::V7 TS nm n xs
  | .F7 l _ _ _ _=>(l,nm)::V7 TS nm n xs
  | .ptr l _=>(match B5 TS l with
   | some (.cells _ cs)=>(l,nm)::V7 TS nm n (app2 cs xs)
   | _=>(l,nm)::V7 TS nm n xs)
  | .fn _ cs=>V7 TS nm n (app2 cs xs)
  | .agg cs=>V7 TS nm n (app2 cs xs)
  | _=>V7 TS nm n xs)
where app2:List TV->List TV->List TV
 | [],ys=>ys
 | x::xs,ys=>x::app2 xs ys
def mO (nms:List (Nat×String)) (F:RF) (TS:List CI):List Nat->List (Nat×String)
 | []=>[]
 | s::ss=>app2 (V7 TS (match BL nms s with | some n=>n | none=> "o") 40 [Po F s]) (mO nms F TS ss)
where app2:List (Nat×String)->List (Nat×String)->List (Nat×String)
 | [],ys=>ys
 | x::xs,ys=>x::app2 xs ys
def si:List (Nat×String)->List Nat
 | []=>[]
 | (a,_)::l=>a::si l
def wq (F:RF) (TS:List CI):List Nat->List (Nat×Nat)
 | []=>[]
 | s::ss=>(match Po F s with
  | .IU l=>(s,l)::wq F TS ss
  | .ptr l 0=>(match B5 TS l with
   | some (.cells _ (.IU m::_))=>(s,l)::(Nat.add 1000000 s,m)::wq F TS ss
   | _=>(s,l)::wq F TS ss)
  | _=>wq F TS ss)
def yB (hi:Hi):List Nat->List String
 | []=>[]
 | t::W=>(match BL hi.nm t with | some n=>n | none=> "x")::yB hi W
def xQ:List String->String | []=> "x" | s::_=>s
def x5:List String->List String | []=>[] | _::r=>r
abbrev PT:List Sh->Type->Type
 | [],R=>R
 | .val t::r,R=>T t->PT r R
 | .sub _::r,R=>Int->Int->PT r R
 | .gz _::r,R=>PT r R
abbrev PO:List oW->Type->Type
 | [],R=>R
 | .AW _::r,R=>PO r R
 | .row _ t::r,R=>List (T t)->PO r R
 | .Eg _ t::r,R=>List (List (T t))->PO r R
 | .cells _ _ shs::r,R=>PT shs (PO r R)
def qV {A B:Type}:(ns:List String)->(ws:List Sh)->PT ws A->PT ws B->(A->B->List TV->Prop)->Prop
 | _,[],p,m,f=>f p m []
 | ns,.val t::r,p,m,f=> ∀x:Nm (xQ ns) (T t),qV (x5 ns) r (p x) (m x) fun p m xs=>f p m (bY t x::xs)
 | ns,.sub l::r,p,m,f=> ∀(off:Nm (xQ ns) Int) (len:Nm (xQ ns) Int),qV (x5 ns) r (p off len) (m off len) fun p m xs=>f p m (.sl l off len::xs)
 | ns,.gz x::r,p,m,f=>qV (x5 ns) r p m fun p m xs=>f p m (x::xs)
def wj:Nat->String->List String
 | 0,_=>[]
 | n+1,s=>s::wj n s
def qO {A B:Type}:(os:List oW)->PO os A->PO os B->(A->B->List CI->Prop)->Prop
 | [],p,m,f=>f p m []
 | .AW o::r,p,m,f=>qO r p m fun p m S=>f p m (o::S)
 | .row nm t::r,p,m,f=> ∀l:Nm nm (List (T t)),qO r (p l) (m l) fun p m S=>f p m (.row t l::S)
 | .Eg nm t::r,p,m,f=> ∀l:Nm nm (List (List (T t))),qO r (p l) (m l) fun p m S=>f p m (.Eg t l::S)
 | .cells nm k shs::r,p,m,f=>qV (wj shs.length nm) shs p m fun p m cs=>qO r p m fun p m S=>f p m (.cells k cs::S)
noncomputable def Vj:(t:Ty)->TV->Option (T t)
 | .int k,x=>cP k x
 | .str,x=>cQ x
 | .bool,x=>v_ x
 | .st fs,x=>cT fs x
 | .sl e,x=>(match x with | .Ez e' l=>(match PR e' e with | some ⟨h⟩=>some (h▸l:List (T e)) | none=>none) | _=>none)
mutual
def xA:TV->TV->Option (List Prop)
 | .int k a,.int k' b=>(match iZ k k' with | some _=>some [a=b] | none=>none)
 | .byte a,.byte b=>some [a=b]
 | .str a,.str b=>some [a=b]
 | .bb a,.bb b=>some [a=b]
 | .Ez t l,.Ez t' l'=>(match PR t t' with | some ⟨h⟩=>some [(h▸l:List (T t'))=l'] | none=>none)
 | .sl l a b,.sl l' a' b'=>(match Nat.beq l l' with | true=>some [a=a',b=b'] | false=>none)
 | .fn f xs,.fn g ys=>(match Nat.beq f g with | true=>Z_ xs ys | false=>none)
 | .GX xs,.GX ys=>Z_ xs ys
 | .agg xs,.agg ys=>Z_ xs ys
 | x,y=>(match UX x y with | true=>some [] | false=>none)
def Z_:List TV->List TV->Option (List Prop)
 | [],[]=>some []
 | x::xs,y::ys=>(match xA x y,Z_ xs ys with | some p,some q=>some (p++q) | _,_=>none)
 | _,_=>none
end
noncomputable def aV {A B:Type} (TS:List CI):(ws:List Sh)->PT ws A->PT ws B->List TV->(A->B->Prop)->Prop
 | [],p,m,[],f=>f p m
 | .val t::r,p,m,x::xs,f=>(match Vj t x with | some a=>aV TS r (p a) (m a) xs f | none=>False)
 | .sub l::r,p,m,.sl l' off len::xs,f=>(match Nat.beq l l' with | true=>aV TS r (p off len) (m off len) xs f | false=>False)
 | .sub l::r,p,m,.IU l'::xs,f=>(match Nat.beq l l',B5 TS l with | true,some (.row _ ls)=>aV TS r (p 0 (ls.length:Int)) (m 0 (ls.length:Int)) xs f | _,_=>False)
 | .gz x0::r,p,m,x::xs,f=>(match UX x0 x with | true=>aV TS r p m xs f | false=>(match xA x0 x with | some ps=>PJ ps (aV TS r p m xs f) | none=>False))
 | _,_,_,_,_=>False
def xO:CI->CI->Option (List Prop)
 | .dead,.dead=>some []
 | .row t l,.row t' l'=>(match PR t t' with | some ⟨h⟩=>some [(h▸l:List (T t'))=l'] | none=>none)
 | .Eg t l,.Eg t' l'=>(match PR t t' with | some ⟨h⟩=>some [(h▸l:List (List (T t')))=l'] | none=>none)
 | .cells k cs,.cells k' cs'=>(match Nat.beq k k' with | true=>Z_ cs cs' | false=>none)
 | _,_=>none
noncomputable def aO {A B:Type} (TS:List CI):(os:List oW)->PO os A->PO os B->List CI->(A->B->Prop)->Prop
 | [],p,m,_,f=>f p m
 | .AW o::r,p,m,o'::S,f=>(match xO o o' with | some ps=>PJ ps (aO TS r p m S f) | none=>False)
 | .row _ t::r,p,m,.row t' l::S,f=>(match PR t' t with | some ⟨h⟩=>aO TS r (p (h▸l)) (m (h▸l)) S f | none=>False)
 | .Eg _ t::r,p,m,.Eg t' l::S,f=>(match PR t' t with | some ⟨h⟩=>aO TS r (p (h▸l)) (m (h▸l)) S f | none=>False)
 | .cells _ k shs::r,p,m,.cells k' cs::S,f=>(match Nat.beq k k' with | true=>aV TS shs p m cs fun p m=>aO TS r p m S f | false=>False)
 | _,_,_,_,_=>False
def ZM (a b l:Nat):Nat:=match Nat.beq l a with | true=>b | false=>(match Nat.beq l b with | true=>a | false=>l)
mutual
def fx (a b:Nat):TV->TV
 | .IU l=>.IU (ZM a b l)
 | .sl l o n=>.sl (ZM a b l) o n
 | .ptr l o=>.ptr (ZM a b l) o
 | .I0 l i o=>.I0 (ZM a b l) i o
 | .Xc l i=>.Xc (ZM a b l) i
 | .ifs t l=>.ifs t (ZM a b l)
 | .F7 l i j k o=>.F7 (ZM a b l) i j k o
 | .agg cs=>.agg (rG a b cs)
 | .DH cs=>.DH (rG a b cs)
 | .GX cs=>.GX (rG a b cs)
 | .fn f cs=>.fn f (rG a b cs)
 | x=>x
def rG (a b:Nat):List TV->List TV
 | []=>[]
 | x::xs=>fx a b x::rG a b xs
end
def vd (a b:Nat):RF->RF
 | []=>[]
 | (s,gs,p,x)::F=>(s,gs,p,fx a b x)::vd a b F
def xy (a b:Nat):List RF->List RF
 | []=>[]
 | F::G=>vd a b F::xy a b G
def fV (a b:Nat):CI->CI
 | .cells k cs=>.cells k (rG a b cs)
 | o=>o
def wo (a b:Nat):List CI->List CI
 | []=>[]
 | o::S=>fV a b o::wo a b S
def xD (a b:Nat) (S:List CI):List CI:=
 match B5 S a,B5 S b with
 | some x,some y=>GU (GU (wo a b S) a (fV a b y)) b (fV a b x)
 | _,_=>wo a b S
def fL (F:RF) (TS:List CI) (p:Nat×Nat):Nat:=
 match Nat.ble 1000000 p.1 with
 | true=>(match Po F (Nat.sub p.1 1000000) with
  | .ptr l 0=>(match B5 TS l with | some (.cells _ (.IU m::_))=>m | _=>p.2)
  | _=>p.2)
 | false=>(match Po F p.1 with | .IU l=>l | .ptr l 0=>l | _=>p.2)
def Ua:List (Nat×Nat)->TK->TK
 | [],K,F,G,TS=>K F G TS
 | p::ps,K,F,G,TS=>(match Nat.beq (fL F TS p) p.2 with
  | true=>Ua ps K F G TS
  | false=>(match B5 TS (fL F TS p),B5 TS p.2 with
   | some _,some _=>Ua ps K (vd (fL F TS p) p.2 F) (xy (fL F TS p) p.2 G) (xD (fL F TS p) p.2 TS)
   | _,_=>False))
mutual
def kM:Ty->List Ty
 | .st fs=>pR fs
 | t=>[t]
def pR:Ky->List Ty
 | .nil=>[]
 | .cons t ts=>kM t++pR ts
end
def MM:Nat->List Ty->List TV->List TV×List CI
 | n,t::ts,c::cs=>(match t,c with
  | .sl e,.AL=>(.IU n::(MM (n+1) ts cs).1,.row e []::(MM (n+1) ts cs).2)
  | _,c=>(c::(MM n ts cs).1,(MM n ts cs).2))
 | _,_,cs=>(cs,[])
def Wk (ty:List (Nat×Ty)) (F:RF):List Nat->List CI->List CI
 | [],TS=>TS
 | s::ss,TS=>(match Po F s,BL ty s with
  | .ptr l 0,some t=>(match B5 TS l with
   | some (.cells k cs)=>Wk ty F ss (GU (ed TS (MM (PL TS) (kM t) cs).2) l (.cells k (MM (PL TS) (kM t) cs).1))
   | _=>Wk ty F ss TS)
  | _,_=>Wk ty F ss TS)
noncomputable def rJ (ty:List (Nat×Ty)) (Xk:List Nat) (L:List CI->Prop) (F:RF) (TS:List CI):Prop:=L (Wk ty F Xk TS)
noncomputable def uc (body:(Be->TK)->TK) (hi:Hi) (an:An) (AW W:List Nat) (Q:Be->TK) (F:RF) (G:List RF) (TS:List CI) (ws:List Sh) (os:List oW):Prop:=
 ∃(I:PT ws (PO os Prop)) (m:PT ws (PO os Nat)),
  (aV TS ws I m (LD F W) fun I m=>aO TS os I m TS fun I _=>I)/\
  (qV (yB hi W) ws I m fun I1 m1 xs=>qO os I1 m1 fun I2 m2 TS1=>I2->
   body (xe (Ua (wq F TS an.Ua) fun F' G' TS'=>(match G' with
    | F0::G'=>(match Ry (GQ F AW) F0,ZD G G' with
     | true,true=>aV TS' ws I m (LD F' W) fun I' m'=>aO TS' os I' m' TS' fun I' m'=>I'/\m'<m2
     | _,_=>False)
    | []=>False)) (vK Q)) (VF W xs (GQ F AW)) (GQ F AW::G) TS1)
noncomputable def bZ (hi:Hi):Ag->An->(Be->TK)->TK
 | .skip,_,Q,F,G,TS=>Q .normal F G TS
 | .ops l d AW,_,Q,F,G,TS=>(match dQ d with
  | 0=>Me Γ call hi (fun F' G' TS'=>Q .normal (GQ F' AW) G' TS') (match d with | some m=>m.1 | none=>0) l F G TS
  | r+1=>(match d with
   | some m=>(match Nat.beq (l.take m.1).length m.1,T6 Γ hi TS (l.take m.1) F with
    | true,some (ps,F')=>PJ ps (nv Γ hi (Me Γ call hi (fun F' G' TS'=>Q .normal (GQ F' AW) G' TS') 0) (r+1) (l.drop m.1) F' G TS)
    | _,_=>False)
   | none=>False))
 | .seq a b,an,Q,F,G,TS=>bZ hi a an.l (xe (fun F' G' TS'=>bZ hi b an.r Q F' G' TS') Q) F G TS
 | .join AW W _ a b,an,Q,F,G,TS=>(match YT Γ hi TS a F with
  | some (ps,F')=>PJ ps (bZ hi b an.r Q (VF W (LD F' W) (GQ F AW)) G TS)
  | none=>bZ hi a an.l (xe (fun F' G' TS'=>(match G' with | F0::G'=>bZ hi b an.r Q (VF W (LD F' W) (GQ F0 AW)) G' TS' | []=>False)) (vK Q)) F (GQ F AW::G) TS)
 | .cond x a b,an,Q,F,G,TS=>(match O_ F [] x with
  | some .tt=>bZ hi a an.l Q F G TS
  | some .ff=>bZ hi b an.r Q F G TS
  | some y=>(match oY y with
   | some p=>(p->bZ hi a an.l Q (jS F x .tt) G TS)/\(¬p->bZ hi b an.r Q (jS F x .ff) G TS)
   | none=>False)
  | none=>False)
 | .block id a,an,Q,F,G,TS=>bZ hi a an (yD id Q) F G TS
 | .loop AW W _ a,an,Q,F,G,TS=>
  rJ hi.ty an.Xk (fun TS=>uc (fun Q F G TS=>bZ hi a an.body Q F G TS) hi an AW W Q F G TS (X0 (si (mO hi.nm F TS an.KL)) (LD F W)) (R4 (mO hi.nm F TS an.Xk) (si (mO hi.nm F TS an.KL)) 0 TS)) F TS
 | .exit id,_,Q,F,G,TS=>Q (.exit id) F G TS
 | .ret,_,Q,F,G,TS=>Q .ret F G TS
def e_ (F:RF) (TS:List CI):List LS->Option (List TV)
 | []=>some []
 | .tmp t::rs=>(match e_ F TS rs with | some xs=>some (Po F t::xs) | none=>none)
 | .cell t n ag::rs=>(match Po F t with
  | .ptr l off=>(match B5 TS l with
   | some (.cells _ cs)=>(match I6 n (cs.drop off) with
    | some xs=>(match nB ag xs,e_ F TS rs with | some y,some ys=>some (y::ys) | _,_=>none)
    | none=>none)
   | _=>none)
  | _=>none)
def gL:Nat->List TV->RF
 | _,[]=>[]
 | i,x::xs=>(i,[],True,x)::gL (i+1) xs
noncomputable def rI (hi:Hi) (c:Ag) (an:An) (res:List LS) (args:List TV) (G:List RF) (TS:List CI) (K:List TV->List RF->List CI->Prop):Prop:=
 bZ Γ call hi c an (fun e F G TS=>match e with
  | .exit _=>False
  | _=>(match e_ F TS res with | some xs=>K xs G TS | none=>False)) (gL 0 args) G TS
noncomputable def xz (hi:Hi) (c:Ag) (an:An) (res:List LS) (args:List TV) (G:List RF) (TS:List CI) (K:TV->List RF->List CI->Prop):Prop:=
 rI Γ call hi c an res args G TS fun xs=>K (bH xs)
end
noncomputable def j2 (Γ:List (Nat×Ct)) (L:List (Nat×Fi)):Nat->Nat->List TV->List RF->List CI->(TV->List RF->List CI->Prop)->Prop
 | 0,_,_,_,_,_=>False
 | n+1,f,xs,G,TS,K=>(match BL L f with
  | some fi=>(match fi.sp with
   | some s=>(match s.ev xs G TS with | some (ps,y,G',TS')=>PJ ps (K y G' TS') | none=>False)
   | none=>(match Nat.ble xs.length fi.n with
    | true=>xz Γ (j2 Γ L n) fi.hi fi.code fi.an fi.res xs G TS K
    | false=>False))
  | none=>False)
def wL (TS:List CI) (t:Ty):TV->Option (List (T t))
 | .AL=>some []
 | .IU l=>(match B5 TS l with
  | some (.row e ls)=>(match PR e t with | some ⟨h⟩=>some (h▸ls) | none=>none)
  | _=>none)
 | _=>none
def wm (TS:List CI) (t:Ty):TV->Option (List Prop×List (T t))
 | .sl l off len=>(match B5 TS l with
  | some (.row e ls)=>(match PR e t with | some ⟨h⟩=>some ([off=0],(h▸ls:List (T t)).take len.toNat) | none=>none)
  | _=>none)
 | x=>(match wL TS t x with | some a=>some ([],a) | none=>none)
noncomputable def nZ (TS:List CI):(r:Nc)->TV->Option (List Prop×RT r)
 | .val t,x=>(match P_ [] t x with | some a=>some ([],a) | none=>none)
 | .own t,x=>wm TS t x
noncomputable def OM (TS:List CI):(rs:List Nc)->List TV->(Qn rs->Prop)->Prop
 | [],xs,K=>(match xs with | []=>K () | _::_=>False)
 | [r],xs,K=>(match xs with
  | [x]=>(match nZ TS r x with | some (ps,a)=>PJ ps (K a) | none=>False)
  | _=>False)
 | r::s::rs,xs,K=>(match xs with
  | x::xs=>(match nZ TS r x with | some (ps,a)=>PJ ps (OM TS (s::rs) xs fun r=>K (a,r)) | none=>False)
  | []=>False)
def OE:List Nc->List TV->List Nat
 | .own _::rs,.IU l::xs=>l::OE rs xs
 | .own _::rs,.sl l _ _::xs=>l::OE rs xs
 | _::rs,_::xs=>OE rs xs
 | _,_=>[]
def distinct:List Nat->Bool
 | []=>true
 | a::l=>match pW l a with | true=>false | false=>distinct l
def n0:(ts:Ky)->Ts ts->List TV
 | .nil,_=>[]
 | .cons t .nil,x=>[bY t x]
 | .cons t (.cons u ts),x=>bY t x.1::n0 (.cons u ts) x.2
def wN:(rs:List Nc)->Qn rs->Qn rs->Prop
 | [],_,_=>True
 | [_],x,y=>x=y
 | _::s::rs,x,y=>x.1=y.1/\wN (s::rs) x.2 y.2
noncomputable def wv (Γ:List (Nat×Ct)) (L:List (Nat×Fi)) (depth:Nat) (fi:Fi) (ct:Ct) (x:Ts ct.args):Prop:=
 rI Γ (j2 Γ L depth) fi.hi fi.code fi.an fi.res (n0 ct.args x) [] [] fun xs _ TS=>
  match distinct (OE ct.res xs) with
  | true=>OM TS ct.res xs fun y=>wN ct.res y (ct.fn x)
  | false=>False
structure Cu where
 rt:Ty
 args:Ky
 res:List Nc
 pre:T rt->Ts args->Prop
 fn:T rt->Ts args->T rt×Qn res
structure Cm where
 args:Ky
 ref:List Bool
 res:List Nc
 pre:Ts args->Prop
 fn:Ts args->Qn res×Ts args
def nx (r:Bool) (k:Nat):Nat:=match r with | true=>k+1 | false=>k
end Go.Vc
end
section
namespace Go.Vc
structure Hd where
 loc:Option (Nat×Nat)
 k:Nat
 len:Nat
 sub:List (Option (Nat×Nat)×Nat)
abbrev HF:=Nat->Option Hd
def K9:Option (Nat×Nat)->Nat->Nat->AA
 | none,_,_=>.AL
 | some (p,v),off,n=>.sl p v off n
mutual
def AE (H:HF):TV->AA->Prop
 | .C3,_=>True
 | .tt,y=>y= .bool true
 | .ff,y=>y= .bool false
 | .bb b,y=>y= .bool b
 | .pr p,y=> ∃b,y= .bool b/\(b=true↔p)
 | .gd p,y=>(y= .tt/\p)\/(y= .ff/\ ¬p)
 | .int k n,y=>y= .int k n
 | .byte b,y=>y= .int .u8 (b.toNat:Int)
 | .str s,y=>y= .str s
 | .B4,y=>y= .B4
 | .I3,y=>y= .I3
 | .I4,y=>y= .I4
 | .M8,y=>y= .M8
 | .AL,y=>y= .AL
 | .bq v,y=>y= .bq v
 | .ptr l off,y=> ∃h p v,H l=some h/\h.loc=some (p,v)/\y= .ptr p v off
 | .I0 l i fo,y=> ∃h p v,H l=some h/\h.loc=some (p,v)/\0<=i/\i<h.len/\y= .ptr p v (i.toNat*h.k+fo)
 | .GX cs,y=> ∃xs,y= .GX xs/\AN H cs xs
 | .Ez t l,y=>y= .Ez l.length (l.flatMap (BP t))
 | .IU l,y=> ∃h,H l=some h/\y=K9 h.loc 0 h.len
 | .ifs t l,y=> ∃h,H l=some h/\y= .iface t (K9 h.loc 0 h.len)
 | .sl l off len,y=> ∃h,H l=some h/\0<=off/\0<=len/\off+len<=h.len/\y=K9 h.loc (off.toNat*h.k) len.toNat
 | .agg cs,y=> ∃xs,y= .agg xs/\AN H cs xs
 | .DH cs,y=> ∃xs,y= .DH xs/\AN H cs xs
 | .fn f cap,y=> ∃xs,y= .fn (.func f) [] xs/\AN H cap xs
 | .Xc l i,y=> ∃h q,H l=some h/\0<=i/\h.sub[i.toNat]?=some q/\y=K9 q.1 0 q.2
 | .F7 l i j k fo,y=> ∃h p v n,H l=some h/\0<=i/\h.sub[i.toNat]?=some (some (p,v),n)/\0<=j/\j<(n:Int)/\y= .ptr p v (j.toNat*k+fo)
def AN (H:HF):List TV->List AA->Prop
 | [],ys=>ys=[]
 | x::xs,ys=> ∃y zs,ys=y::zs/\AE H x y/\AN H xs zs
end
section
variable {H : HF}
theorem AN.nil {ys:List AA}:AN H [] ys↔ys=[]:=by simp only [AN]
theorem AN.length: ∀ {xs:List TV} {ys:List AA},AN H xs ys->ys.length=xs.length
 | [],_,h=>by simp only [AN] at h;simp [h]
 | x::xs,_,h=>by
  simp only [AN] at h;obtain ⟨y,zs,rfl,_,h⟩:=h;simp [AN.length h]
theorem AN.append: ∀ {xs:List TV} {ys:List AA} {xs':List TV} {ys':List AA},AN H xs ys->AN H xs' ys'->AN H (xs++xs') (ys++ys')
 | [],_,_,_,h,h'=>by simp only [AN] at h;subst h;simpa using h'
 | x::xs,_,_,_,h,h'=>by
  simp only [AN] at h;obtain ⟨y,zs,rfl,h1,h2⟩:=h;simp only [List.cons_append,AN];exact ⟨_,_,rfl,h1,h2.append h'⟩
theorem AN.drop: ∀ {xs:List TV} {ys:List AA} (n:Nat),AN H xs ys->AN H (xs.drop n) (ys.drop n)
 | xs,ys,0,h=>by simpa using h
 | [],_,n+1,h=>by simp only [AN] at h;subst h;simp [AN]
 | x::xs,_,n+1,h=>by
  simp only [AN] at h;obtain ⟨y,zs,rfl,_,h⟩:=h;simpa using h.drop n
theorem AN.I6: ∀ {n:Nat} {xs xs':List TV} {ys:List AA},AN H xs ys->I6 n xs=some xs'-> ∃ys',takeN n ys=some ys'/\AN H xs' ys'
 | 0,_,_,_,_,h=>by simp [Vc.I6] at h;subst h;exact ⟨[],rfl,by simp [AN]⟩
 | n+1,[],_,_,_,h=>by simp [Vc.I6] at h
 | n+1,x::xs,_,_,hs,h=>by
  simp only [AN] at hs;obtain ⟨y,zs,rfl,h1,h2⟩:=hs;simp only [Vc.I6] at h;split at h<;>cases h;rename_i r hr;obtain ⟨ys',g1,g2⟩:=h2.I6 hr;exact ⟨y::ys',by simp [takeN,g1],by simp only [AN];exact ⟨_,_,rfl,h1,g2⟩⟩
theorem AN.NT: ∀ {xs zs:List TV} {ys ws:List AA},AN H xs ys->AN H zs ws->AN H (NT xs zs) (over ys ws)
 | [],zs,_,_,h,_=>by simp only [AN] at h;subst h;cases zs<;>simp [Vc.NT,over,AN]
 | x::xs,[],_,_,h,h'=>by
  simp only [AN] at h';subst h';have h0:=h;simp only [AN] at h;obtain ⟨y,zs,rfl,_,_⟩:=h;simpa [Vc.NT,over] using h0
 | x::xs,z::zs,_,_,h,h'=>by
  simp only [AN] at h h';obtain ⟨y,ys,rfl,h1,h2⟩:=h;obtain ⟨w,ws,rfl,g1,g2⟩:=h';simp only [Vc.NT,over,AN];exact ⟨_,_,rfl,g1,h2.NT g2⟩
theorem AN.Kk: ∀ {n:Nat} {xs zs:List TV} {ys ws:List AA},AN H xs ys->AN H zs ws->AN H (Kk xs n zs) (setCells ys n ws)
 | 0,xs,zs,ys,ws,h,h'=>by
  have e1:Vc.Kk xs 0 zs=Vc.NT xs zs:=by cases xs<;>rfl
  have e2:setCells ys 0 ws=over ys ws:=by cases ys<;>rfl
  rw [e1,e2];exact h.NT h'
 | n+1,[],zs,_,ws,h,_=>by simp only [AN] at h;subst h;simp [Vc.Kk,setCells,AN]
 | n+1,x::xs,zs,_,ws,h,h'=>by
  simp only [AN] at h;obtain ⟨y,ys,rfl,h1,h2⟩:=h;simp only [Vc.Kk,setCells,AN];exact ⟨_,_,rfl,h1,h2.Kk h'⟩
theorem Km {α:Type}: ∀ {l:List α} {n:Nat},NI l n=true->l.length=n
 | [],0,_=>rfl
 | [],n+1,h=>by simp [NI] at h
 | _::_,0,h=>by simp [NI] at h
 | _::l,n+1,h=>by simp only [NI] at h;simp [Km h]
theorem Kn: ∀ {n:Nat} {l:List TV},sizeLe n l=true->n<=l.length
 | 0,_,_=>Nat.zero_le _
 | n+1,[],h=>by simp [sizeLe] at h
 | n+1,_::l,h=>by simp only [sizeLe] at h;have:=Kn h;simp;omega
theorem OU {α:Type}: ∀ {xs ys:List α} {n:Nat},(Vc.Kk xs n ys).length=xs.length
 | xs,ys,0=>by
  have e1:Vc.Kk xs 0 ys=Vc.NT xs ys:=by cases xs<;>rfl
  rw [e1];clear e1
  induction xs generalizing ys with
  | nil=>cases ys<;>rfl
  | cons x xs ih=>cases ys with
   | nil=>rfl
   | cons y ys=>simp only [Vc.NT,List.length_cons,ih]
 | [],ys,n+1=>by simp [Vc.Kk]
 | x::xs,ys,n+1=>by simp [Vc.Kk,OU]
theorem beq_eq {a b:Nat} (h:Nat.beq a b=true):a=b:=Nat.eq_of_beq_eq_true h
theorem IL {x:TV} {cs:List TV} {y:AA} (h:PG x=some cs) (hs:AE H x y) {K:List AA->Prop} (hk: ∀ys,AN H cs ys->K ys):HR y K:=by
 cases x<;>simp only [PG] at h<;>cases h<;>simp only [AE] at hs
 case agg.refl=>
  obtain ⟨xs,rfl,hs⟩:=hs;exact hk _ hs
 case IU.refl=>
  obtain ⟨h,h1,rfl⟩:=hs;have:=hk [K9 h.loc 0 h.len] (by simp only [AN,AE];exact ⟨_,[],rfl,⟨h,h1,rfl⟩,rfl⟩)
  revert this
  cases h.loc<;>exact id
 case sl.refl=>
  rename_i l off len;obtain ⟨h,h1,h2,h3,h4,rfl⟩:=hs;have:=hk [K9 h.loc (off.toNat*h.k) len.toNat] (by simp only [AN,AE];exact ⟨_,[],rfl,⟨h,h1,h2,h3,h4,rfl⟩,rfl⟩)
  revert this
  cases h.loc<;>exact id
 case pr.refl=>
  obtain ⟨b,rfl,hb⟩:=hs;exact hk _ (by simp only [AN,AE];exact ⟨_,[],rfl,⟨b,rfl,hb⟩,rfl⟩)
 case ptr.refl=>
  obtain ⟨h,p,v,h1,h2,rfl⟩:=hs;exact hk _ (by simp only [AN,AE];exact ⟨_,[],rfl,⟨h,p,v,h1,h2,rfl⟩,rfl⟩)
 case I0.refl=>
  obtain ⟨h,p,v,h1,h2,h3,h4,rfl⟩:=hs;exact hk _ (by simp only [AN,AE];exact ⟨_,[],rfl,⟨h,p,v,h1,h2,h3,h4,rfl⟩,rfl⟩)
 case GX.refl=>
  obtain ⟨xs,rfl,h⟩:=hs;exact hk _ (by simp only [AN,AE];exact ⟨_,[],rfl,⟨xs,rfl,h⟩,rfl⟩)
 case fn.refl=>
  obtain ⟨xs,rfl,h⟩:=hs;exact hk _ (by simp only [AN,AE];exact ⟨_,[],rfl,⟨xs,rfl,h⟩,rfl⟩)
 all_goals
  subst hs;exact hk _ (by simp only [AN,AE];exact ⟨_,[],rfl,rfl,rfl⟩)
end
theorem ka {H:HF} {x:AA} {t:TV} (h:xC x=some t):AE H t x:=by
 unfold xC at h;split at h<;>cases h<;>simp [AE,AN]
theorem Ik {H:HF}: ∀ {xs:List AA} {ts:List TV},qS xs=some ts->AN H ts xs
 | [],_,h=>by simp [qS] at h;subst h;simp [AN]
 | x::xs,_,h=>by
  simp only [qS] at h;split at h<;>cases h;rename_i y ys h1 h2;simp only [AN];exact ⟨_,_,rfl,ka h1,Ik h2⟩
theorem te {H:HF} {x:AA} {t:TV} (h:xZ x=some t):AE H t x:=by
 unfold xZ at h;split at h
 ·split at h<;>cases h;rename_i h1;simp only [AE];exact ⟨_,rfl,Ik h1⟩
 ·exact ka h
def holds (A:Frame) (gs:List (Nat×Bool)):Prop:= ∀q∈gs,A.get q.1=if q.2 then .tt else .ff
structure jr (H:HF) (A:Frame) (s:Nat) (gs:List (Nat×Bool)) (P:Prop) (x:TV):Prop where
 on:holds A gs->AE H x (A.get s)
 off: ¬holds A gs->A.get s= .DH []
 iff:holds A gs↔P
def Cl (H:HF) (F:RF) (A:Frame):Prop:= ∀s gs P x,BL F s=some (gs,P,x)->jr H A s gs P x
theorem SZ: ∀ {p q:List (Nat×Bool)},N0 p q=true->p=q
 | [],[],_=>rfl
 | [],_::_,h=>by simp [N0] at h
 | (a,x)::p,[],h=>by cases x<;>simp [N0] at h
 | (a,x)::p,(b,y)::q,h=>by
  cases x<;>cases y<;>simp only [N0] at h<;>first | (cases h;done) | skip
  all_goals
   split at h<;>first | (cases h;done) | skip
   rename_i hb;rw [beq_eq hb,SZ h]
theorem Qc {A:Frame} {gs:List (Nat×Bool)}: ∀ {p:List (Nat×Bool)},jb gs p=true->holds A p->holds A gs
 | [],h,_=>by
  cases gs with
  | nil=>intro q hq;cases hq
  | cons=>simp [jb] at h
 | q::p,h,hp=>by
  simp only [jb] at h;split at h
  ·rename_i he;rw [SZ he];exact hp
  ·exact Qc h fun r hr=>hp r (by simp [hr])
theorem BD {A:Frame}:holds A []:=fun q hq=>by cases hq
section
variable {H : HF} {F : RF} {A : Frame} {path : List (Nat × Bool)}
theorem Bm (hF:Cl H F A) (hp:holds A path) {r:AO} {x:TV} (h:O_ F path r=some x):AE H x (rd A r):=by
 cases r with
 | c x=>exact te h
 | t n=>
  simp only [O_] at h;split at h
  ·rename_i gs P y hl;split at h<;>cases h;rename_i hs;exact (hF _ _ _ _ hl).on (Qc hs hp)
  ·cases h
theorem F_ (hF:Cl H F A) (hp:holds A path): ∀ {rs:List AO} {xs:List TV},Wm F path rs=some xs->AN H xs (rs.map (rd A))
 | [],_,h=>by simp [Wm] at h;subst h;simp [AN]
 | r::rs,_,h=>by
  simp only [Wm] at h;split at h<;>cases h;rename_i h1 h2;simp only [List.map_cons,AN];exact ⟨_,_,rfl,Bm hF hp h1,F_ hF hp h2⟩
theorem Oy (hF:Cl H F A) (hp:holds A path) {K:List AA->Prop}: ∀ {ps:List (Nat×Nat×AO)} {cs zs:List TV} {ys:List AA},YV F path cs ps=some zs->AN H cs ys->(∀ws,AN H zs ws->K ws)->KC A ys K ps
 | [],cs,zs,ys,h,hs,hk=>by simp [YV] at h;subst h;exact hk _ hs
 | (off,n,x)::ps,cs,zs,ys,h,hs,hk=>by
  simp only [YV] at h;split at h
  ·rename_i x' hx;split at h
   ·rename_i us hu;split at h
    ·rename_i h1 h2;simp only [KC,AD];refine IL hu (Bm hF hp hx) fun ws hw=>?_;have e1:=hw.length;have e2:=hs.length;have e3:=Km h1;have e4:=Kn h2;refine ⟨by omega,by omega,?_⟩;rw [GH];exact Oy hF hp h (hs.Kk hw) hk
    ·cases h
   ·cases h
  ·cases h
end
mutual
theorem Hv {H:HF}: ∀(t:Ty) (x:T t),AN H (Gb t x) (BP t x)
 | .int k,n=>by simp [Gb,BP,AN,AE]
 | .str,s=>by simp [Gb,BP,AN,AE]
 | .bool,b=>by simp [Gb,BP,AN,AE]
 | .st fs,x=>by simp only [Gb,BP];exact LA fs x
 | .sl e,l=>by simp only [Gb,BP,AN,AE];exact ⟨_,[],rfl,rfl,rfl⟩
theorem LA {H:HF}: ∀(ts:Ky) (x:Ts ts),AN H (Mv ts x) (HS ts x)
 | .nil,_=>by simp [Mv,HS,AN]
 | .cons t .nil,x=>by simp only [Mv,HS];exact Hv t x
 | .cons t (.cons u ts),(x,y)=>by simp only [Mv,HS];exact (Hv t x).append (LA (.cons u ts) y)
end
theorem VV {H:HF}: ∀(t:Ty) (x:T t),AE H (bY t x) (DV t x)
 | .int k,n=>by simp [bY,DV,AE]
 | .str,s=>by simp [bY,DV,AE]
 | .bool,b=>by simp [bY,DV,AE]
 | .st fs,x=>by simp only [bY,DV,AE];exact ⟨_,rfl,LA fs x⟩
 | .sl e,l=>by simp only [bY,DV,AE]
theorem fW {H:HF}: ∀(ts:Ky) (x:Ts ts),AN H (n0 ts x) (F5 ts x)
 | .nil,_=>by simp [n0,F5,AN]
 | .cons t .nil,x=>by simp only [n0,F5,AN];exact ⟨_,[],rfl,VV t x,rfl⟩
 | .cons t (.cons u ts),(x,y)=>by simp only [n0,F5,AN];exact ⟨_,_,rfl,VV t x,fW (.cons u ts) y⟩
mutual
theorem A7: ∀(t:Ty) (x:T t),(BP t x).length=G9 t
 | .int k,n=>rfl
 | .str,s=>rfl
 | .bool,b=>rfl
 | .st fs,x=>by simp only [BP,G9];exact RA fs x
 | .sl e,l=>rfl
theorem RA: ∀(ts:Ky) (x:Ts ts),(HS ts x).length=uD ts
 | .nil,_=>rfl
 | .cons t .nil,x=>by simp only [HS,uD,A7 t x];rfl
 | .cons t (.cons u ts),(x,y)=>by simp only [HS,List.length_append,A7 t x,RA (.cons u ts) y];rfl
end
theorem PU (t:Ty) (x:T t):(Gb t x).length=G9 t:=by
 have:=(Hv (H:=fun _=>none) t x).length;rw [A7] at this;exact this.symm
theorem E9 {H:HF} {x:TV} {y:AA} {k:IntKind} {n:Int} (h:gM x=some (k,n)) (hs:AE H x y):y= .int k n:=by
 cases x<;>simp only [gM] at h<;>cases h<;>simpa [AE] using hs
theorem VH {H:HF} {x:TV} {y:AA} {b:Bool} (h:v_ x=some b) (hs:AE H x y):y= .bool b:=by
 cases x<;>simp only [v_] at h<;>cases h<;>simp only [AE] at hs
 case pr.refl=>
  obtain ⟨b,rfl,hb⟩:=hs;congr 1;rw [Bool.eq_iff_iff,hb];simp [bo]
 all_goals exact hs
theorem H7 {k k':IntKind} {p:PLift (k=k')} (h:iZ k k'=some p):k=k':=p.down
theorem o9 {H:HF} {k:IntKind} {cs r:List TV} {x:Int} {ys:List AA} (h:sM k cs=some (x,r)) (hs:AN H cs ys): ∃zs,ys= .int k x::zs/\AN H r zs:=by
 cases cs with
 | nil=>simp [sM] at h
 | cons c cs=>
  simp only [sM] at h;split at h
  ·rename_i k' n hi;split at h<;>cases h;rename_i hk;have hk:=H7 hk;subst hk;simp only [AN] at hs;obtain ⟨y,zs,rfl,h1,h2⟩:=hs;exact ⟨zs,by rw [E9 hi h1],h2⟩
  ·cases h
theorem iB {H:HF} {cs r:List TV} {x:List UInt8} {ys:List AA} (h:iA cs=some (x,r)) (hs:AN H cs ys): ∃zs,ys= .str x::zs/\AN H r zs:=by
 unfold iA at h;split at h<;>cases h;simp only [AN,AE] at hs;obtain ⟨y,zs,rfl,rfl,h2⟩:=hs;exact ⟨zs,rfl,h2⟩
theorem cU {H:HF} {cs r:List TV} {x:Bool} {ys:List AA} (h:VI cs=some (x,r)) (hs:AN H cs ys): ∃zs,ys= .bool x::zs/\AN H r zs:=by
 cases cs with
 | nil=>simp [VI] at h
 | cons c cs=>
  simp only [VI] at h;split at h<;>cases h;rename_i hb;simp only [AN] at hs;obtain ⟨y,zs,rfl,h1,h2⟩:=hs;exact ⟨zs,by rw [VH hb h1],h2⟩
theorem lz {H:HF} {e:Ty} {cs r:List TV} {x:List (T e)} {ys:List AA} (h:pA e cs=some (x,r)) (hs:AN H cs ys): ∃zs,ys= .Ez x.length (x.flatMap (BP e))::zs/\AN H r zs:=by
 unfold pA at h;split at h
 ·split at h<;>cases h;rename_i hh _;subst hh;simp only [AN,AE] at hs;obtain ⟨y,zs,rfl,rfl,h2⟩:=hs;exact ⟨zs,rfl,h2⟩
 ·cases h
mutual
theorem Nw {H:HF}: ∀(t:Ty) {cs r:List TV} {x:T t} {ys:List AA},Vk t cs=some (x,r)->AN H cs ys-> ∃zs,ys=BP t x++zs/\AN H r zs
 | .int k,cs,r,x,ys,h,hs=>by simp only [Vk] at h;exact o9 h hs
 | .str,cs,r,x,ys,h,hs=>by simp only [Vk] at h;exact iB h hs
 | .bool,cs,r,x,ys,h,hs=>by simp only [Vk] at h;exact cU h hs
 | .st fs,cs,r,x,ys,h,hs=>by simp only [Vk] at h;exact L8 fs h hs
 | .sl e,cs,r,x,ys,h,hs=>by simp only [Vk] at h;exact lz h hs
theorem L8 {H:HF}: ∀(ts:Ky) {cs r:List TV} {x:Ts ts} {ys:List AA},Vl ts cs=some (x,r)->AN H cs ys-> ∃zs,ys=HS ts x++zs/\AN H r zs
 | .nil,cs,r,x,ys,h,hs=>by
  simp only [Vl,Option.some.injEq,Prod.mk.injEq] at h;obtain ⟨_,rfl⟩:=h;exact ⟨ys,rfl,hs⟩
 | .cons t .nil,cs,r,x,ys,h,hs=>by
  simp only [Vl] at h;exact Nw t h hs
 | .cons t (.cons u ts),cs,r,x,ys,h,hs=>by
  simp only [Vl] at h;split at h
  ·rename_i a r1 h1;split at h<;>cases h;rename_i b h2;obtain ⟨zs,rfl,g1⟩:=Nw t h1 hs;obtain ⟨ws,rfl,g2⟩:=L8 (.cons u ts) h2 g1;exact ⟨ws,by simp [HS],g2⟩
  ·cases h
end
end Go.Vc
end
section
namespace Go.Vc
def Ug (H H':HF):Prop:= ∀l h,H l=some h->H' l=some h
mutual
theorem AE.ext {H H':HF} (hl:Ug H H'): ∀ {x:TV} {y:AA},AE H x y->AE H' x y
 | .C3,_,_=>by simp [AE]
 | .tt,_,h=>by simpa [AE] using h
 | .ff,_,h=>by simpa [AE] using h
 | .bb _,_,h=>by simpa [AE] using h
 | .pr _,_,h=>by simpa [AE] using h
 | .gd _,_,h=>by simpa [AE] using h
 | .int _ _,_,h=>by simpa [AE] using h
 | .byte _,_,h=>by simpa [AE] using h
 | .str _,_,h=>by simpa [AE] using h
 | .B4,_,h=>by simpa [AE] using h
 | .I3,_,h=>by simpa [AE] using h
 | .I4,_,h=>by simpa [AE] using h
 | .M8,_,h=>by simpa [AE] using h
 | .bq _,_,h=>by simpa [AE] using h
 | .AL,_,h=>by simpa [AE] using h
 | .Ez _ _,_,h=>by simpa [AE] using h
 | .ptr l off,_,h=>by
  simp only [AE] at*;obtain ⟨h,p,v,h1,h2⟩:=h;exact ⟨h,p,v,hl _ _ h1,h2⟩
 | .I0 l i fo,_,h=>by
  simp only [AE] at*;obtain ⟨h,p,v,h1,h2⟩:=h;exact ⟨h,p,v,hl _ _ h1,h2⟩
 | .Xc l i,_,h=>by
  simp only [AE] at*;obtain ⟨h,q,h1,h2⟩:=h;exact ⟨h,q,hl _ _ h1,h2⟩
 | .F7 l i j k fo,_,h=>by
  simp only [AE] at*;obtain ⟨h,p,v,n,h1,h2⟩:=h;exact ⟨h,p,v,n,hl _ _ h1,h2⟩
 | .IU l,_,h=>by
  simp only [AE] at*;obtain ⟨h,h1,h2⟩:=h;exact ⟨h,hl _ _ h1,h2⟩
 | .sl l _ _,_,h=>by
  simp only [AE] at*;obtain ⟨h,h1,h2⟩:=h;exact ⟨h,hl _ _ h1,h2⟩
 | .ifs _ l,_,h=>by
  simp only [AE] at*;obtain ⟨h,h1,h2⟩:=h;exact ⟨h,hl _ _ h1,h2⟩
 | .GX cs,_,h=>by
  simp only [AE] at*;obtain ⟨xs,h1,h2⟩:=h;exact ⟨xs,h1,AN.ext hl h2⟩
 | .agg cs,_,h=>by
  simp only [AE] at*;obtain ⟨xs,h1,h2⟩:=h;exact ⟨xs,h1,AN.ext hl h2⟩
 | .DH cs,_,h=>by
  simp only [AE] at*;obtain ⟨xs,h1,h2⟩:=h;exact ⟨xs,h1,AN.ext hl h2⟩
 | .fn f cs,_,h=>by
  simp only [AE] at*;obtain ⟨xs,h1,h2⟩:=h;exact ⟨xs,h1,AN.ext hl h2⟩
theorem AN.ext {H H':HF} (hl:Ug H H'): ∀ {x:List TV} {y:List AA},AN H x y->AN H' x y
 | [],_,h=>by simpa [AN] using h
 | x::xs,_,h=>by
  simp only [AN] at*;obtain ⟨y,zs,h1,h2,h3⟩:=h;exact ⟨y,zs,h1,AE.ext hl h2,AN.ext hl h3⟩
end
theorem Cl.ext {H H':HF} {F:RF} {A:Frame} (h:Cl H F A) (hl:Ug H H'):Cl H' F A:=fun s gs P x hx=>
 let e:=h s gs P x hx
 ⟨fun q=>(e.on q).ext hl,e.off,e.iff⟩
inductive EE (H:HF):List RF->List Frame->Prop
 | nil:EE H [] []
 | cons {F:RF} {A:Frame} {G:List RF} {AG:List Frame} (h:Cl H F A) (hs:EE H G AG):EE H (F::G) (A::AG)
theorem EE.ext {H H':HF} {G:List RF} {AG:List Frame} (h:EE H G AG) (hl:Ug H H'):EE H' G AG:=by
 induction h with
 | nil=>exact .nil
 | cons h _ ih=>exact .cons (h.ext hl) ih
theorem Jk: ∀(TS:List CI) (l:Nat),B5 TS l=TS[l]?
 | [],l=>by simp [B5]
 | o::TS,0=>by simp [B5]
 | o::TS,l+1=>by simp [B5,Jk TS l]
theorem Fk: ∀(TS:List CI) (l:Nat) (o:CI),GU TS l o=TS.set l o
 | [],l,o=>by simp [GU]
 | a::TS,0,o=>by simp [GU]
 | a::TS,l+1,o=>by simp [GU,Fk TS l o]
theorem GP: ∀(TS:List CI),PL TS=TS.length
 | []=>rfl
 | _::TS=>by simp [PL,GP TS]
theorem F9: ∀(TS:List CI) (o:CI),NU TS o=TS++[o]
 | [],o=>rfl
 | a::TS,o=>by simp [NU,F9 TS o]
theorem Wl: ∀(TS S:List CI),ed TS S=TS++S
 | [],S=>rfl
 | a::TS,S=>by simp [ed,Wl TS S]
def Cd (S:AB) (t:Ty) (ls:List (T t)):Option (Nat×Nat)->Prop
 | none=>ls=[]
 | some (p,v)=>S[p]?=some (.row v (G9 t) (ls.flatMap (BP t)))
def bV (q:Option (Nat×Nat)×Nat):AA:=K9 q.1 0 q.2
structure P3 (S:AB) (t:Ty) (ls:List (List (T t))) (sub:List (Option (Nat×Nat)×Nat)):Prop where
 len:sub.length=ls.length
 at_: ∀(i:Nat) l q,ls[i]?=some l->sub[i]?=some q->q.2=l.length/\Cd S t l q.1
def Qm (H:HF) (S:AB) (l:Nat):CI->Prop
 | .dead=>H l=none
 | .cells k cs=> ∃p v xs,H l=some ⟨some (p,v),k,cs.length,[]⟩/\S[p]?=some (.row v k xs)/\AN H cs xs
 | .row t ls=> ∃loc,H l=some ⟨loc,G9 t,ls.length,[]⟩/\Cd S t ls loc
 | .Eg t ls=> ∃p v sub,H l=some ⟨some (p,v),1,ls.length,sub⟩/\S[p]?=some (.row v 1 (sub.map bV))/\P3 S t ls sub
structure Dn (H:HF) (TS:List CI) (S:AB):Prop where
 ob: ∀(l:Nat) o,TS[l]?=some o->Qm H S l o
 out: ∀l,TS.length<=l->H l=none
 inj: ∀l l' h h' p v v',H l=some h->H l'=some h'->h.loc=some (p,v)->h'.loc=some (p,v')->l=l'
 sub: ∀(l i:Nat) (h:Hd) (p v n:Nat),H l=some h->h.sub[i]?=some (some (p,v),n)->p<S.length/\(∀l' h' v',H l'=some h'->h'.loc≠some (p,v'))/\
  (∀(l' i':Nat) (h':Hd) (v' n':Nat),H l'=some h'->h'.sub[i']?=some (some (p,v'),n')->l'=l/\i'=i)
theorem Dn.lt {H:HF} {TS:List CI} {S:AB} (st:Dn H TS S) {l:Nat} {h:Hd} {p v:Nat} (hl:H l=some h) (hp:h.loc=some (p,v)):p<S.length:=by
 have hlt:l<TS.length:=by
  rcases Nat.lt_or_ge l TS.length with q | q
  ·exact q
  ·rw [st.out l q] at hl;cases hl
 have:=st.ob l _ (List.getElem?_eq_getElem hlt);generalize TS[l]=o at this;cases o with
 | dead=>simp only [Qm] at this;rw [this] at hl;cases hl
 | cells k cs=>
  obtain ⟨p',v',xs,h1,h2,_⟩:=this;rw [h1] at hl;cases hl;cases hp;exact (List.getElem?_eq_some_iff.1 h2).1
 | row t ls=>
  obtain ⟨loc,h1,h2⟩:=this;rw [h1] at hl;cases hl;simp only at hp;subst hp;exact (List.getElem?_eq_some_iff.1 h2).1
 | Eg t ls=>
  obtain ⟨p',v',sub,h1,h2,_⟩:=this;rw [h1] at hl;cases hl;cases hp;exact (List.getElem?_eq_some_iff.1 h2).1
theorem P3.ext {S S':AB} {t:Ty} {ls:List (List (T t))} {sub:List (Option (Nat×Nat)×Nat)} (h:P3 S t ls sub) (hS: ∀(p:Nat) x,(∃(i v n:Nat),sub[i]?=some (some (p,v),n))->S[p]?=some x->S'[p]?=some x):P3 S' t ls sub:=
 ⟨h.len,fun i l q h1 h2=>by
  obtain ⟨g1,g2⟩:=h.at_ i l q h1 h2;refine ⟨g1,?_⟩;obtain ⟨loc,n⟩:=q;cases loc with
  | none=>exact g2
  | some pv=>exact hS _ _ ⟨i,pv.2,n,h2⟩ g2⟩
theorem Qm.ext {H H':HF} {S S':AB} {l:Nat} {o:CI} (h:Qm H S l o) (hl:Ug H H') (hS: ∀(p:Nat) x,S[p]?=some x->S'[p]?=some x) (hd:H l=none->H' l=none):Qm H' S' l o:=by
 cases o with
 | dead=>exact hd h
 | cells k cs=>
  obtain ⟨p,v,xs,h1,h2,h3⟩:=h;exact ⟨p,v,xs,hl _ _ h1,hS _ _ h2,h3.ext hl⟩
 | row t ls=>
  obtain ⟨loc,h1,h2⟩:=h;refine ⟨loc,hl _ _ h1,?_⟩;cases loc with
  | none=>exact h2
  | some q=>exact hS _ _ h2
 | Eg t ls=>
  obtain ⟨p,v,sub,h1,h2,h3⟩:=h;exact ⟨p,v,sub,hl _ _ h1,hS _ _ h2,h3.ext fun p x _ hp=>hS p x hp⟩
theorem Dn.nil {S:AB}:Dn (fun _=>none) [] S:=⟨fun l o h=>by simp at h,fun _ _=>rfl,fun l l' h h' p v v' e=>(by cases e),fun l i h p v n e=>(by cases e)⟩
theorem Dn.push {H:HF} {TS:List CI} {S S':AB} (st:Dn H TS S) {o:CI} {hd:Hd} (ho: ∀H',Ug H H'->H' TS.length=some hd->Qm H' S' TS.length o) (hS: ∀(p:Nat) x,S[p]?=some x->S'[p]?=some x)
  (hn: ∀p v,hd.loc=some (p,v)->S.length<=p) (hsub: ∀q∈hd.sub,q.1=none:=by simp): ∃H',Ug H H'/\Dn H' (TS++[o]) S'/\H' TS.length=some hd:=by
 have hl:Ug H (fun l=>if l=TS.length then some hd else H l):=fun l h e=>by
  have:l≠TS.length:=fun q=>by rw [q,st.out _ (Nat.le_refl _)] at e;cases e
  simp [this,e]
 refine ⟨fun l=>if l=TS.length then some hd else H l,hl,⟨fun l o' h=>?_,fun l h=>?_,fun l l' h h' p v v' e1 e2 e3 e4=>?_,fun l i h p v n e1 e2=>?_⟩,by simp⟩
 ·rcases Nat.lt_or_ge l TS.length with q | q
  ·rw [List.getElem?_append_left q] at h;exact (st.ob l o' h).ext hl hS fun e=>by simp [e];omega
  ·rw [List.getElem?_append_right q] at h;have:l=TS.length:=by
    rcases Nat.lt_or_ge (l-TS.length) 1 with q | q
    ·omega
    ·rw [List.getElem?_eq_none (by simpa using q)] at h;cases h
   subst this;simp at h;subst h;exact ho _ hl (by simp)
 ·simp at h;rw [if_neg (by omega)];exact st.out l (by omega)
 ·split at e1<;>split at e2
  ·rename_i a b;rw [a,b]
  ·cases e1;have:=hn _ _ e3;have:=st.lt e2 e4;omega
  ·cases e2;have:=hn _ _ e4;have:=st.lt e1 e3;omega
  ·exact st.inj _ _ _ _ _ _ _ e1 e2 e3 e4
 ·have no: ∀(i:Nat) (p v n:Nat),¬hd.sub[i]?=some (some (p,v),n):=fun i p v n e=>by
   have:=hsub _ (List.mem_of_getElem? e);cases this
  split at e1
  ·cases e1;exact absurd e2 (no _ _ _ _)
  ·obtain ⟨g1,g2,g3⟩:=st.sub l i h p v n e1 e2;refine ⟨?_,fun l' h' v' q1 q2=>?_,fun l' i' h' v' n' q1 q2=>?_⟩
   ·exact (List.getElem?_eq_some_iff.1 (hS p _ (List.getElem?_eq_getElem g1))).1
   ·split at q1
    ·cases q1;have:=hn _ _ q2;omega
    ·exact g2 _ _ _ q1 q2
   ·split at q1
    ·cases q1;exact absurd q2 (no _ _ _ _)
    ·exact g3 _ _ _ _ _ q1 q2
theorem V3 {S:AB} {o:Ob}: ∀(p:Nat) x,S[p]?=some x->(S++[o])[p]?=some x:=fun p x h=>by
 rw [List.getElem?_append_left (List.getElem?_eq_some_iff.1 h).1];exact h
theorem Dn.O8 {H:HF} {TS:List CI} {S:AB} (st:Dn H TS S) (t:Ty) (ls:List (T t)) (v:Nat):
  ∃H',Ug H H'/\Dn H' (TS++[.row t ls]) (S++[.row v (G9 t) (ls.flatMap (BP t))])/\H' TS.length=some ⟨some (S.length,v),G9 t,ls.length,[]⟩:=
 st.push (fun H' _ h=>⟨_,h,by simp [Cd]⟩) V3 (fun p v' e=>by cases e;exact Nat.le_refl _)
theorem Dn.aq {H:HF} {TS:List CI} {S:AB} (st:Dn H TS S) (t:Ty):
  ∃H',Ug H H'/\Dn H' (TS++[.row t []]) S/\H' TS.length=some ⟨none,G9 t,0,[]⟩:=
 st.push (fun H' _ h=>⟨_,h,by simp [Cd]⟩) (fun _ _ h=>h) (fun p v' e=>by cases e)
theorem Dn.Y6 {H:HF} {TS:List CI} {S:AB} (st:Dn H TS S) (k:Nat) {cs:List TV} {xs:List AA} (hs:AN H cs xs) (v:Nat):
  ∃H',Ug H H'/\Dn H' (TS++[.cells k cs]) (S++[.row v k xs])/\H' TS.length=some ⟨some (S.length,v),k,cs.length,[]⟩:=
 st.push (fun H' hl h=>⟨_,_,_,h,by simp,hs.ext hl⟩) V3 (fun p v' e=>by cases e;exact Nat.le_refl _)
theorem Dn.qe {H:HF} {TS:List CI} {S:AB} (st:Dn H TS S) (t:Ty) (n v:Nat):
  ∃H',Ug H H'/\Dn H' (TS++[.Eg t (List.replicate n [])]) (S++[.row v 1 (List.replicate n .AL)])/\H' TS.length=some ⟨some (S.length,v),1,n,List.replicate n (none,0)⟩:=
 st.push (fun H' _ h=>⟨_,v,List.replicate n (none,0),by simpa using h,by simp [bV,K9],by simp,fun i l q h1 h2=>by
  rw [List.getElem?_replicate] at h1 h2;split at h1<;>cases h1;split at h2
  ·cases h2;exact ⟨rfl,rfl⟩
  ·omega⟩) V3 (fun p v' e=>by cases e;exact Nat.le_refl _) fun q hq=>by rw [(List.mem_replicate.1 hq).2]
def oa:(r:Nc)->(rs:List Nc)->Qn (r::rs)->RT r
 | _,[],x=>x
 | _,_::_,x=>x.1
def oc:(r:Nc)->(rs:List Nc)->Qn (r::rs)->Qn rs
 | _,[],_=>()
 | _,_::_,x=>x.2
def IQ:(rs:List Nc)->Qn rs->Nat->List AA->AB->Prop
 | [],_,_,ys,S=>ys=[]/\S=[]
 | .val t::rs,x,n,ys,S=> ∃ys',ys=DV t (oa (.val t) rs x)::ys'/\IQ rs (oc (.val t) rs x) n ys' S
 | .own t::rs,x,n,ys,S=>(∃v ys' S',ys= .sl n v 0 (oa (.own t) rs x).length::ys'/\S= .row v (G9 t) ((oa (.own t) rs x).flatMap (BP t))::S'/\IQ rs (oc (.own t) rs x) (n+1) ys' S')\/
   (oa (.own t) rs x=[]/\ ∃ys',ys= .AL::ys'/\IQ rs (oc (.own t) rs x) n ys' S)
def MT (xs:List AA):AA:=match xs with | [x]=>x | xs=>.DH xs
def qw (rs:List Nc) (x:Qn rs) (r:AA) (S:AB):Prop:= ∃ys,IQ rs x 0 ys S/\r=MT ys
def BV (P:Program) (f:FuncId) (ct:Ct):Prop:=DC P f=true/\ ∀x:Ts ct.args,ct.pre x->AV P f (F5 ct.args x) [] (qw ct.res (ct.fn x))
def Cons (P:Program):List (Nat×Ct)->Prop
 | []=>True
 | (f,ct)::L=>BV P f ct/\Cons P L
theorem Cons.look {P:Program}: ∀ {L:List (Nat×Ct)} {f:Nat} {ct:Ct},Cons P L->BL L f=some ct->BV P f ct
 | [],_,_,_,h=>by simp [BL] at h
 | (g,c)::L,f,ct,hc,h=>by
  simp only [BL] at h;split at h
  ·rename_i hb;cases h;rw [<-beq_eq hb];exact hc.1
  ·exact Cons.look hc.2 h
theorem ZB (t:Ty): ∀(rs:List Nc) (x:Qn (.val t::rs)) (n:Nat),HH (.val t::rs) x n=(bY t (oa (.val t) rs x)::(HH rs (oc (.val t) rs x) n).1,(HH rs (oc (.val t) rs x) n).2)
 | [],x,n=>rfl
 | _::_,x,n=>rfl
theorem na (t:Ty): ∀(rs:List Nc) (x:Qn (.own t::rs)) (n:Nat),HH (.own t::rs) x n=(.IU n::(HH rs (oc (.own t) rs x) (n+1)).1,.row t (oa (.own t) rs x)::(HH rs (oc (.own t) rs x) (n+1)).2)
 | [],x,n=>rfl
 | _::_,x,n=>rfl
theorem Rw: ∀(rs:List Nc) (x:Qn rs) {H:HF} {TS:List CI} {S S':AB} {ys:List AA},Dn H TS S->IQ rs x S.length ys S'->
  ∃H',Ug H H'/\Dn H' (TS++(HH rs x TS.length).2) (S++S')/\AN H' (HH rs x TS.length).1 ys
 | [],_,H,TS,S,S',ys,st,h=>by
  simp only [IQ] at h;obtain ⟨rfl,rfl⟩:=h;exact ⟨H,fun _ _ h=>h,by simpa [HH] using st,by simp [HH,AN]⟩
 | .val t::rs,x,H,TS,S,S',ys,st,h=>by
  simp only [IQ] at h;obtain ⟨ys',rfl,h⟩:=h;obtain ⟨H',g1,g2,g3⟩:=Rw rs _ st h;rw [ZB];exact ⟨H',g1,g2,by simp only [AN];exact ⟨_,_,rfl,VV _ _,g3⟩⟩
 | .own t::rs,x,H,TS,S,S',ys,st,h=>by
  simp only [IQ] at h;rw [na];rcases h with ⟨v,ys',S1,rfl,rfl,h⟩ | ⟨h0,ys',rfl,h⟩
  ·obtain ⟨H1,p1,p2,p3⟩:=st.O8 t (oa (.own t) rs x) v;obtain ⟨H',g1,g2,g3⟩:=Rw rs _ p2 (by simpa using h);simp only [List.length_append,List.length_singleton] at g2 g3;refine ⟨H',fun l h e=>g1 _ _ (p1 _ _ e),by simpa using g2,?_⟩;simp only [AN,AE];exact ⟨_,_,rfl,⟨_,g1 _ _ p3,rfl⟩,g3⟩
  ·obtain ⟨H1,p1,p2,p3⟩:=st.aq t;obtain ⟨H',g1,g2,g3⟩:=Rw rs _ p2 h;simp only [List.length_append,List.length_singleton] at g2 g3;refine ⟨H',fun l h e=>g1 _ _ (p1 _ _ e),by rw [h0];simpa using g2,?_⟩;simp only [AN,AE];exact ⟨_,_,rfl,⟨_,g1 _ _ p3,rfl⟩,g3⟩
def uZ (n:Nat):AA->AA
 | .sl l v o k=>.sl (l+n) v o k
 | x=>x
theorem sR (n:Nat): ∀(t:Ty) (x:T t),uZ n (DV t x)=DV t x
 | .int _,_=>rfl
 | .str,_=>rfl
 | .bool,_=>rfl
 | .st _,_=>rfl
 | .sl _,_=>rfl
theorem Rv (m:Nat): ∀(rs:List Nc) (x:Qn rs) (n:Nat) {ys:List AA} {S:AB},IQ rs x n ys S->IQ rs x (n+m) (ys.map (uZ m)) S
 | [],_,n,ys,S,h=>by
  simp only [IQ] at*;obtain ⟨rfl,rfl⟩:=h;simp
 | .val t::rs,x,n,ys,S,h=>by
  simp only [IQ] at*;obtain ⟨ys',rfl,h⟩:=h;exact ⟨_,by simp [sR],Rv m rs _ n h⟩
 | .own t::rs,x,n,ys,S,h=>by
  simp only [IQ] at*;rcases h with ⟨v,ys',S1,rfl,rfl,h⟩ | ⟨h0,ys',rfl,h⟩
  ·refine .inl ⟨v,ys'.map (uZ m),S1,rfl,rfl,?_⟩;have:=Rv m rs _ (n+1) h;rwa [show n+1+m=n+m+1 by omega] at this
  ·exact .inr ⟨h0,ys'.map (uZ m),rfl,Rv m rs _ n h⟩
theorem ua (m:Nat) (x:AA):PS x (uZ m x):=by
 cases x<;>first | exact .sl | exact .refl _
theorem rB (m:Nat): ∀xs:List AA,bn xs (xs.map (uZ m))
 | []=>.nil
 | x::xs=>.cons (ua m x) (rB m xs)
theorem qy (m:Nat): ∀xs:List AA,PS (MT xs) (MT (xs.map (uZ m)))
 | []=>.DH .nil
 | [x]=>ua m x
 | x::y::xs=>.DH (rB m (x::y::xs))
mutual
def plain:AA->Bool
 | .Ez n _=>Nat.beq n 0
 | .GX _=>false
 | .agg cs=>EA cs
 | .DH cs=>EA cs
 | .fn _ xs ys=>EA xs && EA ys
 | .iface _ x=>plain x
 | _=>true
def EA:List AA->Bool
 | []=>true
 | x::xs=>plain x && EA xs
end
mutual
theorem O6 {E E':Env} {fz fz':Nat->Prop} {w w':World} (hE: ∀v x,E v=some x->E' v=some x): ∀(x:AA) (v:Value),plain x=true->Rel E fz w x v->Rel E' fz' w' x v
 | .agg cs,v,h,hr=>by
  simp only [Rel] at*;obtain ⟨vs,h1,h2,h3⟩:=hr;exact ⟨vs,h1,Ki hE cs vs (by simpa [plain] using h) h2,h3⟩
 | .DH cs,v,h,hr=>by
  simp only [Rel] at*;obtain ⟨vs,h1,h2⟩:=hr;exact ⟨vs,h1,Ki hE cs vs (by simpa [plain] using h) h2⟩
 | .fn f xs ys,v,h,hr=>by
  simp only [Rel] at*;obtain ⟨vs,us,h1,h2,h3⟩:=hr;simp only [plain,Bool.and_eq_true] at h;exact ⟨vs,us,h1,Ki hE xs vs h.1 h2,Ki hE ys us h.2 h3⟩
 | .iface t x,v,h,hr=>by
  simp only [Rel] at*;obtain ⟨u,h1,h2⟩:=hr;exact ⟨u,h1,O6 hE x u (by simpa [plain] using h) h2⟩
 | .Ez n cs,v,h,hr=>by
  have hn:n=0:=by simpa [plain] using h
  subst hn;simp only [Rel] at*;rcases hr with hr | ⟨b,off,c,g1,g2,g3,g4⟩
  ·exact .inl hr
  ·exact .inl ⟨trivial,_,_,g3⟩
 | .GX _,_,h,_=>by simp [plain] at h
 | .ptr _ _ _,_,_,hr=>by
  simp only [Rel] at*;obtain ⟨b,base,cap,k,h1,h2⟩:=hr;exact ⟨b,base,cap,k,hE _ _ h1,h2⟩
 | .sl _ _ _ _,_,_,hr=>by
  simp only [Rel] at*;rcases hr with h | ⟨b,base,cap,k,c,h1,h2⟩
  ·exact .inl h
  ·exact .inr ⟨b,base,cap,k,c,hE _ _ h1,h2⟩
 | .map _ _,_,_,hr=>by
  simp only [Rel] at*;obtain ⟨b,h1,h2⟩:=hr;exact ⟨b,hE _ _ h1,h2⟩
 | .int _ _,_,_,hr=>by simpa [Rel] using hr
 | .str _,_,_,hr=>by simpa [Rel] using hr
 | .bool _,_,_,hr=>by simpa [Rel] using hr
 | .tt,_,_,hr=>by simpa [Rel] using hr
 | .ff,_,_,hr=>by simpa [Rel] using hr
 | .C3,_,_,hr=>by simp [Rel]
 | .B4,_,_,hr=>by simpa [Rel] using hr
 | .AL,_,_,hr=>by simpa [Rel] using hr
 | .I3,_,_,hr=>by simpa [Rel] using hr
 | .I4,_,_,hr=>by simpa [Rel] using hr
 | .M8,_,_,hr=>by simpa [Rel] using hr
 | .bq _,_,_,hr=>by simpa [Rel] using hr
theorem Ki {E E':Env} {fz fz':Nat->Prop} {w w':World} (hE: ∀v x,E v=some x->E' v=some x): ∀(xs:List AA) (vs:List Value),EA xs=true->AZ E fz w xs vs->AZ E' fz' w' xs vs
 | [],_,_,hr=>by simpa [AZ] using hr
 | x::xs,_,h,hr=>by
  simp only [AZ] at*;obtain ⟨v,us,h0,h1,h2⟩:=hr;simp only [EA,Bool.and_eq_true] at h;exact ⟨v,us,h0,O6 hE x v h.1 h1,Ki hE xs us h.2 h2⟩
end
theorem We: ∀ {xs:List AA},EA xs=true-> ∀x∈xs,plain x=true
 | [],_,x,h=>by cases h
 | y::ys,hp,x,h=>by
  simp only [EA,Bool.and_eq_true] at hp;rcases List.mem_cons.1 h with rfl | h
  ·exact hp.1
  ·exact We hp.2 x h
theorem Ln: ∀ {xs ys:List AA},EA xs=true->EA ys=true->EA (xs++ys)=true
 | [],_,_,h=>h
 | x::xs,ys,h,h'=>by
  simp only [EA,Bool.and_eq_true,List.cons_append] at*;exact ⟨h.1,Ln h.2 h'⟩
def qY:Ob->Prop
 | .row _ _ cs=>EA cs=true
 | .dead=>True
 | .DA _ _=>False
 | .HD _ _ _=>False
 | .FO _ _ _ _ _=>False
mutual
theorem QE: ∀(t:Ty) (x:T t),Pk t=true->EA (BP t x)=true
 | .int _,_,_=>rfl
 | .str,_,_=>rfl
 | .bool,_,_=>rfl
 | .st fs,x,h=>by simp only [Pk] at h;simp only [BP];exact N1 fs x h
 | .sl _,_,h=>by simp [Pk] at h
theorem N1: ∀(ts:Ky) (x:Ts ts),V0 ts=true->EA (HS ts x)=true
 | .nil,_,_=>rfl
 | .cons t .nil,x,h=>by
  simp only [V0,Bool.and_eq_true] at h;simp only [HS];exact QE t x h.1
 | .cons t (.cons u ts),(x,y),h=>by
  rw [V0,Bool.and_eq_true] at h;simp only [HS];exact Ln (QE t x h.1) (N1 (.cons u ts) y h.2)
end
theorem dB: ∀(t:Ty) (x:T t),Pk t=true->plain (DV t x)=true
 | .int _,_,_=>rfl
 | .str,_,_=>rfl
 | .bool,_,_=>rfl
 | .st fs,x,h=>by simp only [Pk] at h;simp only [DV,plain];exact N1 fs x h
 | .sl _,_,h=>by simp [Pk] at h
theorem O0 {t:Ty} (h:Pk t=true): ∀ls:List (T t),EA (ls.flatMap (BP t))=true
 | []=>rfl
 | x::ls=>by rw [List.flatMap_cons];exact Ln (QE t x h) (O0 h ls)
theorem PA: ∀(rs:List Nc) (x:Qn rs) (n:Nat) {ys:List AA} {S:AB},Pj rs=true->IQ rs x n ys S->EA ys=true/\ ∀o∈S,qY o
 | [],_,n,ys,S,_,h=>by
  simp only [IQ] at h;obtain ⟨rfl,rfl⟩:=h;exact ⟨rfl,by simp⟩
 | .val t::rs,x,n,ys,S,hf,h=>by
  simp only [IQ] at h;obtain ⟨ys',rfl,h⟩:=h;simp only [Pj,Bool.and_eq_true] at hf;obtain ⟨g1,g2⟩:=PA rs _ n hf.2 h;exact ⟨by simp [EA,dB t _ hf.1,g1],g2⟩
 | .own t::rs,x,n,ys,S,hf,h=>by
  simp only [IQ] at h;simp only [Pj,Bool.and_eq_true] at hf;rcases h with ⟨v,ys',S1,rfl,rfl,h⟩ | ⟨h0,ys',rfl,h⟩
  ·obtain ⟨g1,g2⟩:=PA rs _ _ hf.2 h;refine ⟨by simp [EA,plain,g1],fun o ho=>?_⟩;rcases List.mem_cons.1 ho with rfl | ho
   ·exact O0 hf.1 _
   ·exact g2 o ho
  ·obtain ⟨g1,g2⟩:=PA rs _ _ hf.2 h;exact ⟨by simp [EA,plain,g1],g2⟩
section
variable {P : Program} {f : FuncId}
theorem AV.uS {S:AB} {args args':List AA} {R K:AA->AB->Prop} (h:AV P f args' [] R)
  (hargs: ∀E fz w vals,St E fz S w->AZ E fz w args vals->AZ E (frozen E fz S) w args' vals)
  (hK: ∀r S',R r S'-> ∃r',PS r r'/\plain r'=true/\(∀o∈S',qY o)/\K r' (S++S')):AV P f args S K:=by
 refine ⟨fun E fz w vals st hrel=>?_⟩;have no: ∀b,¬Own E [] b:=fun b ⟨l,o,h,_⟩=>by simp at h
 refine (h.out E _ w vals st.freeze (hargs E fz w vals st hrel)).mono fun e w' ⟨r,S',v,E',fz',h1,h2,h3,h4,h5⟩=>?_;obtain ⟨r',g1,g2,g3,g4⟩:=hK r S' h5;have hh: ∀b,b<w.heap.size->w'.heap[b]?=w.heap[b]?:=fun b hb=>h2.AW b hb (no b);have nf: ∀b,fz b-> ¬Own E S b:=fun b hb ⟨l,ho⟩=>(st.Ey ho).2 hb;have new: ∀l b,Dh E' S' l b->w.heap.size<=b:=fun l b ho=>by
  rcases h2.own b ⟨_,ho⟩ with q | q
  ·exact absurd q (no b)
  ·exact q
 have split: ∀l b,Dh E' (S++S') l b->(l<S.length/\Dh E S l b)\/(S.length<=l/\Dh E' S' (l-S.length) b):=fun l b ⟨o,q1,q2⟩=>by
  by_cases hl:l<S.length
  ·rw [List.getElem?_append_left hl] at q1;exact .inl ⟨hl,o,q1,by rw [<-(st.ok l o q1).block h2.env];exact q2⟩
  ·rw [List.getElem?_append_right (by omega)] at q1;exact .inr ⟨by omega,o,q1,q2⟩
 refine ⟨r',S++S',v,E',fun b=>fz' b/\ ¬Own E S b,h1,⟨h2.env,fun b hb=>⟨h2.Yf b (.inl hb),nf b hb⟩,fun b ⟨hb,hn⟩=>?_,fun b hb _=>hh b hb,fun b ⟨l,ho⟩=>?_,h2.size,h2.os,h2.output,h2.tape⟩,
  ⟨fun l o hl=>?_,fun l l' b q1 q2=>?_,fun b hb=>h3.Gi b hb.1,h3.fresh⟩,O6 (fun _ _ h=>h) r' v g2 (g1 _ _ _ _ h4),g4⟩
 ·rcases h2.IE b hb with (q | q) | q | q
  ·exact .inl q
  ·exact absurd q hn
  ·exact absurd q (no b)
  ·exact .inr (.inr q)
 ·rcases split l b ho with ⟨_,q⟩ | ⟨_,q⟩
  ·exact .inl ⟨l,q⟩
  ·exact .inr (new _ _ q)
 ·by_cases hlt:l<S.length
  ·rw [List.getElem?_append_left hlt] at hl;exact (st.ok l o hl).mono h2.env (fun b hb=>⟨h2.Yf b (.inl hb),nf b hb⟩) (fun b hb=>hh b (st.Gi b hb)) fun b hb=>⟨hh b (st.Ey ⟨o,hl,hb⟩).1,fun q=>q.2 ⟨l,o,hl,hb⟩⟩
  ·rw [List.getElem?_append_right (by omega)] at hl;have ok:=h3.ok _ _ hl;have pl:=g3 o (List.mem_of_getElem? hl);cases o with
   | dead=>trivial
   | DA v es=>exact pl.elim
   | HD b L F=>exact pl.elim
   | FO v mv since last seen=>exact pl.elim
   | row v k cs=>
    rcases ok with ⟨q1,q2⟩ | ⟨b,base,cap,arr,T,lo,hi,q1,q2,q3,q4,q5,q6,q7⟩
    ·exact .inl ⟨q1,q2⟩
    ·refine .inr ⟨b,base,cap,arr,T,lo,hi,q1,q2,q3,q4,q5,Ck.mk fun i x hx=>?_,fun hf=>q7 hf.1⟩;obtain ⟨c,c1,c2,c3⟩:=q6.get hx;exact ⟨c,c1,c2,O6 (fun _ _ h=>h) x c (We pl x (List.mem_of_getElem? hx)) c3⟩
 ·rcases split l b q1 with ⟨a1,a2⟩ | ⟨a1,a2⟩<;>rcases split l' b q2 with ⟨b1,b2⟩ | ⟨b1,b2⟩
  ·exact st.sep _ _ _ a2 b2
  ·have:=(st.Ey a2).1;have:=new _ _ b2;omega
  ·have:=(st.Ey b2).1;have:=new _ _ a2;omega
  ·have:=h3.sep _ _ _ a2 b2;omega
end
end Go.Vc
end
section
namespace Go.Vc
section
variable {H : HF} {TS : List CI} {S : AB}
theorem qq {E:Env} {fz:Nat->Prop} {w:World} {b off:Nat} {xs ys:List AA} (h:Ck E fz w b off (xs++ys)):Ck E fz w b off xs:=by
 have:=h.take xs.length;rwa [List.take_left'] at this;rfl
theorem Dl (st:Dn H TS S) {l:Nat} {t:Ty} {ls:List (T t)} (ho:B5 TS l=some (.row t ls)): ∃loc,H l=some ⟨loc,G9 t,ls.length,[]⟩/\Cd S t ls loc:=by
 rw [Jk] at ho;exact st.ob l _ ho
theorem Oo (st:Dn H TS S) {l k:Nat} {cs:List TV} (ho:B5 TS l=some (.cells k cs)): ∃p v xs,H l=some ⟨some (p,v),k,cs.length,[]⟩/\S[p]?=some (.row v k xs)/\AN H cs xs:=by
 rw [Jk] at ho;exact st.ob l _ ho
theorem Jg (st:Dn H TS S) {l:Nat} {t:Ty} {ls:List (List (T t))} (ho:B5 TS l=some (.Eg t ls)): ∃p v sub,H l=some ⟨some (p,v),1,ls.length,sub⟩/\S[p]?=some (.row v 1 (sub.map bV))/\P3 S t ls sub:=by
 rw [Jk] at ho;exact st.ob l _ ho
theorem Oz {t:Ty} (ls:List (T t)) (a n:Nat):(ls.flatMap (BP t)).drop (a*G9 t)=((ls.drop a).take n).flatMap (BP t)++((ls.drop a).drop n).flatMap (BP t):=by
 rw [SU (A7 t),<-List.flatMap_append,List.take_append_drop]
theorem o_ (st3:Dn H TS S) {t:Ty} {x:TV} {a:List (T t)} {y:AA} (h:Vm TS t x=some a) (hs:AE H x y) {E:Env} {fz fz':Nat->Prop} {w:World} {v:Value} (hfz: ∀b,fz b->fz' b)
  (hx:Ha x=true\/(fz'=frozen E fz S/\St E fz S w)) (hr:Rel E fz w y v):Rel E fz' w (.Ez a.length (a.flatMap (BP t))) v:=by
 have nilc:Rel E fz w .AL v->Rel E fz' w (.Ez 0 []) v:=fun h=>by
  simp only [Rel] at h |-;exact .inl ⟨trivial,none,0,h⟩
 unfold Vm at h;split at h
 ·split at h<;>cases h;rename_i hh _;subst hh;simp only [AE] at hs;subst hs;exact hr.mono (fun _ _ h=>h) hfz (fun _ _=>rfl)
 ·cases h;simp only [AE] at hs;subst hs;exact nilc hr
 ·rename_i l;split at h
  ·rename_i e ls ho;split at h<;>cases h;rename_i hh _;subst hh;obtain ⟨loc,h1,h2⟩:=Dl st3 ho;simp only [AE] at hs;obtain ⟨hd,g1,rfl⟩:=hs;rw [h1] at g1;cases g1;rcases hx with hx | ⟨rfl,stE⟩
   ·simp [Ha] at hx
   cases loc with
   | none=>
    simp only [Cd] at h2;subst h2;exact nilc hr
   | some q=>
    obtain ⟨p,ver⟩:=q;have:=SS stE 1 _ _ hr;simpa [deref,K9,show S[p]?=_ from h2] using this
  ·cases h
 ·rename_i l off len;split at h
  ·rename_i e ls ho;split at h<;>cases h;rename_i hh _;subst hh;obtain ⟨loc,h1,h2⟩:=Dl st3 ho;simp only [AE] at hs;obtain ⟨hd,g1,g2,g3,g4,rfl⟩:=hs;rw [h1] at g1;cases g1;simp only at g4;have hlen:((ls.drop off.toNat).take len.toNat).length=len.toNat:=by simp;omega
   rw [hlen];rcases hx with hx | ⟨rfl,stE⟩
   ·simp [Ha] at hx
   cases loc with
   | none=>
    simp only [Cd] at h2;subst h2;simp only [List.length_nil] at g4;have:len.toNat=0:=by omega
    rw [this];simpa using nilc hr
   | some q=>
    obtain ⟨p,ver⟩:=q;have:=SS stE 1 _ _ hr;simp only [deref,K9,show S[p]?=_ from h2,if_pos,List.map_id'] at this;rw [Oz ls off.toNat len.toNat] at this;simp only [Rel] at this |-;rcases this with hz | ⟨b,o,c,q1,q2,q3,q4⟩
    ·exact .inl hz
    ·exact .inr ⟨b,o,c,q1,q2,q3,qq q4⟩
  ·cases h
 ·cases h
theorem cR (st3:Dn H TS S) {t:Ty} {x:TV} {a:T t} {y:AA} (h:P_ TS t x=some a) (hs:AE H x y) {E:Env} {fz fz':Nat->Prop} {w:World} {v:Value} (hfz: ∀b,fz b->fz' b)
  (hx:Ha x=true\/(fz'=frozen E fz S/\St E fz S w)) (hr:Rel E fz w y v):Rel E fz' w (DV t a) v:=by
 have up:Rel E fz' w y v:=hr.mono (fun _ _ h=>h) hfz (fun _ _=>rfl);cases t with
 | int k=>
  simp only [P_,cP] at h;split at h
  ·rename_i k' n hi;split at h<;>cases h;rename_i hk;have hk:=H7 hk;subst hk;rw [E9 hi hs] at up;exact up
  ·cases h
 | str=>
  simp only [P_] at h;unfold cQ at h;split at h<;>cases h;simp only [AE] at hs;subst hs;exact up
 | bool=>
  simp only [P_] at h;rw [VH h hs] at up;exact up
 | st fs=>
  simp only [P_] at h;unfold cT at h;split at h
  ·split at h<;>cases h;rename_i hd;simp only [AE] at hs;obtain ⟨xs,rfl,hs⟩:=hs;obtain ⟨zs,rfl,hz⟩:=L8 fs hd hs;simp only [AN] at hz;subst hz;rw [List.append_nil] at up;exact up
  ·cases h
 | sl e=>
  simp only [P_] at h;exact o_ st3 h hs hfz hx hr
theorem SQ (st3:Dn H TS S) {E:Env} {fz fz':Nat->Prop} {w:World} (hfz: ∀b,fz b->fz' b): ∀(ts:Ky) {xs:List TV} {a:Ts ts} {ys:List AA} {vs:List Value},PV TS ts xs=some a->AN H xs ys->
  (KA xs=true\/(fz'=frozen E fz S/\St E fz S w))->AZ E fz w ys vs->AZ E fz' w (F5 ts a) vs
 | .nil,xs,a,ys,vs,h,hs,hx,hr=>by
  unfold PV at h;split at h<;>cases h;simp only [AN] at hs;subst hs;simpa [F5,AZ] using hr
 | .cons t .nil,xs,a,ys,vs,h,hs,hx,hr=>by
  have h:o8 TS t xs=some a:=h;unfold o8 at h;split at h
  ·simp only [AN] at hs;obtain ⟨y,zs,rfl,h1,rfl⟩:=hs;simp only [AZ,F5] at hr |-;obtain ⟨v,us,rfl,r1,r2⟩:=hr;exact ⟨v,us,rfl,cR st3 h h1 hfz (hx.imp (fun q=>by simpa [KA] using q) id) r1,r2⟩
  ·cases h
 | .cons t (.cons u ts),[],a,ys,vs,h,hs,hx,hr=>by rw [PV] at h;cases h
 | .cons t (.cons u ts),x::xs,a,ys,vs,h,hs,hx,hr=>by
  rw [PV] at h;split at h<;>cases h;rename_i p q h1 h2;simp only [AN] at hs;obtain ⟨y,zs,rfl,s1,s2⟩:=hs;simp only [AZ,F5] at hr |-;obtain ⟨v,us,rfl,r1,r2⟩:=hr;refine ⟨v,us,rfl,cR st3 h1 s1 hfz (hx.imp (fun q=>?_) id) r1,SQ st3 hfz (.cons u ts) h2 s2 (hx.imp (fun q=>?_) id) r2⟩
  ·simp only [KA,Bool.and_eq_true] at q;exact q.1
  ·simp only [KA,Bool.and_eq_true] at q;exact q.2
theorem nP: ∀ {ys:List AA},EA ys=true->plain (MT ys)=true
 | [],_=>rfl
 | [x],h=>by simpa [EA,MT] using h
 | x::y::ys,h=>h
theorem eM (m:Nat): ∀ {ys:List AA},EA ys=true->EA (ys.map (uZ m))=true
 | [],_=>rfl
 | x::ys,h=>by
  simp only [EA,Bool.and_eq_true,List.map_cons] at*;refine ⟨?_,eM m h.2⟩;cases x<;>first | rfl | exact h.1
theorem j4 {P:Program} {f:FuncId} {ct:Ct} (hc:BV P f ct) (st3:Dn H TS S) {xs:List TV} {a:Ts ct.args} {ys:List AA} (hd:PV TS ct.args xs=some a) (hp:ct.pre a) (hs:AN H xs ys) (hf:(Pj ct.res || KA xs)=true)
  {K:AA->AB->Prop} (hk: ∀rs S',IQ ct.res (ct.fn a) S.length rs S'->K (MT rs) (S++S')):AV P f ys S K:=by
 have h:=hc.2 a hp;rw [Bool.or_eq_true] at hf;rcases hf with hf | hf
 ·refine h.uS (fun E fz w vals stE hr=>SQ st3 (fun b hb=>.inl hb) ct.args hd hs (.inr ⟨rfl,stE⟩) hr) fun r S' ⟨rs,hr,e⟩=>?_;subst e;have hr':=Rv S.length ct.res _ 0 hr;obtain ⟨g1,g2⟩:=PA ct.res _ 0 hf hr;rw [Nat.zero_add] at hr';exact ⟨_,qy S.length rs,nP (eM _ g1),g2,hk _ _ hr'⟩
 ·have h':AV P f ys [] (qw ct.res (ct.fn a)):=⟨fun E fz w vals stE hr=>h.out E fz w vals stE (SQ st3 (fun _ h=>h) ct.args hd hs (.inl hf) hr)⟩
  refine h'.aE fun r S' ⟨rs,hr,e⟩=>?_;subst e;have hr':=Rv S.length ct.res _ 0 hr;rw [Nat.zero_add] at hr';exact ⟨_,id,S',qy S.length rs,.refl,hk _ _ hr'⟩
theorem bJ {H:HF}: ∀ {xs:List TV} {ys:List AA},AN H xs ys->AE H (bH xs) (MT ys)
 | [],_,h=>by simp only [AN] at h;subst h;simp only [bH,MT,AE];exact ⟨[],rfl,by simp [AN]⟩
 | [x],_,h=>by
  simp only [AN] at h;obtain ⟨y,zs,rfl,h1,rfl⟩:=h;exact h1
 | x::x'::xs,ys,h=>by
  have hl:=h.length
  match ys,hl,h with
  | y::y'::ys,_,h=>simp only [bH,MT,AE];exact ⟨_,rfl,h⟩
theorem sL {P:Program} {f:FuncId} {ct:Ct} (hc:BV P f ct) (st3:Dn H TS S) {xs:List TV} {a:Ts ct.args} {ys:List AA} (hd:PV TS ct.args xs=some a) (hp:ct.pre a) (hs:AN H xs ys) (hf:(Pj ct.res || KA xs)=true)
  {K:AA->AB->Prop} (hk: ∀r S' H',Ug H H'->Dn H' (TS++(HH ct.res (ct.fn a) TS.length).2) S'->AE H' (bH (HH ct.res (ct.fn a) TS.length).1) r->K r S'):AV P f ys S K:=
 j4 hc st3 hd hp hs hf fun rs S' hr=>by
  obtain ⟨H',g1,g2,g3⟩:=Rw ct.res _ st3 hr;exact hk _ _ H' g1 g2 (bJ g3)
def Pc:(rs:List Nc)->Qn rs->List AA
 | [],_=>[]
 | .val t::rs,x=>DV t (oa (.val t) rs x)::Pc rs (oc (.val t) rs x)
 | .own t::rs,x=>Pc rs (oc (.own t) rs x)
theorem bf: ∀(rs:List Nc) (x:Qn rs) (n:Nat) {ys:List AA} {S:AB},Ld rs=true->IQ rs x n ys S->ys=Pc rs x/\S=[]
 | [],_,n,ys,S,_,h=>by simpa [IQ,Pc] using h
 | .val t::rs,x,n,ys,S,ha,h=>by
  simp only [IQ] at h;obtain ⟨ys',rfl,h⟩:=h;obtain ⟨e1,e2⟩:=bf rs _ n (by simpa [Ld] using ha) h;exact ⟨by rw [e1];rfl,e2⟩
 | .own t::rs,x,n,ys,S,ha,h=>by simp [Ld] at ha
theorem lG {H:HF}: ∀(rs:List Nc) (x:Qn rs) (n:Nat),Ld rs=true->AN H (HH rs x n).1 (Pc rs x)
 | [],_,n,_=>by simp [HH,Pc,AN]
 | .val t::rs,x,n,ha=>by
  rw [ZB];simp only [Pc,AN];exact ⟨_,_,rfl,VV _ _,lG rs _ n (by simpa [Ld] using ha)⟩
 | .own t::rs,x,n,ha=>by simp [Ld] at ha
theorem j3 {P:Program} {f:FuncId} {ct:Ct} (hc:BV P f ct) (st3:Dn H TS S) {xs:List TV} {a:Ts ct.args} {ys:List AA} (hd:PV TS ct.args xs=some a) (hp:ct.pre a) (hs:AN H xs ys) (hf:(Pj ct.res || KA xs)=true)
  (hv:Ld ct.res=true): ∃r0,AE H (bH (HH ct.res (ct.fn a) 0).1) r0/\AV P f ys S (fun r S'=>r=r0/\S'=S):=
 ⟨MT (Pc ct.res (ct.fn a)),bJ (lG _ _ _ hv),j4 hc st3 hd hp hs hf fun rs S' hr=>by
  obtain ⟨e1,e2⟩:=bf _ _ _ hv hr;subst e1;subst e2;exact ⟨rfl,by simp⟩⟩
end
end Go.Vc
end
