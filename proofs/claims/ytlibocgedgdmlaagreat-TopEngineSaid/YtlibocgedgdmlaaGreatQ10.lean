/- Part of the proof of topEngine_holds: the whole is true of every input. Conditions: none. -/
import Derived.Test.YtlibocgedgdmlaaGreatQ9
import Derived.Laws.IdiomCopy
import Derived.WalkKit
import Derived.Shelf.RegionOpenPlain
import Derived.Lib.Walk
import Derived.Laws.Shifts
import Derived.Shelf.SlSortCmp.QuietGrown
import Derived.Deep.Draws
import Derived.Sort.Walk0
set_option linter.all false
section
namespace Go.Fu
open Go.Vc
noncomputable section
abbrev vz:Type:=Int×Int×List Int
abbrev vV:Ty:= .st (.cons tI (.cons tI (.cons (.sl tI) .nil)))
def Jv (c:vz) (size:Int):BW:=(AS c.1 (size+1),AS c.2.1 (min (size-AS c.1 (size+1)) 12+1),Gb c.2.2 8)
abbrev eY (x:vz×Int):Prop:=AH x.1.1/\AH x.1.2.1/\(∀i∈x.1.2.2,AH i)/\0<=x.2/\x.2<=600
def F4:Ct:=⟨Mg vV tI,[.val TJ],fun x=>eY x,fun x=>Jv x.1 x.2⟩
end
theorem XV (s:Bytes): ∀lo:Nat,∃r:Int,0<=r/\r<=lo/\(∀j,r<=j->j<(lo:Int)->gt s j≠10)/\(0<r->gt s (r-1)=10)
 | 0=>⟨0,by omega,by omega,fun j h1 h2=>by omega,fun h=>by omega⟩
 | lo+1=>by
  by_cases c:gt s (lo:Int)=10
  ·exact ⟨((lo+1:Nat):Int),by omega,by omega,fun j h1 h2=>by omega,fun _=>by rw [show ((lo+1:Nat):Int)-1=lo by omega];exact c⟩
  ·obtain ⟨r,h0,h1,h2,h3⟩:=XV s lo;refine ⟨r,h0,by omega,fun j a b=>?_,h3⟩;by_cases e:j=lo
   ·rw [e];exact c
   ·exact h2 j a (by omega)
theorem ix (s:Bytes): ∀(n:Nat) (hi:Int),0<=hi->hi+n=s.length-> ∃r,kY s hi r
 | 0,hi,h0,h=>⟨hi,by omega,by omega,fun j a b=>by omega,fun q=>by omega⟩
 | n+1,hi,h0,h=>by
  by_cases c:gt s hi=10
  ·exact ⟨hi+1,by omega,by omega,fun j a b=>by omega,fun _=>⟨by omega,by rw [show hi+1-1=hi by omega];exact c⟩⟩
  ·obtain ⟨r,h1,h2,h3,h4⟩:=ix s n (hi+1) (by omega) (by omega);refine ⟨r,by omega,h2,fun j a b=>?_,fun q=>?_⟩
   ·by_cases e:j=hi
    ·rw [e];exact c
    ·exact h3 j (by omega) b
   ·rcases q with q | q
    ·have:=h4 (.inl q);exact ⟨by omega,this.2⟩
    ·exact q
theorem sE {a n:Int} (h:0<n):0<=AS a n/\AS a n<n:=⟨Int.emod_nonneg a (by omega),Int.emod_lt_of_pos a h⟩
theorem Un {s put:Bytes} {k cut j:Int} (h0:0<=k) (h1:k<=s.length) (j0:0<=j) (j1:j<k):gt (AV s (k,cut,put)) j=gt s j:=by
 unfold AV;simp only;have hl:(s.take k.toNat).length=k.toNat:=by rw [List.length_take];omega
 rw [List.append_assoc,D8 j0 (by omega),NQ j0 (by omega),NQ j0 (by omega),List.getElem_take]
theorem Wy {s put:Bytes} {k cut:Int} (h0:0<=k) (h1:k<=s.length) (h2:0<=cut) (h3:cut<=s.length-k) (i:Nat):(AV s (k,cut,put)).drop ((k+put.length).toNat+i)=s.drop ((k+cut).toNat+i):=by
 unfold AV;simp only;have hl:(s.take k.toNat++put).length=(k+put.length).toNat:=by rw [List.length_append,List.length_take];omega
 rw [<-hl,List.drop_length_add_append,List.drop_drop]
theorem Pc {s put:Bytes} {k cut j:Int} (h0:0<=k) (h1:k<=s.length) (h2:0<=cut) (h3:cut<=s.length-k) (j0:k+cut<=j) (j1:j<s.length):gt (AV s (k,cut,put)) (j-cut+put.length)=gt s j:=by
 have e:=Wy (put:=put) h0 h1 h2 h3 (j-k-cut).toNat;have a:(k+cut).toNat+(j-k-cut).toNat=j.toNat:=by omega
 have b:(k+put.length).toNat+(j-k-cut).toNat=(j-cut+put.length).toNat:=by omega
 rw [a,b] at e;have x:=congrArg (·[0]?) e;simp only [List.getElem?_drop,Nat.add_zero] at x;have y:=Ka (l:=s) (i:=j) (by omega) j1;have hl:(AV s (k,cut,put)).length=s.length-cut+put.length:=by
  unfold AV;simp only [List.length_append,List.length_take,List.length_drop];omega
 have z:=Ka (l:=AV s (k,cut,put)) (i:=j-cut+put.length) (by omega) (by omega);rw [y,z] at x;exact Option.some.inj x
theorem gT {size:Int} {e:BW} (hs:0<=size) (hs1:size<=600) (hf:BO size e=0): ∃l,Mc size [] e=(l,0)/\(0<(l.length:Int)↔e.2.2≠[]):=by
 have ok:RD size []:=⟨hs,by omega,by simp,trivial⟩
 obtain ⟨m1,m2,m3,m4,m5,m6,m7⟩:=Bb.1 (show Bz size e from hf);have hP:Db (Pm [] e) (if e.2.2=[] then [] else [(e.1,e.1+e.2.2.length)]):=by
  by_cases p:e.2.2=[]
  ·rw [if_pos p];refine ⟨trivial,fun i=>?_⟩;refine ⟨fun h=>absurd h (DP _),fun h=>?_⟩;exfalso;rcases h with ⟨j,h,_⟩ | h
   ·exact DP _ h
   ·rw [p] at h;simp at h;omega
  ·rw [if_neg p];have:0<e.2.2.length:=List.length_pos_iff.2 p;refine ⟨⟨by show (-1:Int)<e.1;omega,by show e.1<_;omega,by show e.1+_<=(_:Int);omega,trivial⟩,fun i=>?_⟩;rw [Ef];refine ⟨fun h=>.inr h,fun h=>?_⟩;rcases h with ⟨j,h,_⟩ | h
   ·exact absurd h (DP _)
   ·exact h
 refine ⟨Dt [] e,?_,?_⟩
 ·rw [ZZ ok hf];unfold SD Dt;rw [LM hP,if_neg];split<;>simp
 ·unfold Dt;rw [LM hP];split<;>simp_all
theorem CM {s put:Bytes} {k cut:Int} (hs:s.length<=100) (h0:0<=k) (h1:k<=s.length) (h2:0<=cut) (h3:cut<=s.length-k) (h4:put.length<=8):
  ∃t l w o,W0 s [(k,cut,put)]=(t,0)/\t.length<=108/\Mc s.length [] (k,cut,put)=(l,0)/\(0<(l.length:Int)↔put≠[])/\Md t (k,k+put.length)=(w,0)/\Md s (k,k+cut)=(o,0)/\
   (0<=o.1/\o.1<=s.length)/\(0<=w.1/\w.1<=t.length)/\(0<=o.2/\o.2<=s.length)/\(0<=w.2/\w.2<=t.length)/\t.take w.1.toNat=s.take o.1.toNat/\t.drop w.2.toNat=s.drop o.2.toNat:=by
 have hf:BO s.length (k,cut,put)=0:=Bb.2 ⟨by omega,by omega,h0,h1,h2,h3,by simp only;omega⟩;have hc:OE s [(k,cut,put)]=0:=by
  unfold OE;rw [if_neg (by simp;omega)];simp only [Cl];rw [if_neg (by rw [hf];simp)]
 have hl:((AV s (k,cut,put)).length:Int)=s.length-cut+put.length:=by
  unfold AV;simp only [List.length_append,List.length_take,List.length_drop];omega
 obtain ⟨l,e1,e2⟩:=gT (size:=s.length) (e:=(k,cut,put)) (by omega) (by omega) hf;obtain ⟨r,r0,r1,r2,r3⟩:=XV s k.toNat;have kk:((k.toNat:Nat):Int)=k:=by omega
 rw [kk] at r1 r2;obtain ⟨q,hq⟩:=ix s (s.length-(k+cut).toNat) (k+cut) (by omega) (by omega);have a1:=XU ⟨r0,r1,r2,r3⟩;have a2:Y4 (AV s (k,cut,put)) k=r:=XU ⟨r0,r1,fun j b1 b2=>by rw [Un h0 h1 (by omega) b2];exact r2 j b1 b2,fun b=>by rw [Un h0 h1 (by omega) (by omega)];exact r3 b⟩;have a3:=XT hq;obtain ⟨q0,q1,q2,q3⟩:=hq;have a4:fY (AV s (k,cut,put)) (k+put.length)=q-cut+put.length:=by
  refine XT ⟨by omega,by omega,fun j b1 b2=>?_,fun b=>?_⟩
  ·have:=Pc (put:=put) (j:=j+cut-put.length) h0 h1 h2 h3 (by omega) (by omega);rw [show j+cut-(put.length:Int)-cut+put.length=j by omega] at this;rw [this];exact q2 _ (by omega) (by omega)
  ·have h5:q<s.length\/k+cut<q/\gt s (q-1)=10:=by
    rcases b with b | b
    ·exact .inl (by omega)
    ·refine .inr ⟨by omega,?_⟩;have:=Pc (put:=put) (j:=q-1) h0 h1 h2 h3 (by omega) (by omega);rw [<-this,show q-1-cut+(put.length:Int)=q-cut+put.length-1 by omega];exact b.2
   obtain ⟨c1,c2⟩:=q3 h5;refine ⟨by omega,?_⟩;have:=Pc (put:=put) (j:=q-1) h0 h1 h2 h3 (by omega) (by omega);rw [show q-cut+(put.length:Int)-1=q-1-cut+put.length by omega,this];exact c2
 refine ⟨AV s (k,cut,put),l,(r,q-cut+put.length),(r,q),?_,by omega,e1,e2,?_,?_,⟨r0,by show r<=_;omega⟩,⟨r0,by show r<=_;omega⟩,⟨by show 0<=q;omega,q1⟩,⟨by show 0<=q-cut+_;omega,by show q-cut+_<=_;omega⟩,?_,?_⟩
 ·unfold W0 YY;rw [if_pos hc];rfl
 ·unfold Md Zn;rw [if_neg (by omega),if_neg (by simp only;omega)];simp only [a2,a4]
 ·unfold Md Zn;rw [if_neg (by omega),if_neg (by simp only;omega)];simp only [a1,a3]
 ·show (AV s (k,cut,put)).take r.toNat=s.take r.toNat;unfold AV;simp only;rw [List.append_assoc,List.take_append_of_le_length (by rw [List.length_take];omega),List.take_take,Nat.min_eq_left (by omega)]
 ·show (AV s (k,cut,put)).drop (q-cut+put.length).toNat=s.drop q.toNat;have:=Wy (put:=put) h0 h1 h2 h3 (q-k-cut).toNat;rw [show (k+(put.length:Int)).toNat+(q-k-cut).toNat=(q-cut+put.length).toNat by omega,show (k+cut).toNat+(q-k-cut).toNat=q.toNat by omega] at this;exact this
end Go.Fu
end
section
namespace Go.Fu
open Go.Vc
theorem Up {a:Int} (h0:0<=a) (h1:a<=9223372036854775807):(IntKind.u64.wrap a).fdiv (2 ^ min (Int.toNat 1) IntKind.u64.bits)=a/2:=by
 have e:IntKind.u64.wrap a=a:=by simp [IntKind.wrap,IntKind.bits,IntKind.signed];omega
 rw [e];have:((2:Int) ^ min (Int.toNat 1) IntKind.u64.bits)=2:=by decide
 rw [this,Int.fdiv_eq_ediv_of_nonneg _ (by omega)]
theorem OX {l:List Int} (h: ∀i,0<i->i<(l.length:Int)->gt l (i-1)<gt l i) {i j:Int} (h0:0<=i) (h1:i<j) (h2:j<l.length):gt l i<gt l j:=by
 have: ∀n:Nat,i+1+n<l.length->gt l i<gt l (i+1+n):=by
  intro n
  induction n with
  | zero=>intro hn;have:=h (i+1) (by omega) (by omega);simpa using this
  | succ n ih=>
   intro hn;have a:=ih (by omega);have b:=h (i+1+((n+1:Nat):Int)) (by omega) (by omega);rw [show i+1+((n+1:Nat):Int)-1=i+1+n by omega] at b;omega
 have:=this (j-i-1).toNat (by omega);rwa [show i+1+((j-i-1).toNat:Int)=j by omega] at this
theorem Mw {l:List Int} {a:Int}: ∀ {n:Int},0<=n->n<=l.length->(∀i,0<=i->i<n->gt l i<=a)->(n<l.length->a<gt l n)->((l.takeWhile fun x=>decide (x<=a)).length:Int)=n:=by
 induction l with
 | nil=>intro n h0 h1 _ _;simp at h1 |-;omega
 | cons x l ih=>
  intro n h0 h1 h2 h3;by_cases e:n=0
  ·subst e;have:=h3 (by simp);rw [QY] at this;rw [List.takeWhile_cons,if_neg (by simp;omega)];rfl
  ·have hx:=h2 0 (by omega) (by omega);rw [QY] at hx;rw [List.takeWhile_cons,if_pos (by simpa using hx),List.length_cons];have:=ih (n:=n-1) (by omega) (by simp at h1;omega) (fun i a b=>by have:=h2 (i+1) (by omega) (by omega);rwa [Sk (by omega),show i+1-1=i by omega] at this) (fun h=>by have:=h3 (by simp;omega);rwa [Sk (by omega)] at this);omega
theorem kx {l:List Int} {a n:Int} (h0:0<=n) (h1:n<=l.length) (h2: ∀i,0<=i->i<n->gt l i<=a) (h3:n<l.length->a<gt l n):U_ l a=n-1:=by
 unfold U_;rw [Mw h0 h1 h2 h3]
end Go.Fu
end
section
namespace Go.Fu
open Go.Vc
noncomputable section
theorem EI: ∀(a b:Bytes) (i:Int),AQ i (a++b)=AQ i a++AQ (i+a.length) b
 | [],b,i=>by simp [AQ]
 | c::a,b,i=>by
  simp only [List.cons_append,AQ,EI a b,List.length_cons];rw [show i+1+(a.length:Int)=i+((a.length+1:Nat):Int) by omega];split<;>simp
theorem Ln: ∀(s:Bytes) (i d:Int),AQ (i+d) s=(AQ i s).map (· +d)
 | [],i,d=>by simp [AQ]
 | c::s,i,d=>by
  have:=Ln s (i+1) d;simp only [AQ];rw [show i+d+1=i+1+d by omega,this];split
  ·simp
  ·rfl
theorem Dp: ∀(s:Bytes) (i x:Int),x∈AQ i s->i<x/\x<=i+s.length
 | [],i,x,h=>by simp [AQ] at h
 | c::s,i,x,h=>by
  simp only [AQ] at h;have:x=i+1\/x∈AQ (i+1) s:=by
   split at h
   ·simpa using h
   ·exact .inr h
  simp only [List.length_cons];rcases this with e | e
  ·omega
  ·have:=Dp s (i+1) x e;omega
theorem PG {a b:List Int} {n:Int} (ha: ∀x∈a,x<=n) (hb: ∀x∈b,n<x):((a++b).takeWhile fun x=>decide (x<=n))=a/\((a++b).dropWhile fun x=>decide (x<=n))=b:=by
 induction a with
 | nil=>
  cases b with
  | nil=>simp
  | cons x b=>
   have:=hb x (by simp);simp [List.takeWhile,List.dropWhile,show ¬x<=n by omega]
 | cons x a ih=>
  have h1:=ha x (by simp);obtain ⟨i1,i2⟩:=ih fun y hy=>ha y (by simp [hy]);simp [List.takeWhile,List.dropWhile,h1,i1,i2]
def Eg (l:List Int) (e:BW):List Int:=
 (l.takeWhile fun x=>decide (x<=e.1))++AQ e.1 e.2.2++(l.dropWhile fun x=>decide (x<=e.1+e.2.1)).map (· +((e.2.2.length:Int)-e.2.1))
theorem Wh {s:Bytes} {e:BW} (h:Bz s.length e):Aa (AV s e)=Eg (Aa s) e:=by
 have m:=Bb.1 h;have split1: ∀k:Int,0<=k->k<=s.length->Aa s=(0::AQ 0 (s.take k.toNat))++AQ k (s.drop k.toNat):=fun k h0 h1=>by
  have:s=s.take k.toNat++s.drop k.toNat:=(List.take_append_drop _ _).symm;simp only [Aa];rw [this,EI,<-this];simp only [List.length_take,Int.zero_add,List.cons_append];rw [show ((min k.toNat s.length:Nat):Int)=k by omega]
 have cut: ∀k:Int,0<=k->k<=s.length->((Aa s).takeWhile fun x=>decide (x<=k))=0::AQ 0 (s.take k.toNat)/\((Aa s).dropWhile fun x=>decide (x<=k))=AQ k (s.drop k.toNat):=fun k h0 h1=>by
  rw [split1 k h0 h1];refine PG (fun x hx=>?_) fun x hx=>(Dp _ _ _ hx).1;simp only [List.mem_cons] at hx;rcases hx with hx | hx
  ·omega
  ·have:=(Dp _ _ _ hx).2;simp only [List.length_take] at this;omega
 unfold Eg;rw [(cut e.1 (by omega) (by omega)).1,(cut (e.1+e.2.1) (by omega) (by omega)).2,<-Ln];simp only [Aa,AV,EI,List.length_append,List.length_take,Int.zero_add,List.cons_append];rw [show ((min e.1.toNat s.length:Nat):Int)=e.1 by omega,show ((min e.1.toNat s.length+e.2.2.length:Nat):Int)=e.1+e.2.1+((e.2.2.length:Int)-e.2.1) by omega]
theorem dN {l:List Int} (h: ∀i:Int,0<i->i<(l.length:Int)->gt l (i-1)<gt l i):l.Pairwise (· < ·):=by
 rw [List.pairwise_iff_getElem];intro i j hi hj hij;have:=OX h (i:=i) (j:=j) (by omega) (by omega) (by omega);rwa [LP hi,LP hj] at this
abbrev Zk (e:BW):Prop:=0<=e.1/\e.1<=600/\0<=e.2.1/\e.2.1<=600/\e.2.2.length<=1200
def Cj:Ct:=⟨Mg (.sl tI) TJ,[.own tI],fun x=>Eh x.1/\JE x.1/\Zk x.2,fun x=>Eg x.1 x.2⟩
abbrev R_ (l:List Int):Prop:=l.Pairwise (· < ·)
def Cd (l:List Int) (n:Int):Int:=((l.takeWhile fun y=>decide (y<n)).length:Int)
def EG:Ct:=⟨Mg (.sl tI) tI,[.val tI],fun x=>JE x.1/\R_ x.1,fun x=>Cd x.1 x.2⟩
theorem Nr (l:List Int) (n:Int):Cd l (n+1)=((l.takeWhile fun y=>decide (y<=n)).length:Int):=by
 unfold Cd;congr 3;funext y;simp only [decide_eq_decide];omega
theorem Xw (l:List Int) (n:Int):0<=Cd l n/\Cd l n<=l.length:=by
 unfold Cd;have:=congrArg List.length (List.takeWhile_append_dropWhile (p:=fun y=>decide (y<n)) (l:=l));rw [List.length_append] at this;omega
theorem dF (l:List Int) (n:Int):l.take (Cd l (n+1)).toNat=l.takeWhile fun y=>decide (y<=n):=by
 rw [Nr,Int.toNat_natCast];have:=List.takeWhile_append_dropWhile (p:=fun y=>decide (y<=n)) (l:=l)
 calc l.take (l.takeWhile fun y=>decide (y<=n)).length=(l.takeWhile (fun y=>decide (y<=n))++l.dropWhile fun y=>decide (y<=n)).take (l.takeWhile fun y=>decide (y<=n)).length:=by rw [this]
  _=_:=List.take_left
theorem dE (l:List Int) (n:Int):l.drop (Cd l (n+1)).toNat=l.dropWhile fun y=>decide (y<=n):=by
 rw [Nr,Int.toNat_natCast];have:=List.takeWhile_append_dropWhile (p:=fun y=>decide (y<=n)) (l:=l)
 calc l.drop (l.takeWhile fun y=>decide (y<=n)).length=(l.takeWhile (fun y=>decide (y<=n))++l.dropWhile fun y=>decide (y<=n)).drop (l.takeWhile fun y=>decide (y<=n)).length:=by rw [this]
  _=_:=List.drop_left
theorem dD {l:List Int} {n i:Int} (h0:0<=i) (h1:i<=l.length) (h2: ∀k,0<=k->k<i->gt l k<n) (h3:i<l.length->n<=gt l i):Cd l n=i:=by
 have:=Nr l (n-1);rw [show n-1+1=n by omega] at this;rw [this,Mw h0 h1 (fun k a b=>by have:=h2 k a b;omega) fun t=>by have:=h3 t;omega]
theorem ZM {l:List Int} (h:l.Pairwise (· < ·)) {i j:Int} (h0:0<=i) (h1:i<j) (h2:j<l.length):gt l i<gt l j:=by
 rw [List.pairwise_iff_getElem] at h;rw [NQ h0 (by omega),NQ (by omega) h2];exact h _ _ (by omega) (by omega) (by omega)
theorem Xz {l:List Int} (h:Eh l) {i:Int} (h0:0<=i) (h1:i<l.length):i<=gt l i/\gt l i<=600:=by
 obtain ⟨a1,a2,a3,a4⟩:=h;have lo: ∀n:Nat,(n:Int)<l.length->(n:Int)<=gt l n:=by
  intro n
  induction n with
  | zero=>intro _;rw [show ((0:Nat):Int)=0 from rfl,a2];omega
  | succ n ih=>
   intro hn;have:=ih (by omega);have:=a3 ((n+1:Nat):Int) (by omega) hn;rw [show ((n+1:Nat):Int)-1=n by omega] at this;omega
 have:=lo i.toNat (by omega);rw [show ((i.toNat:Nat):Int)=i by omega] at this;refine ⟨this,?_⟩;rcases Int.lt_or_le i ((l.length:Int)-1) with c | c
 ·have:=OX a3 (i:=i) (j:=(l.length:Int)-1) h0 c (by omega);omega
 ·rw [show i=(l.length:Int)-1 by omega];exact a4
theorem Pt {l:List Int} (h:Eh l):l.length<=601:=by
 have:=List.length_pos_iff.2 h.1;have:=Xz h (i:=(l.length:Int)-1) (by omega) (by omega);omega
theorem Vt {l:List Int} (h:Eh l) {x:Int} (hx:x∈l):0<=x/\x<=600:=by
 obtain ⟨j,j0,j1,rfl⟩:=Rz hx;have:=Xz h j0 j1;omega
end
end Go.Fu
end
section
namespace Go.Fu
open Go.Vc
noncomputable section
def Xi (s:Bytes) (at_:Int):(Int×Int×Int)×Int:=if at_<0\/(s.length:Int)<at_ then ((0,0,0),2) else (posOf (s.take at_.toNat),0)
theorem cZ (s:Bytes):(posOf s).2.1=(s.count 10:Int):=by
 induction s using Nw with
 | h0=>simp [posOf]
 | h1 s c ih=>
  rw [IP,List.count_append,List.count_singleton];simp only [Hs,beq_iff_eq];split<;>simp only<;>omega
theorem gK {s:Bytes} (h: ∀j:Int,0<=j->j<s.length->gt s j≠10):(posOf s).2.2=s.length:=by
 have:=Ph (s:=s) (i:=0) (by omega) s.length (by omega) fun j a b=>h j a (by omega);rw [List.take_of_length_le (by omega)] at this;rw [this];simp [posOf]
theorem gI {s:Bytes} {i:Int} (h0:0<=i) (h1:i<s.length) (h:gt s i=10) (hn: ∀j:Int,i<j->j<s.length->gt s j≠10):(posOf s).2.2=s.length-i-1:=by
 have:=Ph (s:=s) (i:=i+1) (by omega) (s.length-i-1).toNat (by omega) fun j a b=>hn j (by omega) (by omega);rw [List.take_of_length_le (by omega),Pj h0 h1] at this;rw [this];simp only [Hs,if_pos h];omega
theorem sU {c:UInt8}:(c.toNat:Int)=10↔c=10:=by
 rw [<-UInt8.toNat_inj];simp only [UInt8.reduceToNat];omega
end
end Go.Fu
end
section
namespace Go.Fu
open Go.Vc
abbrev Eo:=List BW×List BW
structure CJ where
 text:Bytes
 BD:List Eo
 Dc:List Eo
 P0:Bool
def IW (l:List Eo):List Eo:=if 20<l.length then l.drop 1 else l
def Bj (l:List Eo):Eo:=l.getLastD ([],[])
def Ia (l:List Eo) (x b:BW):List Eo:=l.dropLast++[((Bj l).1++[x],(Bj l).2++[b])]
def Ey (h:CJ):List Eo:=if h.P0=true then h.BD else IW (h.BD++[([],[])])
def E9 (h:CJ) (x:BW):CJ:=⟨AV h.text x,Ia (Ey h) x (Bt h.text x),[],true⟩
def Uo (h:CJ):CJ:=⟨AY h.text (Bj h.BD).2.reverse,h.BD.dropLast,h.Dc++[Bj h.BD],false⟩
def Sm (h:CJ):CJ:=⟨AY h.text (Bj h.Dc).1,h.BD++[Bj h.Dc],h.Dc.dropLast,false⟩
abbrev EM:=Int×BW
def C5 (h:CJ) (d:EM):CJ×Int:=
 if d.1=1 then (if BO h.text.length d.2≠0 then (h,BO h.text.length d.2) else (E9 h d.2,0))
 else if d.1=2 then (⟨h.text,h.BD,h.Dc,false⟩,0)
 else if d.1=3 then (if h.BD=[] then (h,7) else (Uo h,0))
 else if d.1=4 then (if h.Dc=[] then (h,7) else (Sm h,0))
 else (h,3)
def Dh (h:CJ) (d:EM):List BW:=
 if d.1=1 then (if BO h.text.length d.2≠0 then [] else [d.2])
 else if d.1=3 then (if h.BD=[] then [] else (Bj h.BD).2.reverse)
 else if d.1=4 then (if h.Dc=[] then [] else (Bj h.Dc).1) else []
def KS (h:CJ) (l:List EM):CJ:=l.foldl (fun h d=>(C5 h d).1) h
def ET (h:CJ):List EM->List Bytes
 | []=>[]
 | d::l=>(C5 h d).1.text::ET (C5 h d).1 l
def Fy (h:CJ):List EM->List Int
 | []=>[]
 | d::l=>(C5 h d).2::Fy (C5 h d).1 l
def Dy (s:Bytes):CJ:=⟨s,[],[],false⟩
theorem Ja (h:CJ) (l:List EM) (d:EM):KS h (l++[d])=(C5 (KS h l) d).1:=by simp [KS]
theorem NR: ∀(l:List EM) (h:CJ) (d:EM),ET h (l++[d])=ET h l++[(KS h (l++[d])).text]
 | [],h,d=>rfl
 | x::l,h,d=>by simp only [List.cons_append,ET];rw [NR l _ d];rfl
theorem Sl: ∀(l:List EM) (h:CJ) (d:EM),Fy h (l++[d])=Fy h l++[(C5 (KS h l) d).2]
 | [],h,d=>rfl
 | x::l,h,d=>by simp only [List.cons_append,Fy];rw [Sl l _ d];rfl
theorem II: ∀(l:List EM) (h:CJ),(ET h l).length=l.length
 | [],h=>rfl
 | x::l,h=>by simp [ET,II l]
theorem Pd: ∀(l:List EM) (h:CJ),(Fy h l).length=l.length
 | [],h=>rfl
 | x::l,h=>by simp [Fy,Pd l]
theorem k_ {s:Bytes} {e:BW} (h:Bz s.length e):AV (AV s e) (Bt s e)=s/\Bz (AV s e).length (Bt s e):=by
 have hl:=CN h;have m:=Bb.1 h;have d1:((s.take (e.1+e.2.1).toNat).drop e.1.toNat).length=e.2.1.toNat:=by simp only [List.length_drop,List.length_take];omega
 refine ⟨?_,?_⟩
 ·unfold AV Bt;simp only;have t1:(s.take e.1.toNat++e.2.2++s.drop (e.1+e.2.1).toNat).take e.1.toNat=s.take e.1.toNat:=by
   rw [List.append_assoc,List.take_append_of_le_length (by simp;omega),List.take_of_length_le (by simp;omega)]
  have t2:(s.take e.1.toNat++e.2.2++s.drop (e.1+e.2.1).toNat).drop (e.1+(e.2.2.length:Int)).toNat=s.drop (e.1+e.2.1).toNat:=by
   rw [List.drop_append_of_le_length (by simp;omega),List.drop_of_length_le (by simp;omega),List.nil_append]
  rw [t1,t2];have t3:s.take e.1.toNat++(s.take (e.1+e.2.1).toNat).drop e.1.toNat=s.take (e.1+e.2.1).toNat:=by
   have:=List.take_append_drop e.1.toNat (s.take (e.1+e.2.1).toNat);rw [List.take_take,show min e.1.toNat (e.1+e.2.1).toNat=e.1.toNat by omega] at this;exact this
  rw [t3,List.take_append_drop]
 ·rw [Bb];unfold Bt;simp only [d1];omega
theorem CE {n:Int} {e:BW} {l:List BW}:Cl n (e::l)=0↔Bz n e/\Cl (n-e.2.1+e.2.2.length) l=0:=by
 simp only [Cl,Bz];constructor
 ·intro h;split at h
  ·rename_i c;exact absurd h c
  ·rename_i c;exact ⟨Classical.byContradiction c,h⟩
 ·rintro ⟨a,b⟩;rw [if_neg (by simpa using a)];exact b
theorem Ig {e:BW}: ∀ {l:List BW} {s:Bytes},Cl s.length (l++[e])=0↔Cl s.length l=0/\Bz (AY s l).length e
 | [],s=>by rw [List.nil_append,CE];simp [AY,Cl]
 | x::l,s=>by
  rw [List.cons_append,CE,CE];simp only [AY];constructor
  ·rintro ⟨a,b⟩;rw [<-CN a] at b;rw [<-CN a];have:=(Ig (e:=e) (l:=l) (s:=AV s x)).1 b;exact ⟨⟨a,this.1⟩,this.2⟩
  ·rintro ⟨⟨a,b⟩,c⟩;rw [<-CN a] at b;rw [<-CN a];exact ⟨a,Ig.2 ⟨b,c⟩⟩
theorem ME: ∀ {l:List BW} {s:Bytes},Cl s.length l=0->s.length<=600->(AY s l).length<=600
 | [],s,_,h=>h
 | x::l,s,h,hs=>by
  obtain ⟨a,b⟩:=CE.1 h;rw [<-CN a] at b;have:=Bb.1 a;have:=CN a;exact ME (l:=l) (s:=AV s x) b (by omega)
def J3 (t:Bytes):List Eo->List Bytes
 | []=>[]
 | g::gs=>AY t g.2.reverse::J3 (AY t g.2.reverse) gs
def kV (t:Bytes):List Eo->List Bytes
 | []=>[]
 | g::gs=>AY t g.1::kV (AY t g.1) gs
def qM (t:Bytes):List Eo->Prop
 | []=>True
 | g::gs=>Cl t.length g.2.reverse=0/\Cl (AY t g.2.reverse).length g.1=0/\AY (AY t g.2.reverse) g.1=t/\qM (AY t g.2.reverse) gs
def okF (t:Bytes):List Eo->Prop
 | []=>True
 | g::gs=>Cl t.length g.1=0/\Cl (AY t g.1).length g.2.reverse=0/\AY (AY t g.1) g.2.reverse=t/\okF (AY t g.1) gs
def Mt (h:CJ):List Bytes:=(J3 h.text h.BD.reverse).reverse
def tz (h:CJ):List Bytes:=kV h.text h.Dc.reverse
def Rr (h:CJ):List Bytes:=Mt h++h.text::tz h
structure Gd (n:Nat) (h:CJ):Prop where
 cN:qM h.text h.BD.reverse
 ui:okF h.text h.Dc.reverse
 len:h.text.length<=600
 P0:h.P0=true->h.BD≠[]
 all:h.BD.length+h.Dc.length<=20
 mT: ∀g∈h.BD++h.Dc,g.1.length<=n/\g.2.length<=n
theorem Nf: ∀(l:List Eo) (t:Bytes),J3 t l.dropLast=(J3 t l).dropLast
 | [],_=>rfl
 | [g],_=>rfl
 | g::g'::l,t=>by
  have:=Nf (g'::l) (AY t g.2.reverse);simp only [List.dropLast_cons_cons,J3] at this |-;rw [this]
theorem Qu: ∀(l:List Eo) (t:Bytes),qM t l->qM t l.dropLast
 | [],_,h=>h
 | [g],_,h=>trivial
 | g::g'::l,t,h=>by
  have:=Qu (g'::l) _ h.2.2.2;exact ⟨h.1,h.2.1,h.2.2.1,this⟩
theorem EH {l:List Eo} (h:l≠[]):l=l.dropLast++[Bj l]:=by
 unfold Bj;have:=List.dropLast_concat_getLast h;rw [List.getLastD_eq_getLast?,List.getLast?_eq_some_getLast h];exact this.symm
theorem MH (l:List Eo) (g:Eo):Bj (l++[g])=g:=by simp [Bj]
theorem LU {l:List Eo} (h:l≠[]):Bj l∈l:=by
 have:=List.mem_append_right l.dropLast (List.mem_singleton.2 rfl:Bj l∈[Bj l]);rwa [<-EH h] at this
theorem Gd.new {s:Bytes} (h:s.length<=600):Gd 0 (Dy s):=⟨trivial,trivial,h,by simp [Dy],by simp [Dy],by simp [Dy]⟩
theorem YG (l:List Eo) (g:Eo) (x b:BW):Ia (IW (l++[g])) x b=IW (l++[(g.1++[x],g.2++[b])]):=by
 unfold IW;by_cases h:20<(l++[g]).length
 ·rw [if_pos h,if_pos (by simpa using h)]
  match l,h with
  | [],h=>simp at h
  | a::l,_=>simp [Ia,MH]
 ·rw [if_neg h,if_neg (by simpa using h)];simp [Ia,MH]
theorem lA {n:Nat} {h:CJ} {x:BW} (i:Gd n h) (hx:Bz h.text.length x):
  (h.P0=true->qM (E9 h x).text (E9 h x).BD.reverse/\Mt (E9 h x)=Mt h/\(E9 h x).BD.length=h.BD.length)/\
  (h.P0=false->qM (E9 h x).text (E9 h x).BD.reverse/\Mt (E9 h x)=(if 20<h.BD.length+1 then (Mt h++[h.text]).drop 1 else Mt h++[h.text])/\(E9 h x).BD.length=(if 20<h.BD.length+1 then h.BD.length else h.BD.length+1)):=by
 obtain ⟨mu,mm⟩:=k_ hx;constructor
 ·intro ho;have hn:=i.P0 ho;have hs:=EH hn;have e1:(E9 h x).BD=h.BD.dropLast++[((Bj h.BD).1++[x],(Bj h.BD).2++[Bt h.text x])]:=by
   simp only [E9,Ey,ho,if_true,Ia]
  have e2:(E9 h x).BD.reverse=((Bj h.BD).1++[x],(Bj h.BD).2++[Bt h.text x])::h.BD.dropLast.reverse:=by rw [e1];simp
  have e3:h.BD.reverse=Bj h.BD::h.BD.dropLast.reverse:=by
   conv=>lhs;rw [hs]
   simp
  have p:=i.cN;rw [e3] at p;have e4:AY (AV h.text x) ((Bj h.BD).2++[Bt h.text x]).reverse=AY h.text (Bj h.BD).2.reverse:=by
   simp [AY,mu]
  refine ⟨?_,?_,?_⟩
  ·rw [e2];show qM (AV h.text x) _;refine ⟨?_,?_,?_,?_⟩
   ·simp only [List.reverse_append,List.reverse_cons,List.reverse_nil,List.nil_append,List.singleton_append];rw [CE,<-CN mm,mu];exact ⟨mm,p.1⟩
   ·simp only [e4];rw [Ig];refine ⟨p.2.1,?_⟩;rw [p.2.2.1];exact hx
   ·simp only [e4];rw [Ky,p.2.2.1]
   ·simp only [e4];exact p.2.2.2
  ·unfold Mt;rw [e2,e3];simp only [J3,E9];rw [e4]
  ·rw [e1];conv=>rhs;rw [hs]
   simp
 ·intro ho;have e1:(E9 h x).BD=IW (h.BD++[([x],[Bt h.text x])]):=by
   simp only [E9,Ey,ho];rw [if_neg (by simp),YG];rfl
  have full:qM (AV h.text x) (h.BD++[([x],[Bt h.text x])]).reverse/\(J3 (AV h.text x) (h.BD++[([x],[Bt h.text x])]).reverse)=h.text::J3 h.text h.BD.reverse:=by
   simp only [List.reverse_append,List.reverse_cons,List.reverse_nil,List.nil_append,List.singleton_append];have e4:AY (AV h.text x) [Bt h.text x]=h.text:=by simp [AY,mu]
   refine ⟨⟨?_,?_,?_,?_⟩,?_⟩
   ·simp only [List.reverse_cons,List.reverse_nil,List.nil_append];rw [CE];exact ⟨mm,rfl⟩
   ·simp only [List.reverse_cons,List.reverse_nil,List.nil_append,e4];rw [CE];exact ⟨hx,rfl⟩
   ·simp only [List.reverse_cons,List.reverse_nil,List.nil_append,e4];rfl
   ·simp only [List.reverse_cons,List.reverse_nil,List.nil_append,e4];exact i.cN
   ·simp only [J3,List.reverse_cons,List.reverse_nil,List.nil_append,e4]
  have pl:(J3 (AV h.text x) (h.BD++[([x],[Bt h.text x])]).reverse).reverse=Mt h++[h.text]:=by rw [full.2];simp [Mt]
  unfold Mt at pl |-;rw [e1];unfold IW;simp only [List.length_append,List.length_singleton];by_cases hc:20<h.BD.length+1
  ·rw [if_pos hc,if_pos hc,if_pos hc];have rd:((h.BD++[([x],[Bt h.text x])]).drop 1).reverse=(h.BD++[([x],[Bt h.text x])]).reverse.dropLast:=by
    rw [List.dropLast_reverse];simp
   refine ⟨?_,?_,?_⟩
   ·rw [rd];exact Qu _ _ full.1
   ·rw [rd];show (J3 (AV h.text x) _).reverse=_;rw [Nf,<-pl];simp [List.tail_reverse]
   ·simp
  ·rw [if_neg hc,if_neg hc,if_neg hc];exact ⟨full.1,pl,by simp⟩
theorem Gd.make {n:Nat} {h:CJ} {x:BW} (i:Gd n h) (hx:Bz h.text.length x):Gd (n+1) (E9 h x):=by
 obtain ⟨p1,p2⟩:=lA i hx;have ml:=CN hx;have m:=Bb.1 hx;have hp:qM (E9 h x).text (E9 h x).BD.reverse:=by
  cases ho:h.P0
  ·exact (p2 ho).1
  ·exact (p1 ho).1
 have hl:(E9 h x).BD.length<=20:=by
  have:=i.all;cases ho:h.P0
  ·rw [(p2 ho).2.2];split<;>omega
  ·rw [(p1 ho).2.2];omega
 refine ⟨hp,trivial,by show (AV h.text x).length<=600;omega,fun _=>by show Ia _ _ _≠[];simp [Ia],by show (E9 h x).BD.length+0<=20;omega,fun g hg=>?_⟩;have hg:g∈Ia (Ey h) x (Bt h.text x):=by simpa [E9] using hg
 have old: ∀g∈Ey h,g.1.length<=n/\g.2.length<=n:=fun g hg=>by
  unfold Ey at hg;split at hg
  ·exact i.mT g (List.mem_append_left _ hg)
  ·have:g∈h.BD++[([],[])]:=by
    unfold IW at hg;split at hg
    ·exact List.mem_of_mem_drop hg
    ·exact hg
   simp at this;rcases this with this | rfl
   ·exact i.mT g (List.mem_append_left _ this)
   ·simp
 unfold Ia at hg;simp only [List.mem_append,List.mem_singleton] at hg;rcases hg with hg | rfl
 ·have:=old g (List.dropLast_subset _ hg);omega
 ·by_cases hn:Ey h=[]
  ·rw [hn];simp [Bj]
  ·have:=old (Bj (Ey h)) (by rw [EH hn,MH];simp);simp only [List.length_append,List.length_singleton];omega
theorem Gd.vZ {n:Nat} {h:CJ} (i:Gd n h) (hn:h.BD≠[]):Gd n (Uo h)/\Rr (Uo h)=Rr h/\(Uo h).BD.length+1=h.BD.length:=by
 have hs:=EH hn;have e3:h.BD.reverse=Bj h.BD::h.BD.dropLast.reverse:=by
  conv=>lhs;rw [hs]
  simp
 have p:=i.cN;rw [e3] at p;have e5:(h.Dc++[Bj h.BD]).reverse=Bj h.BD::h.Dc.reverse:=by simp
 have ll:h.BD.dropLast.length+1=h.BD.length:=by
  conv=>rhs;rw [hs]
  simp
 refine ⟨⟨p.2.2.2,?_,ME p.1 i.len,by simp [Uo],?_,fun g hg=>i.mT g ?_⟩,?_,ll⟩
 ·show okF (AY h.text (Bj h.BD).2.reverse) (h.Dc++[Bj h.BD]).reverse;rw [e5];refine ⟨p.2.1,?_,?_,?_⟩
  ·rw [p.2.2.1];exact p.1
  ·rw [p.2.2.1]
  ·rw [p.2.2.1];exact i.ui
 ·have:=i.all;show h.BD.dropLast.length+(h.Dc++[Bj h.BD]).length<=20;simp only [List.length_append,List.length_singleton];omega
 ·have hg:g∈h.BD.dropLast++(h.Dc++[Bj h.BD]):=hg;simp only [List.mem_append,List.mem_singleton] at hg |-;rcases hg with hg | hg | rfl
  ·exact .inl (List.dropLast_subset _ hg)
  ·exact .inr hg
  ·left;exact LU hn
 ·unfold Rr Mt tz;show (J3 (AY h.text (Bj h.BD).2.reverse) h.BD.dropLast.reverse).reverse++AY h.text (Bj h.BD).2.reverse::kV (AY h.text (Bj h.BD).2.reverse) (h.Dc++[Bj h.BD]).reverse=_;rw [e5,e3];simp only [J3,kV,List.reverse_cons,List.append_assoc,List.singleton_append];rw [p.2.2.1]
theorem Gd.vP {n:Nat} {h:CJ} (i:Gd n h) (hn:h.Dc≠[]):Gd n (Sm h)/\Rr (Sm h)=Rr h/\(Sm h).BD.length=h.BD.length+1:=by
 have hs:=EH hn;have e3:h.Dc.reverse=Bj h.Dc::h.Dc.dropLast.reverse:=by
  conv=>lhs;rw [hs]
  simp
 have p:=i.ui;rw [e3] at p;have e5:(h.BD++[Bj h.Dc]).reverse=Bj h.Dc::h.BD.reverse:=by simp
 have ll:h.Dc.dropLast.length+1=h.Dc.length:=by
  conv=>rhs;rw [hs]
  simp
 refine ⟨⟨?_,p.2.2.2,ME p.1 i.len,by simp [Sm],?_,fun g hg=>i.mT g ?_⟩,?_,by simp [Sm]⟩
 ·show qM (AY h.text (Bj h.Dc).1) (h.BD++[Bj h.Dc]).reverse;rw [e5];refine ⟨p.2.1,?_,?_,?_⟩
  ·rw [p.2.2.1];exact p.1
  ·rw [p.2.2.1]
  ·rw [p.2.2.1];exact i.cN
 ·have:=i.all;show (h.BD++[Bj h.Dc]).length+h.Dc.dropLast.length<=20;simp only [List.length_append,List.length_singleton];omega
 ·have hg:g∈(h.BD++[Bj h.Dc])++h.Dc.dropLast:=hg;simp only [List.mem_append,List.mem_singleton] at hg |-;rcases hg with (hg | rfl) | hg
  ·exact .inl hg
  ·right;exact LU hn
  ·exact .inr (List.dropLast_subset _ hg)
 ·unfold Rr Mt tz;show (J3 (AY h.text (Bj h.Dc).1) (h.BD++[Bj h.Dc]).reverse).reverse++AY h.text (Bj h.Dc).1::kV (AY h.text (Bj h.Dc).1) h.Dc.dropLast.reverse=_;rw [e5,e3];simp only [J3,kV,List.reverse_cons,List.append_assoc,List.singleton_append];rw [p.2.2.1]
theorem Gd.more {n:Nat} {h:CJ} (i:Gd n h):Gd (n+1) h:=⟨i.cN,i.ui,i.len,i.P0,i.all,fun g hg=>by have:=i.mT g hg;omega⟩
theorem Gd.u6 {n:Nat} {h:CJ} (i:Gd n h) (d:EM):Gd (n+1) (C5 h d).1:=by
 unfold C5;split
 ·split
  ·exact i.more
  ·rename_i c;exact i.make (Classical.byContradiction c)
 ·split
  ·exact ⟨i.cN,i.ui,i.len,by simp,i.all,i.more.mT⟩
  ·split
   ·split
    ·exact i.more
    ·rename_i c;exact (i.vZ c).1.more
   ·split
    ·split
     ·exact i.more
     ·rename_i c;exact (i.vP c).1.more
    ·exact i.more
theorem Gd.run {s:Bytes} (h:s.length<=600) (l:List EM):Gd l.length (KS (Dy s) l):=by
 have: ∀(l:List EM) (n:Nat) (h:CJ),Gd n h->Gd (n+l.length) (KS h l):=by
  intro l
  induction l with
  | nil=>intro n h i;exact i
  | cons d l ih=>
   intro n h i;have:=ih (n+1) _ (i.u6 d);rw [show n+(d::l).length=n+1+l.length by simp;omega];exact this
 have:=this l 0 _ (Gd.new h);rwa [Nat.zero_add] at this
noncomputable section
abbrev gg:Ty:= .st (.cons tI (.cons TJ .nil))
abbrev aX (l:List EM):Prop:=JE l/\ ∀d∈l,Ec d.2
abbrev Qa (s:Bytes) (l:List EM):Prop:=M3 s/\aX l
def Es (s:Bytes) (l:List EM):Prop:=600<s.length\/80<l.length
def Gk (s:Bytes) (l:List EM):List Bytes×List Int×Int:=K0 (Es s l) ([],[],1) (ET (Dy s) l,Fy (Dy s) l,0)
def MF (s:Bytes) (l:List EM):Int×Int×Int:=K0 (Es s l) (0,0,1) ((KS (Dy s) l).BD.length,(KS (Dy s) l).Dc.length,0)
def Hl:Ct:=⟨Mg .str (.sl gg),[.own .str,.own tI,.val tI],fun x=>Qa x.1 x.2,fun x=>Gk x.1 x.2⟩
end
end Go.Fu
end
section
namespace Go.Fu
open Go.Vc
def Kc:List Bytes->Bytes
 | []=>[]
 | [l]=>l
 | l::m::L=>l++10::Kc (m::L)
theorem NX (s cur:Bytes):BJ cur s≠[]:=by
 induction s generalizing cur with
 | nil=>simp [BJ]
 | cons c s ih=>unfold BJ;split<;>simp [ih]
theorem Jw {l:Bytes} {L:List Bytes} (h:L≠[]):Kc (l::L)=l++10::Kc L:=by
 cases L with
 | nil=>exact absurd rfl h
 | cons m L=>rfl
theorem Rm: ∀(s cur:Bytes),Kc (BJ cur s)=cur++s
 | [],cur=>by simp [BJ,Kc]
 | c::s,cur=>by
  unfold BJ;split
  ·rename_i h;rw [Jw (NX s []),Rm s []];subst h;rfl
  ·rw [Rm s];simp
theorem ko (s:Bytes):Kc (AO s)=s:=by rw [GA,Rm];rfl
theorem Iq (s:Bytes):AO s≠[]:=by rw [GA];exact NX s []
theorem PF: ∀(L:List Bytes) (a:Int),(EA a L).length=L.length
 | [],a=>rfl
 | l::L,a=>by simp [EA,PF L]
theorem Ps (s:Bytes):(Aa s).length=(AO s).length:=by rw [<-jW,PF]
theorem pj: ∀(L:List Bytes) (a:Int) (i:Nat) (l:Bytes),L[i]?=some l-> ∃k:Int,(EA a L)[i]?=some (a+k)/\0<=k/\k+l.length<=(Kc L).length/\((Kc L).drop k.toNat).take l.length=l/\
  (i+1<L.length->(EA a L)[i+1]?=some (a+k+l.length+1))/\(¬i+1<L.length->k+l.length=(Kc L).length)
 | [],a,i,l,h=>by simp at h
 | m::L,a,0,l,h=>by
  simp at h;subst h;refine ⟨0,by simp [EA],by omega,?_,?_,fun h=>?_,fun h=>?_⟩
  ·cases L with
   | nil=>simp [Kc]
   | cons x L=>rw [Jw (by simp)];simp;omega
  ·cases L with
   | nil=>simp [Kc]
   | cons x L=>rw [Jw (by simp)];simp
  ·cases L with
   | nil=>simp at h
   | cons x L=>simp [EA]
  ·cases L with
   | nil=>simp [Kc]
   | cons x L=>simp at h
 | m::L,a,i+1,l,h=>by
  have h:L[i]?=some l:=by simpa using h
  have hL:L≠[]:=by rintro rfl;simp at h
  obtain ⟨k,h1,h2,h3,h4,h5,h6⟩:=pj L (a+m.length+1) i l h;have e:(Kc (m::L)).length=m.length+1+(Kc L).length:=by rw [Jw hL];simp;omega
  refine ⟨m.length+1+k,?_,by omega,by omega,?_,fun q=>?_,fun q=>?_⟩
  ·show (EA (a+m.length+1) L)[i]?=_;rw [h1];congr 1;omega
  ·rw [Jw hL,show ((m.length:Int)+1+k).toNat=m.length+(k.toNat+1) by omega,List.drop_append,List.drop_of_length_le (by omega),List.nil_append,show m.length+(k.toNat+1)-m.length=k.toNat+1 by omega,List.drop_succ_cons];exact h4
  ·show (EA (a+m.length+1) L)[i+1]?=_;rw [h5 (by simpa using q)];congr 1;omega
  ·have:=h6 (by simpa using q);omega
theorem rV {s:Bytes} {i:Nat} {l:Bytes} (h:(AO s)[i]?=some l): ∃k:Nat,(Aa s)[i]?=some (k:Int)/\k+l.length<=s.length/\(s.take (k+l.length)).drop k=l/\
  (i+1<(Aa s).length->(Aa s)[i+1]?=some ((k+l.length:Nat)+1:Int))/\(¬i+1<(Aa s).length->k+l.length=s.length):=by
 obtain ⟨k,h1,h2,h3,h4,h5,h6⟩:=pj _ 0 i l h;rw [jW,ko,<-Ps,Int.zero_add] at*;refine ⟨k.toNat,by rw [h1];congr 1;omega,by omega,?_,fun q=>by rw [h5 q];congr 1;omega,fun q=>by have:=h6 q;omega⟩;rw [List.drop_take,show k.toNat+l.length-k.toNat=l.length by omega];exact h4
theorem MJ: ∀(s cur:Bytes),BJ cur s=(cur++(BJ [] s).headD [])::(BJ [] s).tail
 | [],cur=>by simp [BJ]
 | c::s,cur=>by
  by_cases h:c=10
  ·simp only [BJ,if_pos h];simp
  ·simp only [BJ,if_neg h];rw [MJ s (cur++[c]),MJ s ([]++[c])];simp
theorem MI: ∀(X Y cur:Bytes),BJ cur (X++Y)=(BJ cur X).dropLast++BJ ((BJ cur X).getLastD []) Y
 | [],Y,cur=>by simp [BJ]
 | c::X,Y,cur=>by
  simp only [List.cons_append,BJ];split
  ·rw [MI X Y []];have hn:=NX X [];rw [List.dropLast_cons_of_ne_nil hn];simp only [List.cons_append,List.cons.injEq,true_and];congr 2;cases h:BJ [] X with
   | nil=>exact absurd h hn
   | cons a L=>simp
  ·exact MI X Y _
theorem MB (X Y:Bytes):AO (X++Y)=(AO X).dropLast++[(AO X).getLastD []++(AO Y).headD []]++(AO Y).tail:=by
 simp only [GA];rw [MI,MJ Y];simp
theorem OC (s:Bytes):((AO s).length:Int)=(posOf s).2.1+1:=by
 induction s using Nw with
 | h0=>rfl
 | h1 s c ih=>
  rw [IP,MB];have hn:=Iq s;have hp:0<(AO s).length:=List.length_pos_iff.2 hn;have e:AO [c]=if c=10 then [[],[]] else [[c]]:=by
   rw [GA];unfold BJ;split<;>simp [BJ]
  rw [e];unfold Hs;split<;>simp only [List.length_append,List.length_dropLast,List.length_cons,List.length_nil,List.tail_cons]<;>omega
theorem aN {s:Bytes} {e:BW} (h:Bz s.length e) {a b:Nat} (ha:(a:Int)=(posOf (s.take e.1.toNat)).2.1) (hb:(b:Int)=(posOf (s.take (e.1+e.2.1).toNat)).2.1):
  ∃M:List Bytes,(M.length:Int)=(posOf e.2.2).2.1+1/\a<=b/\b+1<=(AO s).length/\AO (AV s e)=(AO s).take a++M++(AO s).drop (b+1):=by
 have m:=Bb.1 h;have hab:(a:Int)<=b:=by rw [ha,hb];exact gJ (by omega) (by omega) (by omega)
 have hA:s=s.take e.1.toNat++s.drop e.1.toNat:=(List.take_append_drop _ _).symm;have hB:s=s.take (e.1+e.2.1).toNat++s.drop (e.1+e.2.1).toNat:=(List.take_append_drop _ _).symm;generalize hx:s.take e.1.toNat=A at*;generalize hy:s.take (e.1+e.2.1).toNat=A2 at*;generalize hz:s.drop (e.1+e.2.1).toNat=B at*;have ca:=OC A;have cb:=OC A2;have cp:=OC e.2.2;have pa:0<(AO A).length:=List.length_pos_iff.2 (Iq A);have e1:(AO s).take a=(AO A).dropLast:=by
  rw [hA,MB,List.append_assoc,List.take_left' (by rw [List.length_dropLast];omega)]
 have e2:(AO s).drop (b+1)=(AO B).tail:=by
  rw [hB,MB,List.drop_left' (by simp only [List.length_append,List.length_dropLast,List.length_cons,List.length_nil];omega)]
 have e3:b+1<=(AO s).length:=by
  rw [hB,MB];simp only [List.length_append,List.length_dropLast,List.length_cons,List.length_nil];omega
 refine ⟨[(AO A).getLastD []++(AO (e.2.2++B)).headD []]++(AO (e.2.2++B)).tail.take (posOf e.2.2).2.1.toNat,?_,by omega,e3,?_⟩
 ·have:=OC (e.2.2++B);have l1:(AO (e.2.2++B)).length=(AO e.2.2).length-1+1+(AO B).tail.length:=by
   rw [MB];simp only [List.length_append,List.length_dropLast,List.length_cons,List.length_nil]
  have pp:0<(AO e.2.2).length:=List.length_pos_iff.2 (Iq _);simp only [List.length_append,List.length_cons,List.length_nil,List.length_take,List.length_tail] at*;omega
 ·have hm:AV s e=A++(e.2.2++B):=by unfold AV;rw [hx,hz,List.append_assoc]
  rw [hm,MB,e1,e2];simp only [List.append_assoc];congr 2;have pp:0<(AO e.2.2).length:=List.length_pos_iff.2 (Iq _);have t:(AO (e.2.2++B)).tail.drop (posOf e.2.2).2.1.toNat=(AO B).tail:=by
   rw [<-List.drop_one,MB,List.drop_drop];refine List.drop_left' ?_;simp only [List.length_append,List.length_dropLast,List.length_cons,List.length_nil];omega
  rw [<-t,List.take_append_drop]
theorem Lm: ∀(s:Bytes) (i:Int),((AQ i s).length:Int)=(posOf s).2.1:=by
 intro s
 induction s using Nw with
 | h0=>intro i;rfl
 | h1 s c ih=>
  intro i;rw [EI,List.length_append,IP];have:=ih i;have e:AQ (i+s.length) [c]=if c=10 then [i+s.length+1] else []:=by unfold AQ;split<;>rfl
  rw [e];unfold Hs;split
  ·simp only [List.length_cons,List.length_nil];omega
  ·simp only [List.length_nil];omega
theorem fX {s:Bytes} {at_:Int} (h0:0<=at_) (h1:at_<=s.length):U_ (Aa s) at_=(posOf (s.take at_.toNat)).2.1:=by
 have hs:s=s.take at_.toNat++s.drop at_.toNat:=(List.take_append_drop _ _).symm;have hl:((s.take at_.toNat).length:Int)=at_:=by rw [List.length_take];omega
 generalize s.take at_.toNat=A at*;generalize s.drop at_.toNat=B at*;subst hs;unfold U_ Aa;rw [EI];have ta:=PG (a:=0::AQ 0 A) (b:=AQ (0+A.length) B) (n:=at_) (fun x hx=>by
  rcases List.mem_cons.1 hx with rfl | hx
  ·exact h0
  ·have:=Dp A 0 x hx;omega) (fun x hx=>by have:=Dp B _ x hx;omega)
 rw [show (0:Int)::(AQ 0 A++AQ (0+A.length) B)=(0::AQ 0 A)++AQ (0+A.length) B from rfl,ta.1];have:=Lm A 0;simp only [List.length_cons];omega
theorem fW: ∀A:Bytes,∃k:Int,(Aa A)[(posOf A).2.1.toNat]?=some k/\(A.length:Int)-k=(posOf A).2.2:=by
 intro A
 induction A using Nw with
 | h0=>exact ⟨0,rfl,rfl⟩
 | h1 s c ih=>
  obtain ⟨k,h1,h2⟩:=ih;have cs:=Lm s 0;rw [IP];unfold Aa at*;rw [EI];have e:AQ (0+s.length) [c]=if c=10 then [0+(s.length:Int)+1] else []:=by unfold AQ;split<;>rfl
  rw [e];unfold Hs;split
  ·refine ⟨(s.length:Int)+1,?_,by simp⟩;rw [show (0:Int)::(AQ 0 s++[0+(s.length:Int)+1])=(0::AQ 0 s)++[0+(s.length:Int)+1] from rfl,List.getElem?_append_right (by simp only [List.length_cons];omega)];simp only [List.length_cons];rw [show ((posOf s).2.1+1).toNat-((AQ 0 s).length+1)=0 by omega];simp
  ·refine ⟨k,by rw [List.append_nil];exact h1,by simp only [List.length_append,List.length_cons,List.length_nil];omega⟩
theorem l_ {s:Bytes} {at_:Int} (h0:0<=at_) (h1:at_<=s.length): ∃n:Nat,(n:Int)=(posOf (s.take at_.toNat)).2.1/\n<(Aa s).length/\ ∃k:Int,(Aa s)[n]?=some k/\at_-k=(posOf (s.take at_.toNat)).2.2:=by
 have hs:s=s.take at_.toNat++s.drop at_.toNat:=(List.take_append_drop _ _).symm;have hl:((s.take at_.toNat).length:Int)=at_:=by rw [List.length_take];omega
 have hb:=Iy (s.take at_.toNat);generalize s.take at_.toNat=A at*;generalize s.drop at_.toNat=B at*;subst hs;obtain ⟨k,h2,h3⟩:=fW A;have hk:(Aa (A++B))[(posOf A).2.1.toNat]?=some k:=by
  have hlt:=(List.getElem?_eq_some_iff.1 h2).1;unfold Aa at*;rw [EI,show (0:Int)::(AQ 0 A++AQ (0+A.length) B)=(0::AQ 0 A)++AQ (0+A.length) B from rfl,List.getElem?_append_left hlt];exact h2
 exact ⟨(posOf A).2.1.toNat,by omega,(List.getElem?_eq_some_iff.1 hk).1,k,hk,by omega⟩
theorem N0 {s:Bytes} (h:s.length<=600):Eh (Aa s):=by
 have hp:(Aa s).Pairwise (· < ·):=by
  unfold Aa;refine List.pairwise_cons.2 ⟨fun x hx=>by have:=Dp s 0 x hx;omega,?_⟩;have: ∀(s:Bytes) (i:Int),(AQ i s).Pairwise (· < ·):=by
   intro s
   induction s with
   | nil=>intro i;exact List.Pairwise.nil
   | cons c s ih=>
    intro i;unfold AQ;split
    ·exact List.pairwise_cons.2 ⟨fun x hx=>by have:=Dp s _ x hx;omega,ih _⟩
    ·exact ih _
  exact this s 0
 refine ⟨by simp [Aa],rfl,fun i h0 h1=>ZM hp (by omega) (by omega) h1,?_⟩;have hm:gt (Aa s) (((Aa s).length:Int)-1)∈Aa s:=Kz (by simp [Aa]) (by omega);generalize gt (Aa s) (((Aa s).length:Int)-1)=x at hm;unfold Aa at hm;rcases List.mem_cons.1 hm with rfl | hm
 ·omega
 ·have:=Dp s 0 x hm;omega
end Go.Fu
end
section
namespace Go.Fu
open Go.Vc
noncomputable section
def O6 (c:UInt8):Bool:=(97<=c.toNat && c.toNat<=122) || (65<=c.toNat && c.toNat<=90) || (48<=c.toNat && c.toNat<=57)
def CC (s:Bytes) (i:Nat):Nat:=((s.drop i).takeWhile O6).length
def opens (s:Bytes) (i:Nat):Prop:=i=0\/O6 (gt s ((i:Int)-1))=false
def Mj (s:Bytes) (i:Nat):Bytes:=open Classical in if opens s i/\CC s i<=12 then (s.drop i).take (CC s i) else []
def NJ (s:Bytes) (i:Nat):Option (Bytes×Nat):=if Mj s i=[] then none else some (Mj s i,i)
def Bx (s:Bytes) (k:Nat):List (Bytes×Nat):=(List.range' k (s.length-k)).filterMap (NJ s)
def isWord (w:Bytes):Prop:=w≠[]/\w.length<=12/\ ∀c∈w,O6 c=true
def F8 (T:List (Bytes×List Int)) (w:Bytes):List Int:=
 match T with
 | []=>[]
 | (u,a)::T=>if u=w then a else F8 T w
def Ew (s w:Bytes):List Int:=((Bx s 0).filter fun e=>e.1=w).map fun e=>(e.2:Int)
def Lx (s w:Bytes):List Int×Int:=open Classical in if ¬isWord w then ([],4) else if 600<s.length then ([],1) else (Ew s w,0)
def Kg (c:Int):Prop:=(97<=c/\c<=122)\/(65<=c/\c<=90)\/(48<=c/\c<=57)
def Bn:Ct:=⟨dY (.int .u8),[.val .bool],fun _=>True,fun c=>bo (Kg c)⟩
def Dq:Ct:=⟨dY .str,[.val .bool],fun w=>M3 w,fun w=>bo (isWord w)⟩
end
theorem Qw (c:UInt8):O6 c=true↔Kg (c.toNat:Int):=by
 unfold O6 Kg;simp only [Bool.or_eq_true,Bool.and_eq_true,decide_eq_true_eq];omega
theorem Ii (s:Bytes) (i:Nat):CC s i<=s.length-i:=by
 unfold CC;have:=(List.takeWhile_prefix (l:=s.drop i) O6).length_le;rwa [List.length_drop] at this
theorem RJ {α:Type} (p:α->Bool): ∀(l:List α) (j:Nat) (x:α),j<(l.takeWhile p).length->l[j]?=some x->p x=true
 | [],_,_,h,_=>by simp at h
 | a::l,j,x,h,hx=>by
  rw [List.takeWhile_cons] at h;split at h
  ·rename_i ha;cases j with
   | zero=>simp at hx;subst hx;exact ha
   | succ j=>exact RJ p l j x (by simpa using h) (by simpa using hx)
  ·simp at h
theorem PH {α:Type} (p:α->Bool): ∀(l:List α) (x:α),l[(l.takeWhile p).length]?=some x->p x=false
 | [],_,h=>by simp at h
 | a::l,x,h=>by
  rw [List.takeWhile_cons] at h;split at h
  ·simp only [List.length_cons,List.getElem?_cons_succ] at h;exact PH p l x h
  ·rename_i ha;simp at h;subst h;simpa using ha
theorem SA {s:Bytes} {i j:Nat} (h:j<CC s i):O6 (gt s ((i+j:Nat):Int))=true:=by
 have hl:=Ii s i;have hg:=Ka (l:=s) (i:=((i+j:Nat):Int)) (by omega) (by omega);rw [Int.toNat_natCast] at hg;exact RJ O6 (s.drop i) j _ h (by rw [List.getElem?_drop];exact hg)
theorem Q5 {s:Bytes} {i:Nat} (h:i+CC s i<s.length):O6 (gt s ((i+CC s i:Nat):Int))=false:=by
 have hg:=Ka (l:=s) (i:=((i+CC s i:Nat):Int)) (by omega) (by omega);rw [Int.toNat_natCast] at hg;exact PH O6 (s.drop i) _ (by rw [List.getElem?_drop];exact hg)
theorem run_eq {s:Bytes} {i L:Nat} (h1:i+L<=s.length) (h2: ∀j,j<L->O6 (gt s ((i+j:Nat):Int))=true) (h3:i+L=s.length\/O6 (gt s ((i+L:Nat):Int))=false):CC s i=L:=by
 have hl:=Ii s i;rcases Nat.lt_trichotomy (CC s i) L with c | c | c
 ·have:=Q5 (s:=s) (i:=i) (by omega);rw [h2 _ c] at this;cases this
 ·exact c
 ·have:=SA c;rcases h3 with h3 | h3
  ·omega
  ·rw [h3] at this;cases this
theorem dm {s:Bytes} {i:Nat} (h: ¬opens s i):Mj s i=[]:=by unfold Mj;rw [if_neg (fun q=>h q.1)]
theorem dj {s:Bytes} {i:Nat} (h:opens s i):Mj s i=if CC s i<=12 then (s.drop i).take (CC s i) else []:=by
 unfold Mj;by_cases c:CC s i<=12
 ·rw [if_pos ⟨h,c⟩,if_pos c]
 ·rw [if_neg (fun q=>c q.2),if_neg c]
theorem JZ {s:Bytes} {i:Nat} (h: ¬opens s i):NJ s i=none:=by
 unfold NJ;rw [if_pos (dm h)]
theorem JY {s:Bytes} {i:Nat} (h:opens s i):NJ s i=if 0<CC s i/\CC s i<=12 then some ((s.drop i).take (CC s i),i) else none:=by
 have hl:=Ii s i;unfold NJ;rw [dj h];by_cases c:CC s i<=12
 ·rw [if_pos c];by_cases z:0<CC s i
  ·rw [if_pos (⟨z,c⟩:0<CC s i/\CC s i<=12),if_neg];intro e;have:=congrArg List.length e;rw [List.length_take,List.length_drop] at this;simp at this;omega
  ·rw [if_neg (fun q:0<CC s i/\CC s i<=12=>z q.1),if_pos];have:CC s i=0:=by omega
   rw [this];rfl
 ·rw [if_neg c,if_neg (fun q:0<CC s i/\CC s i<=12=>c q.2),if_pos rfl]
theorem Ri {s:Bytes} {k:Nat} (h:s.length<=k):Bx s k=[]:=by
 unfold Bx;rw [show s.length-k=0 by omega];rfl
theorem XH {s:Bytes} {k:Nat} (h:k<s.length):Bx s k=(NJ s k).toList++Bx s (k+1):=by
 unfold Bx;rw [show s.length-k=(s.length-(k+1))+1 by omega,List.range'_succ,List.filterMap_cons];cases NJ s k<;>rfl
theorem Pb {s:Bytes} {k:Nat}: ∀(n:Nat),k+n<=s.length->(∀j,k<=j->j<k+n->NJ s j=none)->Bx s k=Bx s (k+n)
 | 0,_,_=>rfl
 | n+1,h,g=>by
  rw [Pb n (by omega) (fun j h1 h2=>g j h1 (by omega)),XH (by omega),g (k+n) (by omega) (by omega)];rfl
theorem fJ {s:Bytes} {k:Nat} (h:k<s.length) (ho:opens s k):Bx s k=(if 0<CC s k/\CC s k<=12 then [((s.drop k).take (CC s k),k)] else [])++Bx s (k+CC s k+1):=by
 have hl:=Ii s k;have hs: ∀j,k+1<=j->j<k+1+CC s k->NJ s j=none:=fun j h1 h2=>JZ fun q=>by
  rcases q with q | q
  ·omega
  ·have:=SA (s:=s) (i:=k) (j:=j-1-k) (by omega);rw [show ((k+(j-1-k):Nat):Int)=(j:Int)-1 by omega,q] at this;cases this
 rw [XH h,JY ho];have e:Bx s (k+1)=Bx s (k+CC s k+1):=by
  rcases Nat.lt_or_ge (k+CC s k) s.length with c | c
  ·rw [Pb (CC s k) (by omega) hs];congr 1;omega
  ·have:k+CC s k=s.length:=by omega
   rw [Ri (k:=k+CC s k+1) (by omega)];rw [Pb (s.length-(k+1)) (by omega) (fun j h1 h2=>hs j h1 (by omega)),Ri (by omega)]
 rw [e];split<;>rfl
theorem gB {s:Bytes} {k:Nat} (h:k+CC s k<s.length):opens s (k+CC s k+1):= .inr (by
 have:=Q5 h;rw [show ((k+CC s k+1:Nat):Int)-1=((k+CC s k:Nat):Int) by omega];exact this)
theorem Uj {s:Bytes} {k:Nat} {e:Bytes×Nat} (h:e∈Bx s k):e.2<s.length/\e.1.length<=12/\e.1=Mj s e.2/\e.1≠[]:=by
 unfold Bx at h;obtain ⟨i,hi,he⟩:=List.mem_filterMap.1 h;rw [List.mem_range'_1] at hi;unfold NJ at he;split at he
 ·cases he
 ·rename_i hw;cases he;refine ⟨by show i<_;omega,?_,rfl,hw⟩;show (Mj s i).length<=12;unfold Mj;split
  ·rename_i q;rw [List.length_take];omega
  ·simp
theorem XB (s w:Bytes):(Ew s w).length<=s.length:=by
 unfold Ew;rw [List.length_map];refine Nat.le_trans (List.length_filter_le _ _) ?_;unfold Bx;refine Nat.le_trans (List.length_filterMap_le _ _) ?_;simp
end Go.Fu
end
section
namespace Go.Fu
open Go.Vc
abbrev M7:=List (Bytes×List Int)
noncomputable section
end
theorem jZ {T:M7} (h:(T.map (·.1)).Nodup) {x:Bytes×List Int} (hx:x∈T):F8 T x.1=x.2:=by
 induction T with
 | nil=>cases hx
 | cons y T ih=>
  obtain ⟨u,a⟩:=y;simp only [List.map_cons,List.nodup_cons] at h;simp only [F8];rcases List.mem_cons.1 hx with rfl | hx
  ·rw [if_pos rfl]
  ·rw [if_neg (fun e:u=x.1=>h.1 (by rw [e];exact List.mem_map_of_mem (f:=(·.1)) hx))];exact ih h.2 hx
end Go.Fu
end
section
namespace Go.Fu
open Go.Vc
noncomputable section
def L7 (s:Bytes):Nat->Nat
 | 0=>0
 | n+1=>if O6 (gt s (n:Int))=true then L7 s n else n+1
def Kv (s:Bytes) (n:Nat):Nat:=n+CC s n
abbrev m_ (s:Bytes) (lo hi:Int):Prop:=M3 s/\0<=lo/\lo<=hi/\hi<=s.length
def YL (s:Bytes) (lo hi:Int):Int×Int:=((L7 s lo.toNat:Int),(Kv s hi.toNat:Int))
def CD:Ct:=⟨uc .str tI tI,[.val tI,.val tI],fun x=>m_ x.1 x.2.1 x.2.2,fun x=>YL x.1 x.2.1 x.2.2⟩
end
theorem YK (s:Bytes): ∀n,L7 s n<=n
 | 0=>Nat.le_refl _
 | n+1=>by
  have:=YK s n;unfold L7;split<;>omega
theorem Z_ (s:Bytes): ∀n,L7 s n=0\/O6 (gt s ((L7 s n:Nat)-1:Int))=false
 | 0=>.inl rfl
 | n+1=>by
  unfold L7;split
  ·exact Z_ s n
  ·rename_i h;refine .inr ?_;rw [show (((n+1:Nat):Int)-1)=(n:Int) by omega];simpa using h
theorem YJ {s:Bytes} {n:Nat} (h:n<=s.length):n<=Kv s n/\Kv s n<=s.length:=by
 have:=Ii s n;unfold Kv;omega
theorem Z0 {s:Bytes} {n:Nat} (h:n<=s.length):Kv s n=s.length\/O6 (gt s (Kv s n:Int))=false:=by
 have:=Ii s n;unfold Kv;by_cases c:n+CC s n=s.length
 ·exact .inl c
 ·exact .inr (Q5 (by omega))
def Hv (d:Nat) (L:List (Bytes×Nat)):List (Bytes×Nat):=L.map fun e=>(e.1,d+e.2)
def apart (X Y:Bytes):Prop:=X=[]\/O6 (gt X ((X.length:Int)-1))=false\/Y=[]\/O6 (gt Y 0)=false
theorem lr {X Y:Bytes} (h:apart X Y) {i:Nat} (hi:i<X.length):CC (X++Y) i=CC X i:=by
 have hl:=Ii X i;have g: ∀j,i+j<X.length->gt (X++Y) ((i+j:Nat):Int)=gt X ((i+j:Nat):Int):=fun j hj=>D8 (by omega) (by omega);refine run_eq (by rw [List.length_append];omega) (fun j hj=>by rw [g j (by omega)];exact SA hj) ?_;by_cases c:i+CC X i<X.length
 ·exact .inr (by rw [g _ c];exact Q5 c)
 ·have e:i+CC X i=X.length:=by omega
  rw [e];rcases h with h | h | h | h
  ·subst h;simp at hi
  ·have:=SA (s:=X) (i:=i) (j:=X.length-1-i) (by omega);rw [show ((i+(X.length-1-i):Nat):Int)=(X.length:Int)-1 by omega,h] at this;cases this
  ·subst h;exact .inl (by simp)
  ·refine .inr ?_;rw [D9 (by omega),show ((X.length:Nat):Int)-(X.length:Int)=0 by omega];exact h
theorem lu (X Y:Bytes) {k:Nat} (hk:k<=Y.length):CC (X++Y) (X.length+k)=CC Y k:=by
 unfold CC;rw [List.drop_append];have e:X.drop (X.length+k)=[]:=List.drop_of_length_le (by omega);rw [e,List.nil_append,show X.length+k-X.length=k by omega]
theorem kK {X Y:Bytes} (h:apart X Y) {i:Nat} (hi:i<X.length):NJ (X++Y) i=NJ X i:=by
 have hr:=lr h hi;have hl:=Ii X i;have ho:opens (X++Y) i↔opens X i:=by
  unfold opens;by_cases c:i=0
  ·simp [c]
  ·rw [D8 (by omega) (by omega)]
 by_cases o:opens X i
 ·rw [JY (ho.2 o),JY o,hr];congr 2;rw [List.drop_append_of_le_length (by omega),List.take_append_of_le_length (by rw [List.length_drop];omega)]
 ·rw [JZ (fun q=>o (ho.1 q)),JZ o]
theorem kL {X Y:Bytes} (h:apart X Y) {k:Nat} (hk:k<Y.length):NJ (X++Y) (X.length+k)=(NJ Y k).map fun e=>(e.1,X.length+e.2):=by
 have hr:=lu X Y (k:=k) (by omega);have hd:(X++Y).drop (X.length+k)=Y.drop k:=by
  rw [List.drop_append];have e:X.drop (X.length+k)=[]:=List.drop_of_length_le (by omega);rw [e,List.nil_append,show X.length+k-X.length=k by omega]
 have P0:opens (X++Y) (X.length+k)->opens Y k->NJ (X++Y) (X.length+k)=(NJ Y k).map fun e=>(e.1,X.length+e.2):=fun o1 o2=>by
  rw [JY o1,JY o2,hr,hd];split<;>rfl
 by_cases c:k=0
 ·subst c;by_cases o1:opens (X++Y) (X.length+0)
  ·exact P0 o1 (.inl rfl)
  ·have hp: ¬0<CC Y 0:=fun q=>by
    have h0:=SA (s:=Y) (i:=0) (j:=0) q;rcases h with h | h | h | h
    ·subst h;exact o1 (.inl rfl)
    ·refine o1 (.inr ?_);by_cases z:X.length=0
     ·exact absurd (.inl (by rw [z])) o1
     ·rw [D8 (by omega) (by omega),Nat.add_zero];exact h
    ·subst h;simp at hk
    ·rw [show ((0+0:Nat):Int)=0 by omega,h] at h0;cases h0
   rw [JZ o1,JY (.inl rfl),if_neg (fun q=>hp q.1)];rfl
 ·have ho:opens (X++Y) (X.length+k)↔opens Y k:=by
   unfold opens;rw [D9 (by omega),show ((X.length+k:Nat):Int)-1-(X.length:Int)=(k:Int)-1 by omega];constructor
   ·rintro (q | q)
    ·omega
    ·exact .inr q
   ·rintro (q | q)
    ·omega
    ·exact .inr q
  by_cases o:opens Y k
  ·exact P0 (ho.2 o) o
  ·rw [JZ (fun q=>o (ho.1 q)),JZ o];rfl
theorem Hj {α β:Type} {f g:α->Option β}: ∀ {l:List α},(∀x∈l,f x=g x)->l.filterMap f=l.filterMap g
 | [],_=>rfl
 | a::l,h=>by
  rw [List.filterMap_cons,List.filterMap_cons,h a (List.mem_cons_self ..),Hj fun x hx=>h x (List.mem_cons_of_mem _ hx)]
theorem Rh {X Y:Bytes} (h:apart X Y):Bx (X++Y) 0=Bx X 0++Hv X.length (Bx Y 0):=by
 unfold Bx Hv;rw [Nat.sub_zero,Nat.sub_zero,Nat.sub_zero,List.length_append,List.range'_append_1.symm,List.filterMap_append];congr 1
 ·refine Hj fun i hi=>?_;have:=List.mem_range'_1.1 hi;exact kK h (by omega)
 ·rw [List.map_filterMap,Nat.zero_add];have e:List.range' X.length Y.length=(List.range' 0 Y.length).map (X.length+ ·):=by
   rw [List.map_add_range'];rfl
  rw [e,List.filterMap_map];refine Hj fun k hk=>?_;have:=List.mem_range'_1.1 hk;exact kL h (by omega)
noncomputable section
def tM (l:List Int):List Int:=l.mergeSort fun x y=>decide (x<=y)
end
theorem dM (l:List Int):(tM l).Perm l:=List.mergeSort_perm _ _
theorem uV {l m:List Int} (hp:l.Perm m) (hs:m.Pairwise fun a b=>a<b):tM l=m:=by
 have h1:(tM l).Pairwise fun a b=>decide (a<=b)=true:=List.pairwise_mergeSort (fun a b c h1 h2=>by
  simp only [decide_eq_true_eq] at*;omega) (fun a b=>by simp only [Bool.or_eq_true,decide_eq_true_eq];omega) l
 refine List.Perm.eq_of_pairwise (le:=fun a b:Int=>a<=b) ?_ (h1.imp fun {a b} q=>by simpa using q) (hs.imp fun {a b} q=>by omega) ((dM l).trans hp);intro a b _ _ h3 h4;omega
theorem XA (s w:Bytes):(Ew s w).Pairwise fun a b=>a<b:=by
 have h1:(Bx s 0).Pairwise fun a b=>a.2<b.2:=by
  unfold Bx;refine List.pairwise_filterMap.2 ?_;refine (List.pairwise_lt_range' (s:=0) (n:=s.length-0) (step:=1)).imp fun {a b} q x hx y hy=>?_;unfold NJ at hx hy;split at hx<;>cases hx;split at hy<;>cases hy;exact q
 unfold Ew;refine List.pairwise_map.2 ((h1.filter _).imp fun {a b} q=>by omega)
noncomputable section
end
theorem O2 {α:Type} {f:α->Option α}: ∀ {l:List α},(∀x∈l,f x=some x)->l.filterMap f=l
 | [],_=>rfl
 | a::l,h=>by
  rw [List.filterMap_cons,h a (List.mem_cons_self ..)];simp only;rw [O2 fun x hx=>h x (List.mem_cons_of_mem _ hx)]
theorem QU {α β:Type} {f:α->Option β}: ∀ {l:List α},(∀x∈l,f x=none)->l.filterMap f=[]
 | [],_=>rfl
 | a::l,h=>by
  rw [List.filterMap_cons,h a (List.mem_cons_self ..)];exact QU fun x hx=>h x (List.mem_cons_of_mem _ hx)
theorem bB {A m C:Bytes} (h1:apart A (m++C)) (h2:apart m C):Bx (A++(m++C)) 0=Bx A 0++(Hv A.length (Bx m 0)++Hv (A.length+m.length) (Bx C 0)):=by
 rw [Rh h1,Rh h2];congr 1;unfold Hv;rw [List.map_append,List.map_map];congr 1;exact List.map_congr_left fun e _=>by simp only [Function.comp,Nat.add_assoc]
theorem JB (s:Bytes) (lo hi:Nat) (h:lo<=hi):s=s.take lo++((s.take hi).drop lo++s.drop hi):=by
 have e:s.take lo++(s.take hi).drop lo=s.take hi:=by
  have:s.take lo=(s.take hi).take lo:=by rw [List.take_take,Nat.min_eq_left h]
  rw [this,List.take_append_drop]
 rw [<-List.append_assoc,e,List.take_append_drop]
end Go.Fu
end
section
namespace Go.Fu
open Go.Vc
noncomputable section
def De (s:Bytes) (lo hi:Nat):List (Bytes×Nat):=Hv lo (Bx ((s.take hi).drop lo) 0)
def Zr (s:Bytes) (i:Nat):Prop:=i=0\/s.length<=i\/O6 (gt s ((i:Int)-1))=false\/O6 (gt s (i:Int))=false
def Iz (s w:Bytes) (Q:Int->Prop):List Int:=open Classical in (Ew s w).filter fun p=>decide (Q p)
def Whole (s:Bytes) (D:Int->Prop):Prop:= ∀i:Int,0<i->i<s.length->O6 (gt s (i-1))=true->O6 (gt s i)=true->(D (i-1)↔D i)
def bK (l:List Int) (a:Int):List Int:=(l.takeWhile fun x=>decide (x<a))++a::l.dropWhile fun x=>decide (x<a)
def Ga (T:Bytes->List Int) (e:Bytes×Nat):Bytes->List Int:=open Classical in fun u=>if e.1=u then bK (T u) e.2 else T u
def ES (lo hi by_:Int) (a:Int):Option Int:=if a<lo then some a else if hi<=a then some (a+by_) else none
def aI (D:Int->Prop) (lo hi by_:Int) (j:Int):Prop:=(j<lo/\D j)\/(lo<=j/\j<hi+by_)\/(hi+by_<=j/\D (j-by_))
end
theorem Zz {s:Bytes} {i:Nat} (hi:i<=s.length) (h:Zr s i):apart (s.take i) (s.drop i):=by
 have hl:(s.take i).length=i:=by rw [List.length_take];omega
 rcases h with h | h | h | h
 ·subst h;exact .inl rfl
 ·right;right;left;exact List.drop_of_length_le h
 ·by_cases z:i=0
  ·subst z;exact .inl rfl
  ·right;left;rw [hl];have h0:s.take i++s.drop i=s:=List.take_append_drop i s;rw [<-h0,D8 (by omega) (by omega)] at h;exact h
 ·right;right;right;have:gt (s.drop i) 0=gt s (i:Int):=by unfold gt;simp [List.getD,List.getElem?_drop]
  rw [this];exact h
theorem Xb (s:Bytes) {lo hi:Nat} (h:lo<=hi):(s.take hi).drop lo++s.drop hi=s.drop lo:=by
 have:=JB s lo hi h;have e:(s.take lo++((s.take hi).drop lo++s.drop hi)).drop lo=s.drop lo:=by rw [<-this]
 by_cases c:lo<=s.length
 ·rw [List.drop_left' (by rw [List.length_take];omega)] at e;exact e
 ·rw [List.drop_of_length_le (by rw [List.length_take];omega),List.drop_of_length_le (by omega),List.drop_of_length_le (by omega)];rfl
theorem jv {s:Bytes} {lo hi:Nat} (h1:lo<=hi) (hi2:hi<=s.length) (h:Zr s hi):apart ((s.take hi).drop lo) (s.drop hi):=by
 have hl:((s.take hi).drop lo).length=hi-lo:=by rw [List.length_drop,List.length_take];omega
 by_cases z:lo=hi
 ·left;exact List.length_eq_zero_iff.1 (by omega)
 ·rcases Zz hi2 h with g | g | g | g
  ·have:=congrArg List.length g;rw [List.length_take] at this;simp only [List.length_nil] at this;omega
  ·right;left;have e:gt ((s.take hi).drop lo) ((((s.take hi).drop lo).length:Int)-1)=gt (s.take hi) (((s.take hi).length:Int)-1):=by
    have h0:(s.take hi).take lo++(s.take hi).drop lo=s.take hi:=List.take_append_drop _ _;have hl2:((s.take hi).take lo).length=lo:=by rw [List.length_take,List.length_take];omega
    have hl3:(s.take hi).length=hi:=by rw [List.length_take];omega
    conv=>rhs;rw [<-h0]
    rw [D9 (by rw [hl2,h0,hl3];omega),hl2,h0,hl,hl3];congr 1;omega
   rw [e];exact g
  ·right;right;left;exact g
  ·right;right;right;exact g
theorem filter_all {α:Type} {p:α->Bool} {l:List α} (h: ∀x∈l,p x=true):l.filter p=l:=List.filter_eq_self.2 h
theorem LO {α:Type} {p:α->Bool} {l:List α} (h: ∀x∈l,p x=false):l.filter p=[]:=List.filter_eq_nil_iff.2 fun x hx=>by rw [h x hx];simp
theorem Vn {d:Nat} {X:Bytes} {e:Bytes×Nat} (h:e∈Hv d (Bx X 0)):d<=e.2/\e.2<d+X.length:=by
 obtain ⟨a,ha,rfl⟩:=List.mem_map.1 h;have:=(Uj ha).1;exact ⟨by show d<=d+a.2;omega,by show d+a.2<_;omega⟩
theorem nV {s:Bytes} {lo hi:Nat} (h1:lo<=hi) (h2:hi<=s.length) (b1:Zr s lo) (b2:Zr s hi):De s lo hi=(Bx s 0).filter fun e=>decide (lo<=e.2/\e.2<hi):=by
 have a1:=Zz (by omega) b1;rw [<-Xb s h1] at a1;have f:=bB a1 (jv h1 h2 b2);rw [<-JB s lo hi h1] at f;have l1:(s.take lo).length=lo:=by rw [List.length_take];omega
 have l2:((s.take hi).drop lo).length=hi-lo:=by rw [List.length_drop,List.length_take];omega
 rw [l1,l2] at f;rw [f,List.filter_append,List.filter_append,LO (l:=Bx (s.take lo) 0),filter_all (l:=Hv lo _),LO (l:=Hv (lo+(hi-lo)) _)]
 ·simp [De]
 ·intro e he;have:=Vn he;simp only [decide_eq_false_iff_not];omega
 ·intro e he;have:=Vn he;rw [l2] at this;simp only [decide_eq_true_eq];omega
 ·intro e he;have:=(Uj he).1;rw [l1] at this;simp only [decide_eq_false_iff_not];omega
theorem UW {s w:Bytes} {lo hi:Nat} (h1:lo<=hi) (h2:hi<=s.length) (b1:Zr s lo) (b2:Zr s hi):((De s lo hi).filter fun e=>e.1=w).map (fun e=>(e.2:Int))=Iz s w fun p=>(lo:Int)<=p/\p<hi:=by
 rw [nV h1 h2 b1 b2];unfold Iz Ew;rw [List.filter_map,List.filter_filter,List.filter_filter];congr 1;refine List.filter_congr fun e _=>?_;rw [Bool.and_comm];congr 1;simp only [Function.comp];rw [decide_eq_decide];omega
theorem VV (s w:Bytes) (Q:Int->Prop):(Iz s w Q).Pairwise fun a b=>a<b:=(XA s w).filter _
theorem cd {s w:Bytes} {Q:Int->Prop} {p:Int}:p∈Iz s w Q↔p∈Ew s w/\Q p:=by unfold Iz;rw [List.mem_filter];simp
theorem Pk {s w:Bytes} {P Q:Int->Prop} (h: ∀p∈Ew s w,(P p↔Q p)):Iz s w P=Iz s w Q:=List.filter_congr fun p hp=>by
 simp only [decide_eq_decide];exact h p hp
theorem HJ {s w:Bytes} {p:Int} (h:p∈Ew s w):0<=p/\p<s.length:=by
 unfold Ew at h;obtain ⟨e,he,rfl⟩:=List.mem_map.1 h;have:=(Uj (List.mem_filter.1 he).1).1;omega
theorem filter_or {α:Type} {p q:α->Bool}: ∀ {l:List α},(∀x∈l,¬(p x=true/\q x=true))->(l.filter p++l.filter q).Perm (l.filter fun x=>p x || q x)
 | [],_=>.refl _
 | a::l,h=>by
  have ih:=filter_or (l:=l) fun x hx=>h x (List.mem_cons_of_mem _ hx);have ha:=h a (List.mem_cons_self ..);simp only [List.filter_cons];cases hp:p a<;>cases hq:q a<;>simp only [hp,hq,Bool.false_or,Bool.true_or,Bool.or_false,Bool.or_true,if_true,if_false,Bool.false_eq_true] at*
  ·exact ih
  ·exact (List.perm_middle).trans (ih.cons a)
  ·exact ih.cons a
  ·exact absurd ⟨trivial,trivial⟩ ha
theorem UA {s w:Bytes} {P Q:Int->Prop} (h: ∀p,¬(P p/\Q p)):(Iz s w P++Iz s w Q).Perm (Iz s w fun p=>P p\/Q p):=by
 classical
 have:=filter_or (p:=fun x:Int=>decide (P x)) (q:=fun x=>decide (Q x)) (l:=Ew s w) (fun x _=>by simpa using h x);refine this.trans ?_;refine List.Perm.of_eq (List.filter_congr fun x _=>?_);by_cases a:P x<;>by_cases b:Q x<;>simp [a,b]
theorem ab {s w:Bytes}: ∀ {D:List Span} {last:Int},-1<=last->AP s.length last D->(∀t∈D,Zr s t.1.toNat/\Zr s t.2.toNat)->(D.flatMap fun t=>((De s t.1.toNat t.2.toNat).filter fun e=>e.1=w).map fun e=>(e.2:Int)).Perm (Iz s w (BT D))
 | [],last,_,_,_=>by
  have:Iz s w (BT [])=[]:=LO fun x _=>by simp [DP]
  rw [this];exact .refl _
 | t::D,last,hl,h,hb=>by
  obtain ⟨h1,h2,h3,h4⟩:=h;have b:=hb t (List.mem_cons_self ..);have ih:=ab (w:=w) (D:=D) (by omega) h4 fun x hx=>hb x (List.mem_cons_of_mem _ hx);rw [List.flatMap_cons,UW (by omega) (by omega) b.1 b.2];refine (List.Perm.append_left _ ih).trans ?_;refine (UA fun p=>?_).trans (.of_eq (Pk fun p _=>?_))
  ·rintro ⟨a1,a2⟩;have:=JH h4 a2;omega
  ·rw [A_];have:((t.1.toNat:Int)<=p/\p<(t.2.toNat:Int))↔(t.1<=p/\p<t.2):=by omega
   rw [this]
theorem nE {s:Bytes} {D:Int->Prop} (h:Whole s D) {i:Int} (h0:0<=i) (hd: ¬(D (i-1)↔D i)):Zr s i.toNat:=by
 by_cases z:i=0
 ·subst z;exact .inl rfl
 by_cases g:(s.length:Int)<=i
 ·exact .inr (.inl (by omega))
 have:=h i (by omega) (by omega);unfold Zr;rw [show ((i.toNat:Nat):Int)=i by omega];right;right;cases e1:O6 (gt s (i-1)) with
 | false=>exact .inl rfl
 | true=>
  cases e2:O6 (gt s i) with
  | false=>exact .inr rfl
  | true=>exact absurd (this e1 e2) hd
theorem Vl {n:Int}: ∀ {l:List Span} {last:Int},AP n last l-> ∀t∈l,(t.1-1≠last-> ¬BT l (t.1-1))/\BT l t.1/\BT l (t.2-1)/\ ¬BT l t.2
 | [],_,_,t,ht=>by simp at ht
 | s::l,last,⟨h1,h2,h3,h4⟩,t,ht=>by
  rcases List.mem_cons.1 ht with rfl | ht
  ·refine ⟨fun _ q=>?_,A_.2 (.inl ⟨by omega,h2⟩),A_.2 (.inl ⟨by omega,by omega⟩),fun q=>?_⟩
   ·rcases A_.1 q with q | q
    ·omega
    ·have:=JH h4 q;omega
   ·rcases A_.1 q with q | q
    ·omega
    ·have:=JH h4 q;omega
  ·have ih:=Vl h4 t ht;have m:=GL h4 t ht;refine ⟨fun _ q=>?_,A_.2 (.inr ih.2.1),A_.2 (.inr ih.2.2.1),fun q=>?_⟩
   ·rcases A_.1 q with q | q
    ·omega
    ·exact ih.1 (by intro e;have:=JH h4 q;omega) q
   ·rcases A_.1 q with q | q
    ·omega
    ·exact ih.2.2.2 q
theorem QB {s:Bytes} {D:List Span} (h:AP s.length (-1) D) (hw:Whole s (BT D)): ∀t∈D,Zr s t.1.toNat/\Zr s t.2.toNat:=fun t ht=>by
 obtain ⟨a,b,c,d⟩:=Vl h t ht;have m:=GL h t ht;refine ⟨?_,nE hw (by omega) fun q=>d (q.1 c)⟩;by_cases z:t.1=0
 ·rw [z];exact .inl rfl
 ·exact nE hw (by omega) fun q=>a (by omega) (q.2 b)
theorem kv {s:Bytes} {D:List Span} (h:AP s.length (-1) D) (hw:Whole s (BT D)) (w:Bytes):
  tM (Iz s w (fun p=> ¬BT D p)++D.flatMap fun t=>((De s t.1.toNat t.2.toNat).filter fun e=>e.1=w).map fun e=>(e.2:Int))=Ew s w:=by
 refine uV ?_ (XA s w);refine (List.Perm.append_left _ (ab (by omega) h (QB h hw))).trans ?_;refine (UA (P:=fun p=> ¬BT D p) (Q:=BT D) fun p q=>q.1 q.2).trans (.of_eq ?_);exact filter_all fun x _=>by simpa using (Classical.em (BT D x)).symm
theorem PI {α:Type} {p:α->Bool}: ∀ {l:List α} {x:α},x∈l.takeWhile p->p x=true
 | [],x,h=>by simp at h
 | a::l,x,h=>by
  rw [List.takeWhile_cons] at h;split at h
  ·rename_i ha;rcases List.mem_cons.1 h with rfl | h
   ·exact ha
   ·exact PI h
  ·simp at h
theorem Oq {a:Int}: ∀ {l:List Int},(l.Pairwise fun x y=>x<y)-> ∀x∈l.dropWhile fun x=>decide (x<a),a<=x
 | [],_,x,h=>by simp at h
 | b::l,hp,x,h=>by
  obtain ⟨h1,h2⟩:=List.pairwise_cons.1 hp;rw [List.dropWhile_cons] at h;split at h
  ·exact Oq h2 x h
  ·rename_i c;have c: ¬b<a:=by simpa using c
   rcases List.mem_cons.1 h with rfl | h
   ·omega
   ·have:=h1 x h;omega
theorem kj (l:List Int) (a:Int):(bK l a).Perm (a::l):=by
 unfold bK;refine List.perm_middle.trans ?_;rw [List.takeWhile_append_dropWhile]
theorem nx {l:List Int} {a:Int} (h:l.Pairwise fun x y=>x<y) (ha:a ∉ l):(bK l a).Pairwise fun x y=>x<y:=by
 unfold bK;have hs:l.Pairwise fun x y=>x<y:=h;rw [<-List.takeWhile_append_dropWhile (p:=fun x=>decide (x<a)) (l:=l)] at hs;obtain ⟨p1,p2,p3⟩:=List.pairwise_append.1 hs;have d:=Oq (a:=a) h;have t: ∀x∈l.takeWhile fun x=>decide (x<a),x<a:=fun x hx=>by simpa using PI hx
 refine List.pairwise_append.2 ⟨p1,List.pairwise_cons.2 ⟨fun x hx=>?_,p2⟩,fun x hx y hy=>?_⟩
 ·have:=d x hx;have hne:x≠a:=fun e=>ha (e▸(List.dropWhile_sublist _).subset hx);omega
 ·rcases List.mem_cons.1 hy with rfl | hy
  ·exact t x hx
  ·exact p3 x hx y hy
theorem Uv {u:Bytes}: ∀(E:List (Bytes×Nat)) (T:Bytes->List Int),((T u).Pairwise fun x y=>x<y)->(T u++((E.filter fun e=>e.1=u).map fun e=>(e.2:Int))).Nodup->
  ((E.foldl Ga T) u).Pairwise (fun x y=>x<y)/\((E.foldl Ga T) u).Perm (T u++((E.filter fun e=>e.1=u).map fun e=>(e.2:Int)))
 | [],T,h,_=>⟨h,by simp⟩
 | e::E,T,h,hn=>by
  by_cases c:e.1=u
  ·have hT:(Ga T e) u=bK (T u) e.2:=by unfold Ga;rw [if_pos c]
   have ef:((e::E).filter fun e=>e.1=u)=e::E.filter fun e=>e.1=u:=List.filter_cons_of_pos (by simpa using c);rw [ef,List.map_cons] at hn |-;have hp:((Ga T e) u++((E.filter fun e=>e.1=u).map fun e=>(e.2:Int))).Perm (T u++(e.2:Int)::((E.filter fun e=>e.1=u).map fun e=>(e.2:Int))):=by
    rw [hT];refine ((kj _ _).append_right _).trans ?_;exact List.perm_middle.symm
   have hna:(e.2:Int) ∉ T u:=fun hm=>(List.nodup_append.1 hn).2.2 _ hm _ (List.mem_cons_self ..) rfl;obtain ⟨g1,g2⟩:=Uv E (Ga T e) (by rw [hT];exact nx h hna) (hp.nodup_iff.2 hn);exact ⟨g1,g2.trans hp⟩
  ·have hT:(Ga T e) u=T u:=by unfold Ga;rw [if_neg c]
   have ef:((e::E).filter fun e=>e.1=u)=E.filter fun e=>e.1=u:=List.filter_cons_of_neg (by simpa using c);rw [ef] at hn |-;obtain ⟨g1,g2⟩:=Uv E (Ga T e) (by rw [hT];exact h) (by rw [hT];exact hn);rw [hT] at g2;exact ⟨g1,g2⟩
theorem jz {l:List Int} (h:l.Pairwise fun x y=>x<y):l.Nodup:=List.nodup_iff_pairwise_ne.2 (h.imp fun {a b} q=>by omega)
theorem tX {l m:List Int} (hp:l.Perm m) (h1:l.Pairwise fun a b=>a<b) (h2:m.Pairwise fun a b=>a<b):l=m:=by
 refine List.Perm.eq_of_pairwise (le:=fun a b:Int=>a<b) ?_ h1 h2 hp;intro a b _ _ h3 h4;omega
theorem XZ {s u:Bytes} {P:Int->Prop} {lo hi:Nat} (h1:lo<=hi) (h2:hi<=s.length) (b1:Zr s lo) (b2:Zr s hi) (hd: ∀p,¬(P p/\((lo:Int)<=p/\p<hi))) (k:Nat):
  (((De s lo hi).take k).foldl Ga (fun w=>Iz s w P) u).Pairwise (fun x y=>x<y)/\(((De s lo hi).take k).foldl Ga (fun w=>Iz s w P) u).Perm (Iz s u P++((((De s lo hi).take k).filter fun e=>e.1=u).map fun e=>(e.2:Int))):=by
 refine Uv _ _ (VV s u P) ?_;have hf:(Iz s u P++(((De s lo hi).filter fun e=>e.1=u).map fun e=>(e.2:Int))).Nodup:=by
  rw [UW h1 h2 b1 b2];exact (UA hd).nodup_iff.2 (jz (VV _ _ _))
 refine hf.sublist (List.Sublist.append_left (((List.take_sublist k _).filter _).map _) _)
theorem oW {s:Bytes} {P:Int->Prop} {lo hi:Nat} (h1:lo<=hi) (h2:hi<=s.length) (b1:Zr s lo) (b2:Zr s hi) (hd: ∀p,¬(P p/\((lo:Int)<=p/\p<hi))):
  (De s lo hi).foldl Ga (fun w=>Iz s w P)=fun w=>Iz s w fun p=>P p\/((lo:Int)<=p/\p<hi):=by
 funext u;have:=XZ (u:=u) h1 h2 b1 b2 hd (De s lo hi).length;rw [List.take_length] at this;refine tX (this.2.trans ?_) this.1 (VV _ _ _);rw [UW h1 h2 b1 b2];exact UA hd
theorem Pf {s:Bytes} {e:BW} (h:Bz s.length e) {lo hi:Nat} (hlo:lo=L7 s e.1.toNat) (hhi:hi=Kv s (e.1+e.2.1).toNat) {by_:Int} (hby:by_=e.2.2.length-e.2.1):
  ∃A m M C:Bytes,s=A++(m++C)/\AV s e=A++(M++C)/\A.length=lo/\m.length=hi-lo/\(M.length:Int)=hi+by_-lo/\lo<=e.1/\e.1+e.2.1<=hi/\hi<=s.length/\(∀Y,apart A Y)/\ ∀X,apart X C:=by
 have hm:=Bb.1 h;have hml:=CN h;obtain ⟨a,c,p⟩:=e;dsimp only at*;have l1:=YK s a.toNat;have l2:=Z_ s a.toNat;have l3:=YJ (s:=s) (n:=(a+c).toNat) (by omega);have l4:=Z0 (s:=s) (n:=(a+c).toNat) (by omega);rw [<-hlo] at l1 l2;rw [<-hhi] at l3 l4;have hle:lo<=hi:=by omega
 obtain ⟨M,hM⟩: ∃M:Bytes,M=(s.take a.toNat).drop lo++(p++(s.take hi).drop (a+c).toNat):=⟨_,rfl⟩
 have hMl:(M.length:Int)=hi+by_-lo:=by
  rw [hM,List.length_append,List.length_append,List.length_drop,List.length_drop,List.length_take,List.length_take];omega
 have hAl:(s.take lo).length=lo:=by rw [List.length_take];omega
 refine ⟨s.take lo,(s.take hi).drop lo,M,s.drop hi,JB s lo hi hle,?_,hAl,by rw [List.length_drop,List.length_take];omega,hMl,by omega,by omega,by omega,fun Y=>?_,fun X=>?_⟩
 ·unfold AV;have e1:s.take a.toNat=s.take lo++(s.take a.toNat).drop lo:=by
   have:s.take lo=(s.take a.toNat).take lo:=by rw [List.take_take,Nat.min_eq_left (by omega)]
   rw [this,List.take_append_drop]
  have e2:s.drop (a+c).toNat=(s.take hi).drop (a+c).toNat++s.drop hi:=(Xb s (by omega)).symm;show s.take a.toNat++p++s.drop (a+c).toNat=_;rw [e2,hM]
  conv=>lhs;rw [e1]
  simp only [List.append_assoc]
 ·rcases l2 with l2 | l2
  ·left;rw [l2];rfl
  ·by_cases z:lo=0
   ·left;rw [z];rfl
   ·right;left;rw [hAl];have:gt (s.take lo) ((lo:Int)-1)=gt s ((lo:Int)-1):=by
     have h0:s.take lo++s.drop lo=s:=List.take_append_drop lo s
     conv=>rhs;rw [<-h0]
     rw [D8 (by omega) (by omega)]
    rw [this];exact l2
 ·rcases l4 with l4 | l4
  ·right;right;left;rw [l4];exact List.drop_length ..
  ·right;right;right;have:gt (s.drop hi) 0=gt s (hi:Int):=by
    unfold gt;simp [List.getD,List.getElem?_drop]
   rw [this];exact l4
theorem W_ {X Y w:Bytes} (h:apart X Y):Ew (X++Y) w=Ew X w++(Ew Y w).map fun p=>(X.length:Int)+p:=by
 unfold Ew;rw [Rh h,List.filter_append,List.map_append];congr 1;unfold Hv;rw [List.filter_map,List.map_map,List.map_map];rfl
theorem Sf {A m C w:Bytes} (h1:apart A (m++C)) (h2:apart m C):Ew (A++(m++C)) w=Ew A w++((Ew m w).map (fun p=>(A.length:Int)+p)++(Ew C w).map fun p=>((A.length+m.length:Nat):Int)+p):=by
 rw [W_ h1,W_ h2,List.map_append,List.map_map];congr 2;exact List.map_congr_left fun p _=>by simp only [Function.comp];omega
theorem rH {p q:Int->Bool} {f g:Int->Option Int}: ∀ {l:List Int},(∀x∈l,p x=q x)->(∀x∈l,f x=g x)->(l.filter p).filterMap f=(l.filter q).filterMap g:=fun {l} h1 h2=>by
 rw [List.filter_congr h1];exact Hj fun x hx=>h2 x (List.mem_filter.1 hx).1
theorem fF {s:Bytes} {e:BW} (h:Bz s.length e) {lo hi:Nat} (hlo:lo=L7 s e.1.toNat) (hhi:hi=Kv s (e.1+e.2.1).toNat) {by_:Int} (hby:by_=e.2.2.length-e.2.1) (D:Int->Prop) (w:Bytes):
  (Iz s w (fun p=> ¬D p)).filterMap (ES lo hi by_)=Iz (AV s e) w fun p=> ¬aI D lo hi by_ p:=by
 obtain ⟨A,m,M,C,e1,e2,l1,l2,l3,l4,l5,l6,ap1,ap2⟩:=Pf h hlo hhi hby;have hm:=Bb.1 h;have hle:lo<=hi:=by omega
 classical
 unfold Iz;rw [e2,Sf (ap1 _) (ap2 _)]
 conv=>lhs;rw [e1,Sf (ap1 _) (ap2 _)]
 simp only [List.filter_append,List.filterMap_append];congr 1
 ·rw [O2]
  ·refine List.filter_congr fun p hp=>?_;have:=HJ hp;simp only [decide_eq_decide];unfold aI;constructor
   ·intro q r;rcases r with r | r | r
    ·exact q r.2
    ·omega
    ·omega
   ·intro q r;exact q (.inl ⟨by omega,r⟩)
  ·intro p hp;have:=HJ (List.mem_filter.1 hp).1;unfold ES;rw [if_pos (by omega)]
 congr 1
 ·rw [QU,LO]
  ·intro p hp;obtain ⟨q,hq,rfl⟩:=List.mem_map.1 hp;have:=HJ hq;simp only [decide_eq_false_iff_not,Classical.not_not];exact .inr (.inl ⟨by omega,by omega⟩)
  ·intro p hp;obtain ⟨q,hq,rfl⟩:=List.mem_map.1 (List.mem_filter.1 hp).1;have:=HJ hq;unfold ES;rw [if_neg (by omega),if_neg (by omega)]
 ·rw [List.filter_map,List.filter_map,List.filterMap_map];rw [<-List.filterMap_eq_map];refine rH (fun p hp=>?_) (fun p hp=>?_)
  ·have:=HJ hp;simp only [Function.comp,decide_eq_decide];have e5:((A.length+M.length:Nat):Int)+p-by_=((A.length+m.length:Nat):Int)+p:=by omega
   unfold aI;rw [e5];constructor
   ·intro q r;rcases r with r | r | r
    ·omega
    ·omega
    ·exact q r.2
   ·intro q r;exact q (.inr (.inr ⟨by omega,r⟩))
  ·have:=HJ hp;simp only [Function.comp];unfold ES;rw [if_neg (by omega),if_pos (by omega)];congr 1;omega
theorem g_ {s:Bytes} {e:BW} (h:Bz s.length e) {lo hi:Nat} (hlo:lo=L7 s e.1.toNat) (hhi:hi=Kv s (e.1+e.2.1).toNat) {by_:Int} (hby:by_=e.2.2.length-e.2.1) {D:Int->Prop} (hw:Whole s D):
  Whole (AV s e) (aI D lo hi by_):=by
 obtain ⟨A,m,M,C,e1,e2,l1,l2,l3,l4,l5,l6,ap1,ap2⟩:=Pf h hlo hhi hby;have hm:=Bb.1 h;have hle:lo<=hi:=by omega
 intro i h0 h1 p1 p2;rw [e2] at h1 p1 p2;have hL:((A++(M++C)).length:Int)=lo+M.length+C.length:=by simp only [List.length_append];omega
 have gA: ∀j:Int,0<=j->j<lo->gt (A++(M++C)) j=gt s j:=fun j a b=>by rw [e1,D8 a (by omega),D8 a (by omega)]
 have gC: ∀j:Int,hi+by_<=j->gt (A++(M++C)) j=gt s (j-by_):=fun j a=>by
  rw [e1,D9 (by omega),D9 (by omega),D9 (by omega),D9 (by omega)];congr 1;omega
 have sl:(s.length:Int)=lo+(hi-lo)+C.length:=by rw [e1];simp only [List.length_append];omega
 unfold aI;by_cases c1:i<lo
 ·rw [gA _ (by omega) (by omega)] at p1 p2;have:=hw i h0 (by omega) p1 p2;constructor
  ·rintro (q | q | q)
   ·exact .inl ⟨c1,this.1 q.2⟩
   ·omega
   ·omega
  ·rintro (q | q | q)
   ·exact .inl ⟨by omega,this.2 q.2⟩
   ·omega
   ·omega
 by_cases c2:i=lo
 ·subst c2;exfalso;rcases ap1 (M++C) with g | g | g | g
  ·have:=congrArg List.length g;simp only [List.length_nil] at this;omega
  ·rw [D8 (by omega) (by omega)] at p1;rw [show (A.length:Int)-1=(lo:Int)-1 by omega,p1] at g;cases g
  ·have:=congrArg List.length g;simp only [List.length_nil,List.length_append] at this;omega
  ·rw [D9 (by omega),show (lo:Int)-A.length=0 by omega,g] at p2;cases p2
 by_cases c3:i<hi+by_
 ·exact ⟨fun _=>.inr (.inl ⟨by omega,c3⟩),fun _=>.inr (.inl ⟨by omega,by omega⟩)⟩
 by_cases c4:i=hi+by_
 ·exfalso;rcases ap2 (A++M) with g | g | g | g
  ·have:=congrArg List.length g;simp only [List.length_nil,List.length_append] at this;omega
  ·rw [<-List.append_assoc,D8 (by omega) (by simp only [List.length_append];omega)] at p1;rw [show ((A++M).length:Int)-1=i-1 by simp only [List.length_append];omega,p1] at g;cases g
  ·have:=congrArg List.length g;simp only [List.length_nil] at this;omega
  ·rw [<-List.append_assoc,D9 (by simp only [List.length_append];omega),show i-((A++M).length:Int)=0 by simp only [List.length_append];omega,g] at p2;cases p2
 rw [gC _ (by omega)] at p1 p2;have:=hw (i-by_) (by omega) (by omega) (by rw [show i-by_-1=i-1-by_ by omega];exact p1) p2;rw [show i-by_-1=i-1-by_ by omega] at this;constructor
 ·rintro (q | q | q)
  ·omega
  ·omega
  ·exact .inr (.inr ⟨by omega,this.1 q.2⟩)
 ·rintro (q | q | q)
  ·omega
  ·omega
  ·exact .inr (.inr ⟨by omega,this.2 q.2⟩)
theorem SZ {s:Bytes} {e:BW} (h:Bz s.length e) {lo hi:Nat} (hlo:lo=L7 s e.1.toNat) (hhi:hi=Kv s (e.1+e.2.1).toNat) {by_:Int} (hby:by_=e.2.2.length-e.2.1) {D:List Span} (hD:AP s.length (-1) D):
  D1 (Dt D e)/\FI ((lo:Int),hi+by_)/\(∀j,BT (E8 (Dt D e) (lo,hi+by_)) j↔aI (BT D) lo hi by_ j)/\AP (AV s e).length (-1) (E8 (Dt D e) (lo,hi+by_)):=by
 obtain ⟨A,m,M,C,e1,e2,l1,l2,l3,l4,l5,l6,ap1,ap2⟩:=Pf h hlo hhi hby;have hm:=Bb.1 h;have hml:=CN h;have hle:lo<=hi:=by omega
 have hS: ∀j,Pm D e j->0<=j/\j<(AV s e).length:=fun j hj=>by
  rcases hj with ⟨i,a,b,c⟩ | hj
  ·have:=JH hD a;by_cases q:i<e.1
   ·rw [Jy q] at c;omega
   ·rw [Jx (by omega) (by omega)] at c;omega
  ·omega
 have cS:=NC (P:=Pm D e) fun j hj=>by have:=hS j hj;omega
 have cs:=HE cS (m:=(AV s e).length) (fun j hj=>(hS j hj).2) (by omega);have hP: ∀j,(BT (Dt D e) j\/((lo:Int)<=j/\j<hi+by_))↔aI (BT D) lo hi by_ j:=fun j=>by
  rw [show BT (Dt D e) j↔Pm D e j from cS.2 j];unfold aI Pm;constructor
  ·rintro ((⟨i,a,b,c⟩ | q) | q)
   ·by_cases c1:i<e.1
    ·rw [Jy c1] at c;subst c;by_cases c2:i<lo
     ·exact .inl ⟨c2,a⟩
     ·exact .inr (.inl ⟨by omega,by omega⟩)
    ·rw [Jx (by omega) (by omega)] at c;by_cases c2:j<hi+by_
     ·exact .inr (.inl ⟨by omega,c2⟩)
     ·exact .inr (.inr ⟨by omega,by rw [show j-by_=i by omega];exact a⟩)
   ·exact .inr (.inl ⟨by omega,by omega⟩)
   ·exact .inr (.inl q)
  ·rintro (q | q | q)
   ·exact .inl (.inl ⟨j,q.2,by omega,Jy (by omega)⟩)
   ·exact .inr q
   ·exact .inl (.inl ⟨j-by_,q.2,by omega,by rw [Jx (by omega) (by omega)];omega⟩)
 have hb: ∀j,(BT (Dt D e) j\/((lo:Int)<=j/\j<hi+by_))->0<=j/\j<(AV s e).length:=fun j hj=>by
  rcases hj with hj | hj
  ·exact hS j ((cS.2 j).1 hj)
  ·omega
 have cW:=NC (P:=fun j=>BT (Dt D e) j\/((lo:Int)<=j/\j<hi+by_)) fun j hj=>by have:=hb j hj;omega
 have cw:=HE cW (m:=(AV s e).length) (fun j hj=>(hb j hj).2) (by omega);exact ⟨⟨by have:=cs.2;show (Hf _).length<=_;omega,cS.1⟩,⟨by omega,by omega,by omega⟩,fun j=>(cW.2 j).trans (hP j),cw.1⟩
theorem TQ {s:Bytes} {P Q:Int->Prop} (h: ∀j,P j↔Q j) (hw:Whole s P):Whole s Q:=fun i a b c d=>by rw [<-h,<-h];exact hw i a b c d
theorem Qn {s:Bytes} {a b:Int} {D:List Span} (hs:s.length<=600) (hD:AP s.length (-1) ((a,b)::D)) (hw:Whole s (BT ((a,b)::D))) {h:Int} (h1:a<h) (h2:h<=b) (hb:Zr s h.toNat):
  D1 ((a,b)::D)/\(∀j,BT (Ao ((a,b)::D) (a,h)) j↔BT ((a,b)::D) j/\ ¬(a<=j/\j<h))/\AP s.length (-1) (Ao ((a,b)::D) (a,h))/\Whole s (BT (Ao ((a,b)::D) (a,h))):=by
 have hp:D1 ((a,b)::D):=⟨by have:=Q8 (by omega) hD;omega,Ns (by omega) (Int.le_refl _) hD⟩
 have hc:=Pz (s:=(a,h)) hp.2;have hk:=HE hc (m:=s.length) (fun j hj=>(JH hD hj.1).2) (by omega);refine ⟨hp,hc.2,hk.1,TQ (fun j=>(hc.2 j).symm) fun i i0 i1 p1 p2=>?_⟩;have w:=hw i i0 i1 p1 p2;show (BT _ (i-1)/\ ¬(a<=i-1/\i-1<h))↔(BT _ i/\ ¬(a<=i/\i<h));rw [w];by_cases c:i=h
 ·exfalso;subst c;rcases hb with g | g | g | g
  ·omega
  ·omega
  ·rw [show ((i.toNat:Nat):Int)=i by omega,p1] at g;cases g
  ·rw [show ((i.toNat:Nat):Int)=i by omega,p2] at g;cases g
 ·by_cases c2:i=a
  ·subst c2;have e1: ¬BT ((i,b)::D) (i-1):=(Vl hD _ (List.mem_cons_self ..)).1 (by show i-1≠ -1;omega);rw [<-w];exact ⟨fun q=>absurd q.1 e1,fun q=>absurd q.1 e1⟩
  ·have:(a<=i-1/\i-1<h)↔(a<=i/\i<h):=by omega
   rw [this]
end Go.Fu
end
section
namespace Go.Fu
open Go.Vc
noncomputable section
structure EN where
 h:CJ
 CM:List Span
 known:List Bool
 IB:List (Option Bytes)
abbrev Rq:=Int×EM×Int×Int×Bytes
abbrev TW:=Int×Int×Int×List Int×Bytes
def lH (c:Int):TW:=(c,0,0,[],[])
def JN:Int->List Bytes->List Bool->List Bool
 | many,l::L,k::K=>if many<=0 then k::K else if k=true then true::JN many L K else true::JN (many-(l.length+1)) L K
 | _,_,K=>K
def kC (s:Bytes) (D:List Span) (e:BW):List Span:=E8 (Dt D e) ((L7 s e.1.toNat:Int),(Kv s (e.1+e.2.1).toNat:Int)+(e.2.2.length-e.2.1))
def UL (s:Bytes) (K:List Bool) (e:BW):List Bool:=K.take (posOf (s.take e.1.toNat)).2.1.toNat++List.replicate ((posOf e.2.2).2.1+1).toNat false++K.drop ((posOf (s.take (e.1+e.2.1).toNat)).2.1.toNat+1)
def FZ:Bytes->List Span->List Bool->List BW->List Span×List Bool
 | s,D,K,[]=>(D,K)
 | s,D,K,e::l=>FZ (AV s e) (kC s D e) (UL s K e) l
def VE (s:Bytes) (a b many:Int):Int:=min b (Kv s (min b (a+many)).toNat:Int)
def O_ (s:Bytes) (D:List Span) (many:Int):List Span:=match D with | []=>[] | (a,b)::D=>Ao ((a,b)::D) (a,VE s a b many)
def Yg (E:EN):Prop:=E.CM=[]/\ ∀k∈E.known,k=true
def D5:List (Option Bytes)->Nat
 | []=>0
 | none::_=>0
 | some _::l=>D5 l+1
def Is (E:EN) (d:EM):EN×TW:=(⟨(C5 E.h d).1,(FZ E.h.text E.CM E.known (Dh E.h d)).1,(FZ E.h.text E.CM E.known (Dh E.h d)).2,E.IB⟩,lH (C5 E.h d).2)
def Gw (E:EN) (n size:Int):EN×TW:=
 if n<0\/1<n\/size<1\/50<size then (E,lH 2) else if n=0 then (⟨E.h,O_ E.h.text E.CM size,E.known,E.IB⟩,lH 0) else (⟨E.h,E.CM,JN size (AO E.h.text) E.known,E.IB⟩,lH 0)
def FO (s:Bytes) (n:Int):TW:=((Xi s n).2,(Xi s n).1.2.1,(Xi s n).1.2.2,[],[])
def FU (s w:Bytes):TW:=((Lx s w).2,0,0,(Lx s w).1,[])
def Ez (s:Bytes) (i:Int):TW:=if i<0\/(AO s).length<=i then lH 2 else (0,(D6 (gt (AO s) i)).1,0,[],[])
def Hh (E:EN):EN×TW:=if E.IB.length<=D5 E.IB then (E,lH 8) else (⟨E.h,E.CM,E.known,E.IB.set (D5 E.IB) (some E.h.text)⟩,(0,(D5 E.IB:Int),0,[],[]))
def pd (E:EN) (i:Int):Option Bytes:=if i<0 then none else E.IB.getD i.toNat none
def Hg (E:EN) (k i:Int):EN×TW:=match pd E i with
 | none=>(E,lH 7)
 | some t=>if k=8 then (E,(0,0,0,[],t)) else (⟨E.h,E.CM,E.known,E.IB.set i.toNat none⟩,lH 0)
def XJ (E:EN):Int:=open Classical in if Yg E then 1 else 0
def Cz (E:EN) (r:Rq):EN×TW:=
 if r.1=1 then Is E r.2.1
 else if r.1=2 then Gw E r.2.2.1 r.2.2.2.1
 else if r.1=3 then (E,FO E.h.text r.2.2.1)
 else if r.1=4 then (E,FU E.h.text r.2.2.2.2)
 else if r.1=5 then (E,Ez E.h.text r.2.2.1)
 else if r.1=6 then Hh E
 else if r.1=7\/r.1=8 then Hg E r.1 r.2.2.1
 else if r.1=9 then (E,(0,XJ E,0,[],[]))
 else (E,lH 3)
def Az (s:Bytes):EN:=⟨Dy s,E8 [] (0,(s.length:Int)),List.replicate (AO s).length false,[none,none,none,none]⟩
def Bu (E:EN):List Rq->List TW
 | []=>[]
 | r::l=>(Cz E r).2::Bu (Cz E r).1 l
def BX (E:EN):List Rq->List Bytes
 | []=>[]
 | r::l=>(Cz E r).1.h.text::BX (Cz E r).1 l
def Ek (E:EN) (l:List Rq):EN:=l.foldl (fun E r=>(Cz E r).1) E
def JC (s:Bytes) (l:List Rq):Prop:=600<s.length\/80<l.length
def DA (s:Bytes) (l:List Rq):List TW×List Bytes×Int:=K0 (JC s l) ([],[],1) (Bu (Az s) l,BX (Az s) l,0)
structure v_ where
 e:EN
 w0:Int
 w1:Int
def mD (s:Bytes) (D:List Span):Nat:=open Classical in ((List.range s.length).filter fun j:Nat=>decide (BT D (j:Int))).length
def tR (K:List Bool):Nat:=(K.filter fun k=> !k).length
structure Hb (k:Nat) (E:EN):Prop where
 h:Gd k E.h
 d:AP E.h.text.length (-1) E.CM
 w:Whole E.h.text (BT E.CM)
 k:E.known.length=(AO E.h.text).length
 sn:E.IB.length=4
end
theorem OV: ∀(many:Int) (L:List Bytes) (K:List Bool),(JN many L K).length=K.length
 | many,[],K=>by cases K<;>rfl
 | many,l::L,[]=>rfl
 | many,l::L,k::K=>by
  unfold JN;split
  ·rfl
  ·split
   ·simp [OV]
   ·simp [OV]
theorem RK (k:Bool) (K:List Bool):tR (k::K)=(if k=true then 0 else 1)+tR K:=by
 unfold tR;cases k<;>simp<;>omega
theorem O3 {α:Type} {p q:α->Bool}: ∀ {l:List α},(∀x∈l,q x=true->p x=true)->(l.filter q).length<=(l.filter p).length/\((∃x∈l,p x=true/\q x=false)->(l.filter q).length<(l.filter p).length)
 | [],_=>⟨Nat.le_refl _,fun ⟨x,h,_⟩=>by simp at h⟩
 | a::l,h=>by
  have ih:=O3 (l:=l) fun x hx=>h x (List.mem_cons_of_mem _ hx);have ha:=h a (List.mem_cons_self ..);simp only [List.filter_cons];refine ⟨?_,?_⟩
  ·cases hq:q a
   ·simp only [Bool.false_eq_true,if_false];split
    ·simp only [List.length_cons];omega
    ·exact ih.1
   ·rw [ha hq];simp only [if_true,List.length_cons];omega
  ·rintro ⟨x,hx,h1,h2⟩;rcases List.mem_cons.1 hx with rfl | hx
   ·rw [h1,h2];simp only [if_true,Bool.false_eq_true,if_false,List.length_cons];omega
   ·have:=ih.2 ⟨x,hx,h1,h2⟩;cases hq:q a
    ·simp only [Bool.false_eq_true,if_false];split
     ·simp only [List.length_cons];omega
     ·exact this
    ·rw [ha hq];simp only [if_true,List.length_cons];omega
theorem uC (s:Bytes):mD s []=0:=by
 unfold mD;rw [LO fun x _=>by simp [DP]];rfl
theorem rX {s:Bytes} {D D':List Span} (h: ∀j,BT D' j->BT D j) {a:Int} (h0:0<=a) (h1:a<s.length) (h2:BT D a) (h3: ¬BT D' a):mD s D'<mD s D:=by
 unfold mD;refine (O3 fun x _ q=>?_).2 ⟨a.toNat,List.mem_range.2 (by omega),?_,?_⟩
 ·simp only [decide_eq_true_eq] at*;exact h _ q
 ·simp only [decide_eq_true_eq];rw [Int.toNat_of_nonneg h0];exact h2
 ·simp only [decide_eq_false_iff_not];rw [Int.toNat_of_nonneg h0];exact h3
theorem bq {s:Bytes} {a b many:Int} {D:List Span} (h:AP s.length (-1) ((a,b)::D)) (hm:0<many) (hw:Whole s (BT ((a,b)::D))):a<VE s a b many/\VE s a b many<=b/\Zr s (VE s a b many).toNat:=by
 obtain ⟨h1,h2,h3,h4⟩:=h;dsimp only at h1 h2 h3;have l:=YJ (s:=s) (n:=(min b (a+many)).toNat) (by omega);have le:=Z0 (s:=s) (n:=(min b (a+many)).toNat) (by omega);unfold VE;refine ⟨by omega,by omega,?_⟩;by_cases c:b<=(Kv s (min b (a+many)).toNat:Int)
 ·rw [show min b (Kv s (min b (a+many)).toNat:Int)=b by omega];exact (QB (D:=(a,b)::D) ⟨h1,h2,h3,h4⟩ hw _ (List.mem_cons_self ..)).2
 ·rw [show min b (Kv s (min b (a+many)).toNat:Int)=(Kv s (min b (a+many)).toNat:Int) by omega,Int.toNat_natCast];rcases le with g | g
  ·exact .inr (.inl (by omega))
  ·exact .inr (.inr (.inr g))
theorem oU {s:Bytes} {D:List Span} {many:Int} (hs:s.length<=600) (hD:AP s.length (-1) D) (hw:Whole s (BT D)) (hm:0<many):
  AP s.length (-1) (O_ s D many)/\Whole s (BT (O_ s D many))/\mD s (O_ s D many)<=mD s D/\(0<mD s D->mD s (O_ s D many)<mD s D)/\(D=[]->O_ s D many=[]):=by
 cases D with
 | nil=>exact ⟨hD,hw,Nat.le_refl _,fun h=>absurd h (by rw [uC];omega),fun _=>rfl⟩
 | cons t D=>
  obtain ⟨a,b⟩:=t;obtain ⟨b1,b2,b3⟩:=bq hD hm hw;obtain ⟨p,q1,q2,q3⟩:=Qn hs hD hw b1 b2 b3;have m:=GL hD _ (List.mem_cons_self ..);dsimp only at m;have hl:mD s (O_ s ((a,b)::D) many)<mD s ((a,b)::D):=rX (fun j hj=>((q1 j).1 hj).1) (a:=a) (by omega) (by omega) ⟨(a,b),List.mem_cons_self ..,Int.le_refl _,m.2.1⟩ fun h=>((q1 a).1 h).2 ⟨Int.le_refl _,b1⟩;exact ⟨q2,q3,by omega,fun _=>hl,fun h=>by cases h⟩
theorem nH {s:Bytes} {K:List Bool} {e:BW} (h:Bz s.length e) (hk:K.length=(AO s).length):(UL s K e).length=(AO (AV s e)).length:=by
 have hA:=(Iy (s.take e.1.toNat)).2.1;have hB:=(Iy (s.take (e.1+e.2.1).toNat)).2.1;have hP:=(Iy e.2.2).2.1;obtain ⟨M,m1,m2,m3,m4⟩:=aN h (a:=(posOf (s.take e.1.toNat)).2.1.toNat) (b:=(posOf (s.take (e.1+e.2.1).toNat)).2.1.toNat) (by omega) (by omega);unfold UL;rw [m4];simp only [List.length_append,List.length_take,List.length_drop,List.length_replicate];omega
theorem RQ: ∀(l:List BW) {s:Bytes} {D:List Span} {K:List Bool},Cl s.length l=0->AP s.length (-1) D->Whole s (BT D)->K.length=(AO s).length->
  AP (AY s l).length (-1) (FZ s D K l).1/\Whole (AY s l) (BT (FZ s D K l).1)/\(FZ s D K l).2.length=(AO (AY s l)).length
 | [],s,D,K,_,h1,h2,h3=>⟨h1,h2,h3⟩
 | e::l,s,D,K,hc,h1,h2,h3=>by
  obtain ⟨c1,c2⟩:=CE.1 hc;rw [<-CN c1] at c2;obtain ⟨_,_,g3,g4⟩:=SZ c1 rfl rfl rfl h1;have g5:=g_ c1 rfl rfl rfl h2;exact RQ l c2 g4 (TQ (fun j=>(g3 j).symm) g5) (nH c1 h3)
theorem XL {k:Nat} {h:CJ} (i:Gd k h) (d:EM):Cl h.text.length (Dh h d)=0/\AY h.text (Dh h d)=(C5 h d).1.text/\((C5 h d).2≠0->Dh h d=[]/\(C5 h d).1=h)/\(Dh h d).length<=k+1:=by
 unfold Dh C5;by_cases c1:d.1=1
 ·rw [if_pos c1,if_pos c1];by_cases c:BO h.text.length d.2≠0
  ·rw [if_pos c,if_pos c];exact ⟨rfl,rfl,fun _=>⟨rfl,rfl⟩,by simp⟩
  ·rw [if_neg c,if_neg c];exact ⟨CE.2 ⟨Classical.not_not.1 c,rfl⟩,rfl,fun q=>absurd rfl q,by simp⟩
 rw [if_neg c1,if_neg c1];by_cases c2:d.1=2
 ·rw [if_pos c2,if_neg (by omega),if_neg (by omega)];exact ⟨rfl,rfl,fun q=>absurd rfl q,by simp⟩
 rw [if_neg c2];by_cases c3:d.1=3
 ·rw [if_pos c3,if_pos c3];by_cases c:h.BD=[]
  ·rw [if_pos c,if_pos c];exact ⟨rfl,rfl,fun _=>⟨rfl,rfl⟩,by simp⟩
  ·rw [if_neg c,if_neg c];have p:=i.cN;rw [EH c,List.reverse_append] at p;have g:=(i.mT _ (List.mem_append_left _ (LU c))).2;exact ⟨p.1,rfl,fun q=>absurd rfl q,by rw [List.length_reverse];omega⟩
 rw [if_neg c3,if_neg c3];by_cases c4:d.1=4
 ·rw [if_pos c4,if_pos c4];by_cases c:h.Dc=[]
  ·rw [if_pos c,if_pos c];exact ⟨rfl,rfl,fun _=>⟨rfl,rfl⟩,by simp⟩
  ·rw [if_neg c,if_neg c];have p:=i.ui;rw [EH c,List.reverse_append] at p;have g:=(i.mT _ (List.mem_append_right _ (LU c))).1;exact ⟨p.1,rfl,fun q=>absurd rfl q,by omega⟩
 rw [if_neg c4,if_neg c4];exact ⟨rfl,rfl,fun _=>⟨rfl,rfl⟩,by simp⟩
theorem Hb.edits {k:Nat} {E:EN} (i:Hb k E) (d:EM):Hb (k+1) (Is E d).1:=by
 obtain ⟨a,b,c,_⟩:=XL i.h d;obtain ⟨g1,g2,g3⟩:=RQ (Dh E.h d) a i.d i.w i.k;rw [b] at g1 g2 g3;exact ⟨i.h.u6 d,g1,g2,g3,i.sn⟩
theorem Hb.more {k:Nat} {E:EN} (i:Hb k E):Hb (k+1) E:=⟨i.h.more,i.d,i.w,i.k,i.sn⟩
theorem Hb.snap {k:Nat} {E:EN} (i:Hb k E):Hb k (Hh E).1:=by
 unfold Hh;split
 ·exact i
 ·exact ⟨i.h,i.d,i.w,i.k,by simp [i.sn]⟩
theorem Hb.read {k:Nat} {E:EN} (i:Hb k E) (n j:Int):Hb k (Hg E n j).1:=by
 unfold Hg;split
 ·exact i
 ·split
  ·exact i
  ·exact ⟨i.h,i.d,i.w,i.k,by simp [i.sn]⟩
theorem Hb.work {k:Nat} {E:EN} (i:Hb k E) (n z:Int):Hb k (Gw E n z).1:=by
 unfold Gw;split
 ·exact i
 ·rename_i c;split
  ·have:=oU i.h.len i.d i.w (many:=z) (by omega);exact ⟨i.h,this.1,this.2.1,i.k,i.sn⟩
  ·exact ⟨i.h,i.d,i.w,by rw [OV];exact i.k,i.sn⟩
theorem Hb.xM {k:Nat} {E:EN} (i:Hb k E) (r:Rq):Hb (k+1) (Cz E r).1:=by
 unfold Cz;split
 ·exact i.edits _
 split
 ·exact (i.work _ _).more
 split
 ·exact i.more
 split
 ·exact i.more
 split
 ·exact i.more
 split
 ·exact i.snap.more
 split
 ·exact (i.read _ _).more
 split
 ·exact i.more
 ·exact i.more
theorem V3 {n:Int} (h0:0<=n) (h:n<=1000000):(∀j,BT (E8 [] (0,n)) j↔0<=j/\j<n)/\AP n (-1) (E8 [] (0,n)):=by
 have hc:=NC (P:=fun j=>BT [] j\/(0<=j/\j<n)) fun j hj=>by
  rcases hj with hj | hj
  ·exact absurd hj (DP _)
  ·omega
 have hk:=HE hc (m:=n) (fun j hj=>by
  rcases hj with hj | hj
  ·exact absurd hj (DP _)
  ·omega) (by omega)
 exact ⟨fun j=>(hc.2 j).trans ⟨fun q=>q.elim (fun q=>absurd q (DP _)) id,.inr⟩,hk.1⟩
theorem Hb.new {s:Bytes} (h:s.length<=600):Hb 0 (Az s):=by
 obtain ⟨a,b⟩:=V3 (n:=s.length) (by omega) (by omega);exact ⟨Gd.new h,b,fun i h0 h1 _ _=>by rw [show BT (Az s).CM (i-1)↔_ from a _,show BT (Az s).CM i↔_ from a _];have h1:i<s.length:=h1;omega,by simp [Az,Dy],rfl⟩
end Go.Fu
end
section
namespace Go.Fu
open Go.Vc
abbrev ub:Ty:= .st (.cons tI (.cons gg (.cons tI (.cons tI (.cons .str .nil)))))
abbrev TN:Ty:= .st (.cons tI (.cons tI (.cons tI (.cons (.sl tI) (.cons .str .nil)))))
abbrev OT (l:List Rq):Prop:= ∀r∈l,Ec r.2.1.2/\M3 r.2.2.2.2
abbrev Ra (s:Bytes) (l:List Rq):Prop:=M3 s/\JE l/\OT l
noncomputable def Fs:Ct:=⟨Mg .str (.sl ub),[.val (.sl TN),.val (.sl .str),.val tI],fun x=>Ra x.1 x.2,fun x=>DA x.1 x.2⟩
def law_EnginePlays_ct:Ct:=⟨Mg .str (.sl ub),[.val .bool],fun x=>Ra x.1 x.2,fun _=>true⟩
theorem ak (E:EN) (l:List Rq) (r:Rq):Ek E (l++[r])=(Cz (Ek E l) r).1:=by simp [Ek]
theorem O0: ∀(l:List Rq) (E:EN) (r:Rq),Bu E (l++[r])=Bu E l++[(Cz (Ek E l) r).2]
 | [],E,r=>rfl
 | x::l,E,r=>by simp only [List.cons_append,Bu];rw [O0 l _ r];rfl
theorem Oz: ∀(l:List Rq) (E:EN) (r:Rq),BX E (l++[r])=BX E l++[(Cz (Ek E l) r).1.h.text]
 | [],E,r=>rfl
 | x::l,E,r=>by simp only [List.cons_append,BX];rw [Oz l _ r];rfl
theorem FE: ∀(l:List Rq) (E:EN),(Bu E l).length=l.length
 | [],E=>rfl
 | x::l,E=>by simp [Bu,FE l]
theorem GC: ∀(l:List Rq) (E:EN),(BX E l).length=l.length
 | [],E=>rfl
 | x::l,E=>by simp [BX,GC l]
theorem Hb.run {s:Bytes} (h:s.length<=600) (l:List Rq):Hb l.length (Ek (Az s) l):=by
 have: ∀(l:List Rq) (n:Nat) (E:EN),Hb n E->Hb (n+l.length) (Ek E l):=by
  intro l
  induction l with
  | nil=>intro n E i;exact i
  | cons d l ih=>
   intro n E i;have:=ih (n+1) (Cz E d).1 (i.xM d);rw [show n+1+l.length=n+(l.length+1) by omega] at this;exact this
 have:=this l 0 _ (Hb.new h);rwa [Nat.zero_add] at this
theorem Sc {s:Bytes} {l:List Rq} (h: ¬JC s l):DA s l=(Bu (Az s) l,BX (Az s) l,0):=by unfold DA K0;rw [if_neg h]
theorem kJ {s:Bytes} {l:List Rq} (h:JC s l):DA s l=([],[],1):=by unfold DA K0;rw [if_pos h]
section
variable {R : v_} {r : Rq}
end
end Go.Fu
end
section
namespace Go.Fu
open Go.Vc
abbrev tO:Ty:= .st (.cons tI (.cons vV .nil))
abbrev sS:Ty:= .st (.cons tI (.cons tO (.cons tI (.cons tI (.cons (.sl tI) .nil)))))
abbrev mi:=Int×(Int×Int×List Int)
abbrev Ask:=Int×mi×Int×Int×List Int
noncomputable section
def Js (t:mi) (size:Int):EM:=if 4<AS t.1 8 then (AS t.1 8-3,(0,0,[])) else (1,Jv t.2 size)
def Gu (l:List mi) (n size:Int):List EM:=(l.take n.toNat).map fun t=>Js t size
def d0:EM:=(0,(0,0,[]))
def I0 (a:Ask) (size:Int):Rq:=
 if 9<AS a.1 14 then (2,d0,AS a.2.2.1 2,1+AS a.2.2.2.1 20,[])
 else if AS a.1 14=9 then (3,d0,AS a.2.2.1 (size+2),0,[])
 else if AS a.1 14=8 then (4,d0,0,0,H_ a.2.2.2.2 3)
 else if AS a.1 14=7 then (5,d0,AS a.2.2.1 6,0,[])
 else if AS a.1 14=6 then (6,d0,0,0,[])
 else if AS a.1 14=5 then (8,d0,AS a.2.2.1 4,0,[])
 else if AS a.1 14=4 then (7,d0,AS a.2.2.1 4,0,[])
 else (1,Js a.2.1 size,0,0,[])
def MV (l:List Ask) (n size:Int):List Rq:=(l.take n.toNat).map fun a=>I0 a size
abbrev jc (t:mi):Prop:=AH t.1/\AH t.2.1/\AH t.2.2.1/\ ∀i∈t.2.2.2,AH i
abbrev nA (a:Ask):Prop:=AH a.1/\jc a.2.1/\AH a.2.2.1/\AH a.2.2.2.1/\ ∀i∈a.2.2.2.2,AH i
abbrev oE (l:List mi) (n size:Int):Prop:=(∀t∈l,jc t)/\0<=n/\n<=1000/\0<=size/\size<=590
abbrev oO (l:List Ask) (n size:Int):Prop:=(∀a∈l,nA a)/\0<=n/\n<=1000/\0<=size/\size<=590
def Gm:Ct:=⟨uc (.sl tO) tI tI,[.own gg],fun x=>oE x.1 x.2.1 x.2.2,fun x=>Gu x.1 x.2.1 x.2.2⟩
def GH:Ct:=⟨uc (.sl sS) tI tI,[.own ub],fun x=>oO x.1 x.2.1 x.2.2,fun x=>MV x.1 x.2.1 x.2.2⟩
abbrev Zf {α:Type} (l:List α):Prop:=l.length<=140737488351232
abbrev tP (t:List Int) (l:List Ask) (a:Int) (w:List Int):Prop:=(Zf t/\ ∀i∈t,AH i)/\(Zf l/\ ∀x∈l,nA x)/\AH a/\Zf w/\ ∀i∈w,AH i
def law_TopEngine_ct:Ct:=⟨wx (.sl tI) (.sl sS) tI (.sl tI),[.val .bool],fun x=>tP x.1 x.2.1 x.2.2.1 x.2.2.2,fun _=>true⟩
def Ge (l:List Rq):List EM:=(l.filter fun r=>decide (r.1=1)).map fun r=>r.2.1
end
theorem q_ (E:EN) (r:Rq):(Cz E r).1.h=if r.1=1 then (C5 E.h r.2.1).1 else E.h:=by
 unfold Cz;split
 ·rfl
 split
 ·unfold Gw;split
  ·rfl
  ·split<;>rfl
 split
 ·rfl
 split
 ·rfl
 split
 ·rfl
 split
 ·unfold Hh;split<;>rfl
 split
 ·unfold Hg;split
  ·rfl
  ·split<;>rfl
 split
 ·rfl
 ·rfl
theorem UY: ∀(l:List Rq) (E:EN),(Ek E l).h=KS E.h (Ge l)
 | [],E=>rfl
 | r::l,E=>by
  have e:Ek E (r::l)=Ek (Cz E r).1 l:=rfl;rw [e,UY l,q_];unfold Ge;by_cases c:r.1=1
  ·rw [if_pos c,List.filter_cons_of_pos (by simp [c])];rfl
  ·rw [if_neg c,List.filter_cons_of_neg (by simp [c])]
theorem Ry {E:EN} {r:Rq} (h:r.1=3\/r.1=4\/r.1=5):(Cz E r).1=E/\(Cz E r).2=(if r.1=3 then FO E.h.text r.2.2.1 else if r.1=4 then FU E.h.text r.2.2.2.2 else Ez E.h.text r.2.2.1):=by
 unfold Cz;rw [if_neg (by omega),if_neg (by omega)];by_cases c3:r.1=3
 ·rw [if_pos c3,if_pos c3];exact ⟨rfl,rfl⟩
 rw [if_neg c3,if_neg c3];by_cases c4:r.1=4
 ·rw [if_pos c4,if_pos c4];exact ⟨rfl,rfl⟩
 rw [if_neg c4,if_neg c4,if_pos (by omega)];exact ⟨rfl,rfl⟩
theorem Mm: ∀(l l':List Rq) (E:EN),Bu E (l++l')=Bu E l++Bu (Ek E l) l'
 | [],l',E=>rfl
 | r::l,l',E=>by simp only [List.cons_append,Bu];rw [Mm l l'];rfl
theorem Ml: ∀(l l':List Rq) (E:EN),BX E (l++l')=BX E l++BX (Ek E l) l'
 | [],l',E=>rfl
 | r::l,l',E=>by simp only [List.cons_append,BX];rw [Ml l l'];rfl
theorem VG: ∀(l:List Rq) (E E':EN),(∀r∈l,r.1=3\/r.1=4\/r.1=5)->E.h.text=E'.h.text->Bu E l=Bu E' l/\BX E l=l.map fun _=>E.h.text
 | [],E,E',_,_=>⟨rfl,rfl⟩
 | r::l,E,E',h,ht=>by
  obtain ⟨a1,a2⟩:=Ry (E:=E) (h r (List.mem_cons_self ..));obtain ⟨b1,b2⟩:=Ry (E:=E') (h r (List.mem_cons_self ..));have ih:=VG l E E' (fun x hx=>h x (List.mem_cons_of_mem _ hx)) ht;simp only [Bu,BX,List.map_cons];rw [a1,b1,a2,b2,ht,ih.1,ih.2,ht];exact ⟨rfl,rfl⟩
end Go.Fu
end
section
namespace Go.Fu
open Go.Vc
noncomputable section
def GI (a:Int) (w:List Int):List Rq:=[(3,d0,AS a 60,0,[]),(4,d0,0,0,H_ w 2++[98]),(5,d0,AS a 5,0,[])]
end
theorem jK {a n:Int} (h:0<n):0<=AS a n/\AS a n<n:=⟨Int.emod_nonneg a (by omega),Int.emod_lt_of_pos a h⟩
theorem nW {c:vz} {z:Int} (h0:0<=z) (h1:z<=590):Ec (Jv c z):=by
 obtain ⟨a1,a2⟩:=jK (a:=c.1) (n:=z+1) (by omega);obtain ⟨b1,b2⟩:=jK (a:=c.2.1) (n:=min (z-AS c.1 (z+1)) 12+1) (by omega);have:=Vv c.2.2 8;unfold Jv;exact ⟨by show AH (AS c.1 (z+1));unfold AH;omega,by show AH (AS c.2.1 _);unfold AH;omega,by show (Gb c.2.2 8).length<=_;omega⟩
theorem Jq:Ec d0.2:=⟨by show AH 0;unfold AH;omega,by show AH 0;unfold AH;omega,by show (0:Nat)<=_;omega⟩
theorem sJ {a:Ask} {z:Int} (h0:0<=z) (h1:z<=590):Ec (I0 a z).2.1.2/\M3 (I0 a z).2.2.2.2:=by
 have f0:M3 ([]:List UInt8):=by simp
 have fw:=T6 a.2.2.2.2 3;unfold I0;split
 ·exact ⟨Jq,f0⟩
 split
 ·exact ⟨Jq,f0⟩
 split
 ·exact ⟨Jq,by show (H_ a.2.2.2.2 3).length<=_;omega⟩
 split
 ·exact ⟨Jq,f0⟩
 split
 ·exact ⟨Jq,f0⟩
 split
 ·exact ⟨Jq,f0⟩
 split
 ·exact ⟨Jq,f0⟩
 refine ⟨?_,f0⟩;show Ec (Js a.2.1 z).2;unfold Js;split
 ·exact Jq
 ·exact nW h0 h1
theorem pS {l:List Ask} {n z:Int} (h0:0<=z) (h1:z<=590):OT (MV l n z):=fun r hr=>by
 obtain ⟨a,_,rfl⟩:=List.mem_map.1 hr;exact sJ h0 h1
theorem pT (l:List Ask) (n z:Int):(MV l n z).length<=n.toNat:=by
 unfold MV;rw [List.length_map,List.length_take];omega
theorem k9 (a:Int) (w:List Int):OT (GI a w):=fun r hr=>by
 have:=T6 w 2;unfold GI at hr;rcases List.mem_cons.1 hr with rfl | hr
 ·exact ⟨Jq,by simp⟩
 rcases List.mem_cons.1 hr with rfl | hr
 ·exact ⟨Jq,by show (H_ w 2++[98]).length<=_;rw [List.length_append];show _+1<=_;omega⟩
 rw [List.mem_singleton.1 hr];exact ⟨Jq,by simp⟩
theorem kI (l:List Rq) (r:Rq):Ge (l++[r])=Ge l++(if r.1=1 then [r.2.1] else []):=by
 unfold Ge;rw [List.filter_append,List.map_append];by_cases c:r.1=1<;>simp [c]
theorem UU (l:List Rq):(Ge l).length<=l.length:=by
 unfold Ge;rw [List.length_map];exact List.length_filter_le _ _
theorem nT {l:List Rq} (hl:JE l) (h:OT l):aX (Ge l):=by
 have:=UU l;refine ⟨by show (Ge l).length<=_;have:l.length<=_:=hl;omega,fun d hd=>?_⟩;unfold Ge at hd;obtain ⟨r,h1,rfl⟩:=List.mem_map.1 hd;exact (h r (List.mem_filter.1 h1).1).1
theorem bD (h:CJ): ∀ {ds:List EM},ds≠[]->(ET h ds)[ds.length-1]?=some (KS h ds).text:=fun {ds} hne=>by
 obtain ⟨ds',d,rfl⟩: ∃ds' d,ds=ds'++[d]:=⟨_,_,(List.dropLast_concat_getLast hne).symm⟩
 rw [NR,Ja,List.length_append];show _[ds'.length]?=_;rw [List.getElem?_append_right (by rw [II];exact Nat.le_refl _),II,Nat.sub_self];rfl
theorem fh (s:Bytes) (rs:List Rq) (a:Int) (w:List Int):Bu (Az s) (rs++GI a w)=Bu (Az s) rs++Bu (Az (KS (Dy s) (Ge rs)).text) (GI a w)/\
  BX (Az s) (rs++GI a w)=BX (Az s) rs++(GI a w).map fun _=>(KS (Dy s) (Ge rs)).text:=by
 have e:(Ek (Az s) rs).h=KS (Dy s) (Ge rs):=UY rs (Az s);have hk: ∀r∈GI a w,r.1=3\/r.1=4\/r.1=5:=fun r hr=>by
  unfold GI at hr;rcases List.mem_cons.1 hr with rfl | hr
  ·exact .inl rfl
  rcases List.mem_cons.1 hr with rfl | hr
  ·exact .inr (.inl rfl)
  rw [List.mem_singleton.1 hr];exact .inr (.inr rfl)
 obtain ⟨h1,h2⟩:=VG (GI a w) (Ek (Az s) rs) (Az (KS (Dy s) (Ge rs)).text) hk (by rw [e];rfl);rw [Mm,Ml,h1,h2,e];exact ⟨rfl,rfl⟩
theorem oY (s:Bytes) (l:List Rq) (h: ∀r∈l,r.1=3\/r.1=4\/r.1=5): ∀t∈Bu (Az s) l,∃r:Rq,t=(if r.1=3 then FO s r.2.2.1 else if r.1=4 then FU s r.2.2.2.2 else Ez s r.2.2.1):=by
 have: ∀(l:List Rq) (E:EN),(∀r∈l,r.1=3\/r.1=4\/r.1=5)->E.h.text=s-> ∀t∈Bu E l,∃r:Rq,t=(if r.1=3 then FO s r.2.2.1 else if r.1=4 then FU s r.2.2.2.2 else Ez s r.2.2.1):=by
  intro l
  induction l with
  | nil=>intro E _ _ t ht;cases ht
  | cons r l ih=>
   intro E hk hE t ht;obtain ⟨a1,a2⟩:=Ry (E:=E) (hk r (List.mem_cons_self ..));rcases List.mem_cons.1 ht with rfl | ht
   ·exact ⟨r,by rw [a2,hE]⟩
   ·rw [a1] at ht;exact ih E (fun x hx=>hk x (List.mem_cons_of_mem _ hx)) hE t ht
 exact this l (Az s) h rfl
theorem dV {s:Bytes} (hs:s.length<=600) (a:Int) (w:List Int): ∀t∈Bu (Az s) (GI a w),JE t.2.2.2.1:=fun t ht=>by
 have h0:JE ([]:List Int):=by simp
 obtain ⟨r,rfl⟩:=oY s (GI a w) (fun r hr=>by
  unfold GI at hr;rcases List.mem_cons.1 hr with rfl | hr
  ·exact .inl rfl
  rcases List.mem_cons.1 hr with rfl | hr
  ·exact .inr (.inl rfl)
  rw [List.mem_singleton.1 hr];exact .inr (.inr rfl)) t ht
 split
 ·exact h0
 split
 ·show (FU s r.2.2.2.2).2.2.2.1.length<=_;have:=XB s r.2.2.2.2;unfold FU Lx;split
  ·simp
  ·split
   ·simp
   ·show (Ew s r.2.2.2.2).length<=_;omega
 ·unfold Ez;split<;>exact h0
end Go.Fu
end
section
namespace Go.Vc
open Go.RowKit
theorem f_ {E:Env} {b:Nat}: ¬Own E [] b:=fun ⟨l,o,q,_⟩=>by simp at q
theorem Dv {P:Program} (w:World) (dT sT ty elem:TypeId) (i:TypeInfo) (b o dLen dCap:Nat) (a:Addr) (sLen sCap:Nat) (cs:List Value)
  (hu:P.underlying dT=some (.slice elem)) (hi:P.info? elem=some i) (hn:cs.length=Nat.min sLen dLen*i.size)
  (hsrc: ∀j v,cs[j]?=some v->w.cell? (a.add j)=some v) (hc: ∀j,j<cs.length->(w.cell? ⟨b,o+j,none⟩).isSome=true) (hf: ∀j,j<cs.length->w.frozen? ⟨b,o+j,none⟩=false) (h1: ∀v∈cs,v.oneCell'=true):
  (Builtin.copy_ #[dT,sT] ty #[.slice (some ⟨b,o,none⟩) dLen dCap,.slice (some a) sLen sCap]).run P w= .ok (goInt (Nat.min sLen dLen)) (w.setCells b o cs):=by
 have hl:=run_firstCells_some (P:=P) w i.size (Nat.min sLen dLen) a sLen sCap cs hn hsrc;have hst:=run_storeCells_cells (P:=P) b o cs 0 w (by simpa using hc) (by simpa using hf) h1;have hsz:(sizeOf elem).run P w= .ok i.size w:=DQ (by simp [B2,hi]) w;simp [Builtin.copy_,run_underlying hu,Builtin.lenOf,hsz,hl,hst]
theorem Th {P:Program} {w:World} {t u e ty:TypeId} {ut:TypeDesc} {i:TypeInfo} {z:Value} {ats:Array TypeId} {args:Array Value} {base:Option Addr} {sLen sCap n:Nat} {xv:Value} {olds news:List Value}
  (ht0:ats[0]?=some t) (ht1:ats[1]?=some u) (a0:args[0]?=some (.slice base sLen sCap)) (a1:args[1]?=some xv) (ht:P.underlying t=some (.slice e)) (hu:P.underlying u=some ut) (hut:(∃e',ut= .slice e')\/ut= .string) (hi:P.info? e=some i) (hz:i.zero=some z) (hb0:0<i.bytes)
  (hlen: ∀w':World,(Builtin.lenOf xv).run P w'= .ok n w') (hcells: ∀w':World,w'.heap=w.heap->(Builtin.firstCells i.size n xv).run P w'= .ok news.toArray w') (hold: ∀w':World,w'.heap=w.heap->(Builtin.firstCells i.size sLen (.slice base sLen sCap)).run P w'= .ok olds.toArray w')
  (hg:sCap<sLen+n) (hfit:(sLen+n)*i.bytes<=140737488355328):
  ∃(w':World) (rest:List Value) (cap:Nat),(sLen+n<=cap/\cap<=9223372036854775807)/\rest.length=(cap-(sLen+n))*z.cells.size/\(Builtin.append_ ats ty args).run P w= .ok (.slice (some ⟨w.heap.size,0,none⟩) (sLen+n) cap) w'/\
    w'.heap=w.heap.push (.cells (olds++news++rest).toArray e (0,0))/\w'.os=w.os/\w'.output=w.output/\Tp w w':=by
 have hsz: ∀w':World,(sizeOf e).run P w'= .ok i.size w':=fun w'=>DQ (by simp [B2,hi]) w';have hbb:sLen+n<=(sLen+n)*i.bytes:=Nat.le_mul_of_pos_right _ hb0;have f2: ¬(Builtin.nextslicecap (sLen+n) sCap*i.bytes > 2 ^ 48):=by
  have:=growslice_fits (bytes:=i.bytes) hg hfit;omega
 have f3: ¬(sLen+n<=sCap):=by omega
 have f4: ¬(i.bytes=0):=by omega
 have hcapq:sLen+n<=(Question.appendCap (sLen+n) sCap e).cut (w.tape w.drawn (.appendCap (sLen+n) sCap e)):=by simp [Question.cut]
 have hcapb:(Question.appendCap (sLen+n) sCap e).cut (w.tape w.drawn (.appendCap (sLen+n) sCap e))<=9223372036854775807:=by
  have:=Nat.mod_lt (w.tape w.drawn (.appendCap (sLen+n) sCap e)) (show 0<2 ^ 63-(sLen+n) by omega);simp only [Question.cut];omega
 have hf:(Question.appendCap (sLen+n) sCap e).forced=false:=rfl;generalize hq:(Question.appendCap (sLen+n) sCap e).cut (w.tape w.drawn (.appendCap (sLen+n) sCap e))=cap at hcapq hcapb;refine ⟨w.drew.alloc (.cells (olds++news++(Builtin.zeroCells z.cells (cap-(sLen+n))).toList).toArray e),(Builtin.zeroCells z.cells (cap-(sLen+n))).toList,cap,⟨hcapq,hcapb⟩,?_,?_,rfl,rfl,rfl,(Tp.of rfl (Nat.le_succ _))⟩
 ·simp [Builtin.zeroCells]
 ·have hd:w.drew.heap=w.heap:=rfl;have c1:=hcells w.drew hd;have c2:=hold w.drew hd;have c3:(zeroValue e).run P w.drew= .ok z w.drew:=by simp [zeroValue,Gq hi,hz]
  rcases hut with ⟨e',rfl⟩ | rfl<;>
   ·simp only [Builtin.append_,ht0,ht1,a0,a1,Sem.run_bind,run_underlying ht,run_underlying hu,Result.andThen_ok,hsz,Sem.run_pure,Bool.false_eq_true,if_false,hlen,f3,Gq hi,false_or,f4,and_false,f2,Bool.not_false,if_true,run_choose,hf,hq,run_askRoom,World.drew_eq,c1,c2,c3,newRow,run_newObj];rw [show olds.toArray++news.toArray++Builtin.zeroCells z.cells (cap-(sLen+n))=(olds++news++(Builtin.zeroCells z.cells (cap-(sLen+n))).toList).toArray from by apply Array.ext';simp];rfl
end Go.Vc
end
section
namespace Go.Proofs
open Go.RowKit Go.Shelf
def mg (w:World) (b off:Nat) (l:List (Int×Int)):Prop:= ∀(j:Nat) (s:Int×Int),l[j]?=some s->w.cell? ⟨b,off+j*2,none⟩=some (.int .i64 s.1)/\w.cell? ⟨b,off+j*2+1,none⟩=some (.int .i64 s.2)
theorem mg.below {n:Nat} {w w':World} {b off:Nat} {l:List (Int×Int)} (h:mg w b off l) (hb:Below n w w') (hn:b<n):mg w' b off l:=fun j s hj=>by
 have e: ∀o,w'.cell? ⟨b,o,none⟩=w.cell? ⟨b,o,none⟩:=fun o=>World.cell?_of_block (a:=⟨b,o,none⟩) (hb.block b hn);rw [e,e];exact h j s hj
set_option maxHeartbeats 2000000 in
set_option maxRecDepth 100000 in
theorem si (a c lo:Int) (ha: -1000000<=a/\a<=1000000) (hl: -1000000<=lo/\lo<=1000000) (w:World):Calls Tryz.prog 44 #[.agg #[.int .i64 a,.int .i64 c],.int .i64 lo] w fun e w'=>e= .returned (.int .i64 (a-lo))/\Below w.heap.size w w':=by
 have hw:IntKind.i64.wrap (a-lo)=a-lo:=by rw [IntKind.wrap_i64];omega
 go_enter Tryz.func44,Tryz.ntmps44
 go_wp2
 go_ret
 refine ⟨rfl,?_⟩;exact (Below.refl _ w).alloc (Nat.le_refl _) _
set_option maxHeartbeats 4000000 in
set_option maxRecDepth 100000 in
theorem qf (l:List (Int×Int)) (lo:Int) (hlo: -1000000<=lo/\lo<=1000000) (hl: ∀s∈l,-1000000<=s.1/\s.1<=1000000) (hn:l.length<=1000000) (asc: ∀i j:Nat,i<=j-> ∀s t,l[i]?=some s->l[j]?=some t->s.1<=t.1)
  (b off c:Nat) (w:World) (hb:b<w.heap.size) (hs:mg w b off l):
  Calls Tryz.prog 43 #[.slice (some ⟨b,off,none⟩) l.length c,.int .i64 lo,.func (.func 44) #[] #[]] w fun e w'=> ∃(i:Nat) (f:Bool),e= .returned (.tuple #[.int .i64 i,.bool f])/\i<=l.length/\(∀j s,j<i->l[j]?=some s->s.1<lo)/\(∀j s,i<=j->l[j]?=some s->lo<=s.1)/\Below w.heap.size w w':=by
 go_enter Tryz.func43,Tryz.ntmps43
 go_wp2
 go_loopw [9,10] (fun vi vj wr=> ∃i j:Nat,i<=j/\j<=l.length/\vi= .int .i64 i/\vj= .int .i64 j/\(∀k s,k<i->l[k]?=some s->s.1<lo)/\(∀k s,j<=k->l[k]?=some s->lo<=s.1)/\Below w.heap.size w wr)
  (fun i j _=>(intOf j).toNat-(intOf i).toNat)
 case atStart=>exact ⟨0,l.length,Nat.zero_le _,Nat.le_refl _,rfl,rfl,fun k s h=>absurd h (Nat.not_lt_zero _),fun k s h q=>(by rw [List.getElem?_eq_none h] at q;cases q),Below.refl _ _⟩
 case round=>
  obtain ⟨i,j,hij,hj,rfl,rfl,h1,h2,hbw⟩:=hrel;have hsr:=hs.below hbw hb;by_cases hlt:i<j
  ·obtain ⟨h,hh⟩: ∃h:Nat,h=(i+j)/2:=⟨_,rfl⟩
   have hm:i<=h/\h<j:=by omega
   obtain ⟨s,hsx⟩: ∃s,l[h]?=some s:=⟨_,List.getElem?_eq_getElem (by omega)⟩
   obtain ⟨c0,c1⟩:=hsr h s hsx;have hsl:=hl s (List.mem_of_getElem? hsx);have hcl:=fun W=>si s.1 s.2 lo hsl hlo W;have he:((i:Int)+(j:Int))/2=(h:Int):=by omega
   have hsf:Op.shift .shr .u64 ((i:Int)+(j:Int)) .u64 1=pure (.int .u64 (h:Int)):=by
    rw [shift_shr_any _ _ _ _ (by decide),<-he];rfl
   have hm1:i<=h:=hm.1;have hm2:h<l.length:=by omega
   have hm3:h<j:=hm.2;have hcv:IntKind.i64.wrap (h:Int)=h:=by rw [IntKind.wrap_i64];omega
   have A1:Hid _:=asc;have A2:Hid _:=h1;have A3:Hid _:=h2;have A4:Hid _:=hsx;clear asc h1 h2 hsx hm hh;by_cases hc:s.1-lo<0
   ·go_wp2_with (go_at_call 44;refine (hcl _).mono ?_;rintro e w' ⟨rfl,hb1⟩)
    go_roundw
    case rel=>
     refine ⟨h+1,j,by omega,hj,by simp,rfl,fun k u hk hu=>?_,A3.out,hbw.trans (hb1.mono hbw.size)⟩;have:=A1.out k h (by omega) u s hu A4.out;omega
    case measure=>simp [intOf];omega
   ·go_wp2_with (go_at_call 44;refine (hcl _).mono ?_;rintro e w' ⟨rfl,hb1⟩)
    go_roundw
    case rel=>
     refine ⟨i,h,by omega,by omega,rfl,rfl,A2.out,fun k u hk hu=>?_,hbw.trans (hb1.mono hbw.size)⟩;have:=A1.out h k hk s u A4.out hu;omega
    case measure=>simp [intOf];omega
  ·obtain rfl:i=j:=by omega
   have A1:Hid _:=asc;have A2:Hid _:=h1;have A3:Hid _:=h2;clear asc h1 h2;by_cases hin:i<l.length
   ·obtain ⟨s,hsx⟩: ∃s,l[i]?=some s:=⟨_,List.getElem?_eq_getElem hin⟩
    obtain ⟨c0,c1⟩:=hsr i s hsx;have hsl:=hl s (List.mem_of_getElem? hsx);have hcl:=fun W=>si s.1 s.2 lo hsl hlo W;clear hsx
    go_wp2_with (go_at_call 44;refine (hcl _).mono ?_;rintro e w' ⟨rfl,hb1⟩)
    go_ret2
    exact ⟨i,_,rfl,hj,A2.out,A3.out,hbw.trans (hb1.mono hbw.size)⟩
   ·go_wp2
    go_ret2
    exact ⟨i,_,rfl,hj,A2.out,A3.out,hbw⟩
end Go.Proofs
end
