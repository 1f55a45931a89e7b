/- Part of the proof of enginePlays_holds: the whole is true of every input. Conditions: none. -/
import Derived.Test.YtlibocgedgdmlaaGreatP9
set_option linter.all false
section
namespace Go.Fu
open Go.Vc
noncomputable section
abbrev Span:=Int×Int
def Bd (l:List Span) (i:Int):Prop:= ∃s∈l,s.1<=i/\i<s.2
def KJ (last:Int) (l:List Span):Prop:=AR 1000000 last l
def EJ (P:Int->Prop) (l:List Span):Prop:=KJ (-1) l/\ ∀i,Bd l i↔P i
def IZ (P:Int->Prop):List Span:=Classical.epsilon (EJ P)
theorem Ei (i:Int): ¬Bd [] i:=by rintro ⟨s,h,_⟩;simp at h
theorem BE {s:Span} {l:List Span} {i:Int}:Bd (s::l) i↔(s.1<=i/\i<s.2)\/Bd l i:=by
 unfold Bd;constructor
 ·rintro ⟨t,h,g⟩;simp only [List.mem_cons] at h;rcases h with h | h
  ·subst h;exact .inl g
  ·exact .inr ⟨t,h,g⟩
 ·rintro (h | ⟨t,h,g⟩)
  ·exact ⟨s,by simp,h⟩
  ·exact ⟨t,by simp [h],g⟩
theorem Fc {l m:List Span} {i:Int}:Bd (l++m) i↔Bd l i\/Bd m i:=by
 induction l with
 | nil=>simp [Ei]
 | cons s l ih=>rw [List.cons_append,BE,BE,ih,or_assoc]
theorem Fe {s:Span} {i:Int}:Bd [s] i↔s.1<=i/\i<s.2:=by rw [BE];simp [Ei]
theorem GS {n:Int}: ∀ {l:List Span} {last:Int},AR n last l-> ∀s∈l,last<s.1/\s.1<s.2/\s.2<=n
 | [],_,_,s,hs=>by simp at hs
 | a::l,last,h,s,hs=>by
  obtain ⟨h1,h2,h3,h4⟩:=h;simp only [List.mem_cons] at hs;rcases hs with e | e
  ·subst e;exact ⟨h1,h2,h3⟩
  ·have:=GS h4 s e;omega
theorem OT {n m:Int} (hnm:n<=m): ∀ {l:List Span} {a b:Int},b<=a->AR n a l->AR m b l
 | [],_,_,_,_=>trivial
 | s::l,a,b,hab,⟨h1,h2,h3,h4⟩=>⟨by omega,h2,by omega,OT hnm (Int.le_refl _) h4⟩
theorem J6 {n last i:Int} {l:List Span} (h:AR n last l) (hi:Bd l i):last<i/\i<n:=by
 obtain ⟨s,hs,h1,h2⟩:=hi;have:=GS h s hs;omega
theorem fI {n:Int}: ∀ {l m:List Span} {a:Int},AR n a l->AR n a m->(∀i,Bd l i↔Bd m i)->l=m
 | [],[],_,_,_,_=>rfl
 | s::l,[],a,h,_,e=>absurd ((e s.1).1 (BE.2 (.inl ⟨by omega,h.2.1⟩))) (Ei _)
 | [],t::m,a,_,h,e=>absurd ((e t.1).2 (BE.2 (.inl ⟨by omega,h.2.1⟩))) (Ei _)
 | s::l,t::m,a,h,g,e=>by
  have lo: ∀ {s t:Span} {l m:List Span},AR n a (s::l)->AR n a (t::m)->(∀i,Bd (s::l) i↔Bd (t::m) i)->t.1<=s.1:=fun {s t l m} h g e=>by
   rcases BE.1 ((e s.1).1 (BE.2 (.inl ⟨by omega,h.2.1⟩))) with c | c
   ·exact c.1
   ·have:=J6 g.2.2.2 c;have:=g.2.1;omega
  have e1:s.1=t.1:=by have:=lo h g e;have:=lo g h fun i=>(e i).symm;omega
  have hi: ∀ {s t:Span} {l m:List Span},s.1=t.1->AR n a (s::l)->AR n a (t::m)->(∀i,Bd (s::l) i↔Bd (t::m) i)->t.2<=s.2:=fun {s t l m} e1 h g e=>by
   rcases Int.lt_or_le s.2 t.2 with c | c
   ·rcases BE.1 ((e s.2).2 (BE.2 (.inl ⟨by have:=h.2.1;omega,c⟩))) with d | d
    ·omega
    ·have:=J6 h.2.2.2 d;omega
   ·exact c
  have e2:s.2=t.2:=by have:=hi e1 h g e;have:=hi e1.symm g h fun i=>(e i).symm;omega
  have es:s=t:=Prod.ext e1 e2;subst es;congr 1;refine fI h.2.2.2 g.2.2.2 fun i=>?_;constructor
  ·intro c;have:=J6 h.2.2.2 c;rcases BE.1 ((e i).1 (BE.2 (.inr c))) with d | d
   ·omega
   ·exact d
  ·intro c;have:=J6 g.2.2.2 c;rcases BE.1 ((e i).2 (BE.2 (.inr c))) with d | d
   ·omega
   ·exact d
theorem Qw {P:Int->Prop} {l:List Span} (h:EJ P l):IZ P=l:=by
 have g:=Classical.epsilon_spec (p:=EJ P) ⟨l,h⟩;exact fI g.1 h.1 fun i=>(g.2 i).trans (h.2 i).symm
theorem Tv {P Q:Int->Prop} (h: ∀i,P i↔Q i):IZ P=IZ Q:=by
 have:P=Q:=funext fun i=>propext (h i);rw [this]
def Es (last:Int) (l:List Span):Int:=l.foldl (fun _ s=>s.2) last
theorem M1 (last:Int) (l:List Span) (s:Span):Es last (l++[s])=s.2:=by simp [Es]
theorem Jr {n:Int}: ∀ {l:List Span} {last:Int} {s:Span},AR n last (l++[s])↔AR n last l/\Es last l<s.1/\s.1<s.2/\s.2<=n
 | [],last,s=>by simp [AR,Es]
 | a::l,last,s=>by
  simp only [List.cons_append,AR,Jr (l:=l)];have:Es last (a::l)=Es a.2 l:=rfl;rw [this];constructor
  ·rintro ⟨h1,h2,h3,h4,h5⟩;exact ⟨⟨h1,h2,h3,h4⟩,h5⟩
  ·rintro ⟨⟨h1,h2,h3,h4⟩,h5⟩;exact ⟨h1,h2,h3,h4,h5⟩
theorem UY {n:Int}: ∀ {l:List Span} {last i:Int},AR n last l->Bd l i->i<Es last l
 | [],last,i,_,h=>absurd h (Ei _)
 | a::l,last,i,h,g=>by
  have e:Es last (a::l)=Es a.2 l:=rfl;rw [e];have mono: ∀ {l:List Span} {b:Int},AR n b l->b<=Es b l:=by
   intro l
   induction l with
   | nil=>intro b _;simp [Es]
   | cons s l ih=>
    intro b hb;have e:Es b (s::l)=Es s.2 l:=rfl;have:=ih hb.2.2.2;have h1:=hb.1;have h2:=hb.2.1;rw [e];omega
  rcases BE.1 g with c | c
  ·have:=mono h.2.2.2;omega
  ·exact UY h.2.2.2 c
theorem im {l:List Span} {last:Int} (h:l≠[]):Es last l=(gt l ((l.length:Int)-1)).2:=by
 rcases List.eq_nil_or_concat l with e | ⟨m,s,e⟩
 ·exact absurd e h
 ·subst e;rw [List.concat_eq_append,M1,show (((m++[s]).length:Int)-1)=(m.length:Int) by simp,Kb]
theorem SP {l:List Span} (h:l≠[]): ∃m s,l=m++[s]/\gt l ((l.length:Int)-1)=s/\ ∀t:Span,l.set ((l.length:Int)-1).toNat t=m++[t]:=by
 rcases List.eq_nil_or_concat l with e | ⟨m,s,e⟩
 ·exact absurd e h
 ·subst e;refine ⟨m,s,by simp,?_,fun t=>?_⟩
  ·rw [List.concat_eq_append,show (((m++[s]).length:Int)-1)=(m.length:Int) by simp,Kb]
  ·rw [List.concat_eq_append,show ((((m++[s]).length:Nat):Int)-1).toNat=m.length by simp];simp
theorem gZ {P:Int->Prop} {i:Int} {l:List Span} (h:EJ (fun j=>0<=j/\j<i/\P j) l) (hn: ¬P i):EJ (fun j=>0<=j/\j<i+1/\P j) l:=by
 refine ⟨h.1,fun j=>(h.2 j).trans ⟨fun c=>⟨c.1,by omega,c.2.2⟩,fun c=>⟨c.1,?_,c.2.2⟩⟩⟩;by_cases e:j=i
 ·subst e;exact absurd c.2.2 hn
 ·omega
theorem lq {P:Int->Prop} {i:Int} {l:List Span} (hi:0<=i) (hb:i<1000000) (h:EJ (fun j=>0<=j/\j<i/\P j) l) (hp:P i) (hn: ¬(0<i/\P (i-1))):EJ (fun j=>0<=j/\j<i+1/\P j) (l++[(i,i+1)]):=by
 have le:Es (-1) l<i:=by
  by_cases e:l=[]
  ·subst e;simp [Es];omega
  ·obtain ⟨m,s,e1,e2,_⟩:=SP e;subst e1;have h1:=Jr.1 h.1;rw [M1];have a:=(h.2 (s.2-1)).1 (Fc.2 (.inr (Fe.2 ⟨by omega,by omega⟩)));rcases Int.lt_or_le s.2 i with c | c
   ·exact c
   ·have:s.2-1=i-1:=by omega
    rw [this] at a;exact absurd ⟨by omega,a.2.2⟩ hn
 refine ⟨Jr.2 ⟨h.1,le,by simp only;omega,by simp only;omega⟩,fun j=>?_⟩;rw [Fc,Fe,h.2 j];simp only;constructor
 ·rintro (c | c)
  ·exact ⟨c.1,by omega,c.2.2⟩
  ·have:j=i:=by omega
   subst this;exact ⟨hi,by omega,hp⟩
 ·rintro ⟨c1,c2,c3⟩;by_cases e:j=i
  ·exact .inr (by omega)
  ·exact .inl ⟨c1,by omega,c3⟩
theorem gV {P:Int->Prop} {i:Int} {l:List Span} (hi:0<i) (hb:i<1000000) (h:EJ (fun j=>0<=j/\j<i/\P j) l) (hp:P i) (hq:P (i-1)):
  l≠[]/\EJ (fun j=>0<=j/\j<i+1/\P j) (l.set ((l.length:Int)-1).toNat ((gt l ((l.length:Int)-1)).1,i+1)):=by
 have a:=(h.2 (i-1)).2 ⟨by omega,by omega,hq⟩;have hne:l≠[]:=by rintro rfl;exact Ei _ a
 refine ⟨hne,?_⟩;obtain ⟨m,s,e1,e2,e3⟩:=SP hne;rw [e2,e3];subst e1;have h1:=Jr.1 h.1;have h2:=UY h.1 a;rw [M1] at h2;have h3:=(h.2 (s.2-1)).1 (Fc.2 (.inr (Fe.2 ⟨by omega,by omega⟩)));have es:s.2=i:=by omega
 refine ⟨Jr.2 ⟨h1.1,h1.2.1,by simp only;omega,by simp only;omega⟩,fun j=>?_⟩;have hj:=h.2 j;rw [Fc,Fe] at hj |-;simp only;constructor
 ·rintro (c | c)
  ·have:=hj.1 (.inl c);exact ⟨this.1,by omega,this.2.2⟩
  ·by_cases e:j=i
   ·subst e;exact ⟨by omega,by omega,hp⟩
   ·have:=hj.1 (.inr ⟨c.1,by omega⟩);exact ⟨this.1,by omega,this.2.2⟩
 ·rintro ⟨c1,c2,c3⟩;by_cases e:j=i
  ·subst e;exact .inr ⟨by omega,by omega⟩
  ·rcases hj.2 ⟨c1,by omega,c3⟩ with d | d
   ·exact .inl d
   ·exact .inr ⟨d.1,by omega⟩
def CT (l:List Span) (s:Span):List Span:=l.flatMap fun x=>[(x.1,min x.2 (max x.1 s.1)),(max x.1 (min x.2 s.2),x.2)]
def Fs (l:List Span):List Span:=l.filter fun x=>decide (x.1<x.2)
theorem aI {l:List Span} {i:Int}:Bd (Fs l) i↔Bd l i:=by
 unfold Bd Fs;constructor
 ·rintro ⟨s,h,g⟩;exact ⟨s,(List.mem_filter.1 h).1,g⟩
 ·rintro ⟨s,h,g⟩;exact ⟨s,List.mem_filter.2 ⟨h,by simp only [decide_eq_true_eq];omega⟩,g⟩
theorem dK {s:Span} (hs:s.1<s.2): ∀ {l:List Span} {i:Int},Bd (CT l s) i↔Bd l i/\ ¬(s.1<=i/\i<s.2)
 | [],i=>by simp [CT,Ei]
 | x::l,i=>by
  have ih:=dK hs (l:=l) (i:=i);have e:CT (x::l) s=[(x.1,min x.2 (max x.1 s.1)),(max x.1 (min x.2 s.2),x.2)]++CT l s:=rfl;rw [e,Fc,ih,BE,Fe,BE];simp only;constructor
  ·rintro ((c | c) | c)
   ·exact ⟨.inl (by omega),by omega⟩
   ·exact ⟨.inl (by omega),by omega⟩
   ·exact ⟨.inr c.1,c.2⟩
  ·rintro ⟨c | c,d⟩
   ·exact .inl (by omega)
   ·exact .inr ⟨c,d⟩
theorem kn {s:Span} (hs:s.1<s.2): ∀ {l:List Span} {last:Int},KJ last l->KJ last (Fs (CT l s))
 | [],_,_=>trivial
 | x::l,last,⟨h1,h2,h3,h4⟩=>by
  have ih:=kn hs h4;have e:Fs (CT (x::l) s)=(if x.1<min x.2 (max x.1 s.1) then [(x.1,min x.2 (max x.1 s.1))] else [])++((if max x.1 (min x.2 s.2)<x.2 then [(max x.1 (min x.2 s.2),x.2)] else [])++Fs (CT l s)):=by
   have:CT (x::l) s=(x.1,min x.2 (max x.1 s.1))::(max x.1 (min x.2 s.2),x.2)::CT l s:=rfl;rw [this];unfold Fs;rw [List.filter_cons,List.filter_cons];simp only [decide_eq_true_eq];split<;>split<;>rfl
  rw [e];split
  ·split
   ·exact ⟨h1,by simp only;omega,by simp only;omega,by simp only;omega,by simp only;omega,by simp only;omega,ih⟩
   ·exact ⟨h1,by simp only;omega,by simp only;omega,OT (Int.le_refl _) (by simp only;omega) ih⟩
  ·split
   ·exact ⟨by simp only;omega,by simp only;omega,by simp only;omega,ih⟩
   ·exact OT (Int.le_refl _) (by omega) ih
theorem lr {l:List Span} {s:Span} (hs:s.1<s.2) (h:KJ (-1) l):Fs (CT l s)=IZ fun i=>Bd l i/\ ¬(s.1<=i/\i<s.2):=
 (Qw ⟨kn hs h,fun i=>by rw [aI,dK hs]⟩).symm
theorem gY {l:List Span} {s:Span} (hs:s.1=s.2) (h:KJ (-1) l):l=IZ fun i=>Bd l i/\ ¬(s.1<=i/\i<s.2):=
 (Qw ⟨h,fun i=>⟨fun c=>⟨c,by omega⟩,fun c=>c.1⟩⟩).symm
theorem qm {l:List Span} {s:Span} {x:Int} (h0:0<=x) (h1:x<l.length):CT (l.take (x+1).toNat) s=CT (l.take x.toNat) s++[((gt l x).1,min (gt l x).2 (max (gt l x).1 s.1)),(max (gt l x).1 (min (gt l x).2 s.2),(gt l x).2)]:=by
 rw [G_ h0 h1];simp [CT]
theorem tm (l:List Span) (s:Span):(CT l s).length=2*l.length:=by
 induction l with
 | nil=>rfl
 | cons x l ih=>
  have e:CT (x::l) s=(x.1,min x.2 (max x.1 s.1))::(max x.1 (min x.2 s.2),x.2)::CT l s:=rfl;rw [e,List.length_cons,List.length_cons,ih,List.length_cons];omega
theorem M9 (l:List Span) (x:Span):Fs (l++[x])=Fs l++if x.1<x.2 then [x] else []:=by
 unfold Fs;rw [List.filter_append,List.filter_cons];simp only [decide_eq_true_eq,List.filter_nil]
theorem UM {l:List Span} (h: ∀j:Int,0<=j->j<l.length->(gt l j).1<(gt l j).2):Fs l=l:=by
 unfold Fs;rw [List.filter_eq_self];intro x hx;obtain ⟨j,a,b,rfl⟩:=QM hx;simpa using h j a b
theorem X6 {α:Type} {s:List α} {i:Int} {v:α} (h0:0<=i) (h1:i<s.length):(s.set i.toNat v).take (i+1).toNat=s.take i.toNat++[v]:=by
 have h:i.toNat<s.length:=by omega
 rw [show (i+1).toNat=i.toNat+1 by omega,List.take_add_one,List.take_set_of_le (Nat.le_refl _),List.getElem?_set_self h];rfl
theorem cY {α:Type} {s:List α} {i j:Int} {v:α} (h0:0<=i) (h1:i<j):(s.set i.toNat v).drop j.toNat=s.drop j.toNat:=by
 rw [List.drop_set_of_lt (by omega)]
def thin (out s:List Span) (i j:Int):Prop:=0<=i/\i<=j/\j<=out.length/\s.length=out.length/\s.take i.toNat=Fs (out.take j.toNat)/\s.drop j.toNat=out.drop j.toNat
theorem lD {out s:List Span} {i j:Int} (h:thin out s i j) (hj:j<out.length):gt s j=gt out j:=by
 obtain ⟨h1,h2,h3,h4,h5,h6⟩:=h;have a:=Hl (l:=s) (i:=j) (by omega) (by omega);have b:=Hl (l:=out) (i:=j) (by omega) hj;rw [h6,b] at a;exact (List.cons.inj a).1.symm
theorem ny {out s:List Span} {i j:Int} (h:thin out s i j) (hj:j<out.length) (hb:(gt s j).1<(gt s j).2):thin out (s.set i.toNat (gt s j)) (i+1) (j+1):=by
 have e:=lD h hj;obtain ⟨h1,h2,h3,h4,h5,h6⟩:=h;refine ⟨by omega,by omega,by omega,by simp [h4],?_,?_⟩
 ·rw [X6 h1 (by omega),h5,G_ (by omega) hj,M9,<-e,if_pos hb]
 ·rw [cY h1 (by omega)];have a:=Hl (l:=s) (i:=j) (by omega) (by omega);have b:=Hl (l:=out) (i:=j) (by omega) hj;rw [h6,b] at a;exact (List.cons.inj a).2.symm
theorem nw {out s:List Span} {i j:Int} (h:thin out s i j) (hj:j<out.length) (hb: ¬(gt s j).1<(gt s j).2):thin out s i (j+1):=by
 have e:=lD h hj;obtain ⟨h1,h2,h3,h4,h5,h6⟩:=h;refine ⟨by omega,by omega,by omega,h4,?_,?_⟩
 ·rw [h5,G_ (by omega) hj,M9,<-e,if_neg hb,List.append_nil]
 ·have a:=Hl (l:=s) (i:=j) (by omega) (by omega);have b:=Hl (l:=out) (i:=j) (by omega) hj;rw [h6,b] at a;exact (List.cons.inj a).2.symm
theorem jh {out:List Span} {x:Int} (h0:0<=x) (h1:x<out.length) (h2: ∀j,0<=j->j<x->(gt out j).1<(gt out j).2) (h3: ¬(gt out x).1<(gt out x).2):thin out out x (x+1):=by
 refine ⟨h0,by omega,by omega,rfl,?_,rfl⟩;rw [G_ h0 h1,M9,if_neg h3,List.append_nil,UM];intro j a b;rw [List.length_take] at b;rw [kR a (by omega)];exact h2 j a (by omega)
theorem rL {out s:List Span} {i j:Int} (h:thin out s i j) (hj: ¬j<out.length):s.take i.toNat=Fs out:=by
 obtain ⟨h1,h2,h3,h4,h5,h6⟩:=h;rw [h5,List.take_of_length_le (by omega)]
abbrev Fw (s:Span):Prop:=0<=s.1/\s.1<=s.2/\s.2<=1000000
abbrev EO (l:List Span):Prop:=l.length<=100000/\KJ (-1) l
def Aq (l:List Span) (s:Span):List Span:=IZ fun i=>Bd l i/\ ¬(s.1<=i/\i<s.2)
def Fl (l:List Span) (s:Span):List Span:=IZ fun i=>Bd l i\/(s.1<=i/\i<s.2)
def JL:Ct:=⟨Mg (.sl Hk) Hk,[.own Hk],fun x=>EO x.1/\Fw x.2,fun x=>Aq x.1 x.2⟩
def Ci:Ct:=⟨Mg (.sl Hk) Hk,[.val (.sl Hk)],fun x=>EO x.1/\Fw x.2,fun x=>Aq x.1 x.2⟩
def DG:Ct:=⟨Mg (.sl Hk) Hk,[.own Hk],fun x=>EO x.1/\Fw x.2,fun x=>Fl x.1 x.2⟩
def BW:Ct:=⟨X7 (.sl Hk),[.own Hk],fun l=>pQ l,fun l=>l⟩
abbrev Ns:List Span->Prop:=fun l=>l.length<=100001/\(∀s∈l,Fw s)/\l.Pairwise fun a b=>a.1<=b.1
def Li (l:List Span):List Span:=IZ (Bd l)
def DK:Ct:=⟨X7 (.sl Hk),[.own Hk],fun l=>Ns l,fun l=>Li l⟩
end
end Go.Fu
end
section
namespace Go.Fu
open Go.Vc
theorem gW {P:Int->Prop} {m:List Span} {t s:Span} (h:EJ P (m++[t])) (h1:t.1<=s.1) (h2:s.1<=t.2) (h3:s.1<=s.2) (h4:s.2<=1000000):EJ (fun i=>P i\/(s.1<=i/\i<s.2)) (m++[(t.1,max t.2 s.2)]):=by
 obtain ⟨g1,g2⟩:=h;obtain ⟨k1,k2,k3,k4⟩:=Jr.1 g1;refine ⟨Jr.2 ⟨k1,k2,by show t.1<max t.2 s.2;omega,by show max t.2 s.2<=1000000;omega⟩,fun i=>?_⟩;have e:=g2 i;rw [Fc,Fe] at e;rw [Fc,Fe];show Bd m i\/(t.1<=i/\i<max t.2 s.2)↔(P i\/(s.1<=i/\i<s.2));rw [<-e];constructor
 ·rintro (a | a)
  ·exact .inl (.inl a)
  ·by_cases c:i<t.2
   ·exact .inl (.inr ⟨a.1,c⟩)
   ·exact .inr (by omega)
 ·rintro ((a | a) | a)
  ·exact .inl a
  ·exact .inr (by omega)
  ·exact .inr (by omega)
theorem gX {P:Int->Prop} {m:List Span} {s:Span} (h:EJ P m) (h1:Es (-1) m<s.1) (h3:s.1<s.2) (h4:s.2<=1000000):EJ (fun i=>P i\/(s.1<=i/\i<s.2)) (m++[s]):=by
 obtain ⟨g1,g2⟩:=h;refine ⟨Jr.2 ⟨g1,h1,h3,h4⟩,fun i=>?_⟩;rw [Fc,Fe,g2 i]
structure Jn (l:List Span) (x:Int) (out:List Span):Prop where
 canon:EJ (Bd (l.take x.toNat)) out
 lo: ∀t∈out,∀j:Int,x<=j->j<l.length->t.1<=(gt l j).1
 len:(out.length:Int)<=x
theorem Jn.init (l:List Span):Jn l 0 []:=
 ⟨⟨trivial,fun i=>by simp [Ei]⟩,fun t h=>by simp at h,by simp⟩
section
variable {l out : List Span} {x : Int}
theorem Sg (h0:0<=x) (h1:x<l.length) (i:Int):Bd (l.take (x+1).toNat) i↔Bd (l.take x.toNat) i\/((gt l x).1<=i/\i<(gt l x).2):=by
 rw [G_ h0 h1,Fc,Fe]
theorem Jn.skip (h:Jn l x out) (h0:0<=x) (h1:x<l.length) (e:(gt l x).1=(gt l x).2):Jn l (x+1) out:=
 ⟨⟨h.canon.1,fun i=>by
  rw [Sg h0 h1,h.canon.2 i];constructor
  ·exact .inl
  ·rintro (a | a)
   ·exact a
   ·omega⟩,fun t ht j a b=>h.lo t ht j (by omega) b,by have:=h.len;omega⟩
theorem um {l:List Span} (h:Ns l) {i j:Int} (h0:0<=i) (h1:i<j) (h2:j<l.length):(gt l i).1<=(gt l j).1:=by
 have:=List.pairwise_iff_getElem.1 h.2.2 i.toNat j.toNat (by omega) (by omega) (by omega);rw [RM h0 (by omega),RM (by omega) h2];exact this
theorem Jn.more (h:Jn l x out) (ha:Ns l) (h0:0<=x) (h1:x<l.length) (hn:0<out.length) (e:(gt l x).1<=(gt out ((out.length:Int)-1)).2):
  Jn l (x+1) (out.set ((out.length:Int)-1).toNat ((gt out ((out.length:Int)-1)).1,max (gt out ((out.length:Int)-1)).2 (gt l x).2)):=by
 obtain ⟨m,t,rfl,e1,e2⟩:=SP (l:=out) (fun q=>by rw [q] at hn;simp at hn);have sp:=ha.2.1 _ (N5 h0 h1);rw [e1] at e;rw [e2,e1];have tl:=h.lo t (by simp) x (Int.le_refl _) h1;have cm:=gW h.canon tl e sp.2.1 sp.2.2;refine ⟨⟨cm.1,fun i=>by rw [cm.2 i,Sg h0 h1]⟩,fun u hu j a b=>?_,by have:=h.len;simp only [List.length_append,List.length_singleton] at*;omega⟩;simp only [List.mem_append,List.mem_singleton] at hu;rcases hu with hu | rfl
 ·exact h.lo u (by simp [hu]) j (by omega) b
 ·exact h.lo t (by simp) j (by omega) b
theorem Jn.next (h:Jn l x out) (ha:Ns l) (h0:0<=x) (h1:x<l.length) (e: ¬(gt l x).1=(gt l x).2) (hn: ¬(0<out.length/\(gt l x).1<=(gt out ((out.length:Int)-1)).2)):Jn l (x+1) (out++[gt l x]):=by
 have sp:=ha.2.1 _ (N5 h0 h1);have le:Es (-1) out<(gt l x).1:=by
  by_cases q:out=[]
  ·subst q;show-1<_;have:=sp.1;omega
  ·have ql:0<out.length:=List.length_pos_iff.2 q;rw [im q];exact Classical.byContradiction fun w=>hn ⟨ql,by omega⟩
 have cn:=gX h.canon le (by have:=sp.2.1;omega) sp.2.2;refine ⟨⟨cn.1,fun i=>by rw [cn.2 i,Sg h0 h1]⟩,fun u hu j a b=>?_,by have:=h.len;simp only [List.length_append,List.length_singleton];omega⟩;simp only [List.mem_append,List.mem_singleton] at hu;rcases hu with hu | rfl
 ·exact h.lo u hu j (by omega) b
 ·exact um ha h0 (by omega) b
theorem Jn.fin (h:Jn l x out) (hx: ¬x<l.length):out=Li l:=by
 have c:=h.canon;rw [List.take_of_length_le (by omega)] at c;exact (Qw c).symm
end
noncomputable def EN (l:List Span) (i:Int) (s:Span):List Span:=l.take i.toNat++[s]++l.drop i.toNat
theorem s8 {l:List Span} {s:Span} {i:Int} (hl:EO l) (hs:Fw s) (h0:0<=i) (h1:i<=l.length) (lo: ∀j:Int,0<=j->j<i->(gt l j).1<s.1) (hi: ∀j:Int,i<=j->j<l.length->s.1<=(gt l j).1):Ns (EN l i s):=by
 have hm: ∀x∈l,Fw x:=fun x hx=>by
  have:=GS hl.2 x hx;exact ⟨by omega,by omega,this.2.2⟩
 have pw: ∀ {l:List Span} {a:Int},KJ a l->l.Pairwise fun a b=>a.1<=b.1:=by
  intro l
  induction l with
  | nil=>intro a _;exact .nil
  | cons s l ih=>
   intro a h;refine .cons (fun b hb=>?_) (ih h.2.2.2);have:=GS h.2.2.2 b hb;have:=h.2.1;omega
 have pl:=pw hl.2;refine ⟨?_,fun x hx=>?_,?_⟩
 ·unfold EN;simp only [List.length_append,List.length_take,List.length_singleton,List.length_drop];have:=hl.1;omega
 ·unfold EN at hx;simp only [List.mem_append,List.mem_singleton] at hx;rcases hx with (hx | rfl) | hx
  ·exact hm x (List.mem_of_mem_take hx)
  ·exact hs
  ·exact hm x (List.mem_of_mem_drop hx)
 ·unfold EN;rw [List.append_assoc,List.pairwise_append];refine ⟨pl.sublist (List.take_sublist _ _),?_,fun a ha b hb=>?_⟩
  ·rw [List.singleton_append,List.pairwise_cons];refine ⟨fun b hb=>?_,pl.sublist (List.drop_sublist _ _)⟩;obtain ⟨j,j0,j1,rfl⟩:=QM hb;rw [kQ j0];simp only [List.length_drop] at j1;exact hi _ (by omega) (by omega)
  ·obtain ⟨j,j0,j1,rfl⟩:=QM ha;simp only [List.length_take] at j1;rw [kR j0 (by omega)];have l1:=lo j j0 (by omega);simp only [List.singleton_append,List.mem_cons] at hb;rcases hb with rfl | hb
   ·omega
   ·obtain ⟨k,k0,k1,rfl⟩:=QM hb;rw [kQ k0];simp only [List.length_drop] at k1;have:=hi (k+i.toNat) (by omega) (by omega);omega
theorem iV {l:List Span} {s:Span} {i:Int}:Li (EN l i s)=Fl l s:=by
 unfold Li Fl;refine Tv fun j=>?_;unfold EN;rw [Fc,Fc,Fe];have e:Bd l j↔Bd (l.take i.toNat) j\/Bd (l.drop i.toNat) j:=by
  conv=>lhs;rw [<-List.take_append_drop i.toNat l]
  rw [Fc]
 rw [e];constructor
 ·rintro ((a | a) | a)
  ·exact .inl (.inl a)
  ·exact .inr a
  ·exact .inl (.inr a)
 ·rintro ((a | a) | a)
  ·exact .inl (.inl a)
  ·exact .inr a
  ·exact .inl (.inr a)
end Go.Fu
end
section
namespace Go.Fu
open Go.Vc
noncomputable section
def Tc (l:List Span) (e:Bn) (j:Int):Prop:=(∃i,Bd l i/\ ¬(e.1<=i/\i<e.1+e.2.1)/\WT e i true=j)\/(e.1<=j/\j<e.1+e.2.2.length)
def Fv (l:List Span) (e:Bn):List Span:=IZ (Tc l e)
def ZJ (size:Int) (l:List Span):Prop:=0<=size/\size<=600/\AR size (-1) l
abbrev W6 (l:List Span) (e:Bn):Prop:= ∃size,ZJ size l/\BX size e=0
def C5:Ct:=⟨Mg (.sl Hk) XD,[.own Hk],fun x=>W6 x.1 x.2,fun x=>Fv x.1 x.2⟩
end
theorem cH (P:Int->Prop): ∀n:Nat,n<=1000000-> ∃l,EJ (fun j=>0<=j/\j<(n:Int)/\P j) l
 | 0,_=>⟨[],trivial,fun i=>by simp [Ei];omega⟩
 | n+1,hn=>by
  obtain ⟨l,h⟩:=cH P n (by omega);rw [show ((n+1:Nat):Int)=(n:Int)+1 by omega];by_cases p:P (n:Int)
  ·by_cases q:0<(n:Int)/\P ((n:Int)-1)
   ·exact ⟨_,(gV q.1 (by omega) h p q.2).2⟩
   ·exact ⟨_,lq (by omega) (by omega) h p q⟩
  ·exact ⟨l,gZ h p⟩
theorem Nt {P:Int->Prop} (h: ∀j,P j->0<=j/\j<1000000):EJ P (IZ P):=by
 obtain ⟨l,g1,g2⟩:=cH P 1000000 (Nat.le_refl _);have:EJ P l:=⟨g1,fun i=>by rw [g2 i];exact ⟨fun q=>q.2.2,fun q=>⟨(h i q).1,(h i q).2,q⟩⟩⟩
 rw [Qw this];exact this
theorem ZI {m n:Int}: ∀ {l:List Span} {a:Int},AR n a l->(∀j,Bd l j->j<m)->AR m a l
 | [],_,_,_=>trivial
 | s::l,a,h,g=>⟨h.1,h.2.1,by have:=g (s.2-1) (BE.2 (.inl (by have:=h.2.1;omega)));omega,ZI h.2.2.2 fun j hj=>g j (BE.2 (.inr hj))⟩
theorem R1 {n:Int}: ∀ {l:List Span} {a:Int},a<=n->AR n a l->(l.length:Int)<=n-a
 | [],_,h,_=>by simp;omega
 | s::l,a,h,g=>by have:=R1 g.2.2.1 g.2.2.2;have:=g.1;have:=g.2.1;simp only [List.length_cons];omega
theorem IA {P:Int->Prop} {l:List Span} {m:Int} (h:EJ P l) (hm: ∀j,P j->j<m) (h0: -1<=m):AR m (-1) l/\(l.length:Int)<=m+1:=by
 have:=ZI h.1 fun j hj=>hm j ((h.2 j).1 hj);exact ⟨this,by have:=R1 h0 this;omega⟩
def JK (e:Bn) (s:Span):List Span:=
 if s.1<e.1/\e.1<s.2 then [(s.1,e.1),(e.1+(e.2.2.length-e.2.1),s.2+(e.2.2.length-e.2.1))]
 else if e.1<=s.1 then [(s.1+(e.2.2.length-e.2.1),s.2+(e.2.2.length-e.2.1))] else [s]
def Gn (e:Bn) (l:List Span):List Span:=l.flatMap (JK e)
theorem jW {e:Bn} {l:List Span} {x:Int} (h0:0<=x) (h1:x<l.length):Gn e (l.take (x+1).toNat)=Gn e (l.take x.toNat)++JK e (gt l x):=by
 unfold Gn;rw [G_ h0 h1];simp
def fc (e:Bn) (s:Span):Prop:=0<=s.1/\s.1<s.2/\s.2<=600/\0<=e.1/\0<=e.2.1/\e.2.2.length<=600+e.2.1/\e.1+e.2.1<=600/\(e.2.1=0\/s.2<=e.1\/e.1+e.2.1<=s.1)
theorem Kf {e:Bn} {i:Int} (h:i<e.1):WT e i true=i:=by unfold WT;rw [if_pos h]
theorem Ke {e:Bn} {i:Int} (h0:0<=e.2.1) (h:e.1+e.2.1<=i):WT e i true=i+e.2.2.length-e.2.1:=by
 unfold WT;rw [if_neg (by omega)];split
 ·rfl
 ·rw [if_pos rfl];omega
theorem mP {e:Bn} {s:Span} (h:fc e s) (j:Int):Bd (JK e s) j↔ ∃i,s.1<=i/\i<s.2/\WT e i true=j:=by
 obtain ⟨a1,a2,a3,a4,a5,a6,a7,a8⟩:=h;unfold JK;by_cases c1:s.1<e.1/\e.1<s.2
 ·rw [if_pos c1,BE,Fe];have z:e.2.1=0:=by omega
  constructor
  ·rintro (q | q)
   ·exact ⟨j,q.1,by omega,Kf q.2⟩
   ·exact ⟨j-(e.2.2.length-e.2.1),by omega,by omega,by rw [Ke a5 (by omega)];omega⟩
  ·rintro ⟨i,b1,b2,b3⟩;by_cases c:i<e.1
   ·rw [Kf c] at b3;left;omega
   ·rw [Ke a5 (by omega)] at b3;right;omega
 ·rw [if_neg c1];by_cases c2:e.1<=s.1
  ·rw [if_pos c2,Fe];constructor
   ·rintro q;exact ⟨j-(e.2.2.length-e.2.1),by omega,by omega,by rw [Ke a5 (by omega)];omega⟩
   ·rintro ⟨i,b1,b2,b3⟩;rw [Ke a5 (by omega)] at b3;omega
  ·rw [if_neg c2,Fe];constructor
   ·rintro q;exact ⟨j,q.1,q.2,Kf (by omega)⟩
   ·rintro ⟨i,b1,b2,b3⟩;rw [Kf (by omega)] at b3;omega
theorem V8 {e:Bn}: ∀ {l:List Span},(∀s∈l,fc e s)-> ∀j:Int,Bd (Gn e l) j↔ ∃i,Bd l i/\WT e i true=j
 | [],_,j=>by simp [Gn,Ei]
 | s::l,h,j=>by
  have e1:Gn e (s::l)=JK e s++Gn e l:=by simp [Gn]
  rw [e1,Fc,mP (h s (by simp)),V8 (fun t ht=>h t (by simp [ht]))];constructor
  ·rintro (⟨i,a,b,c⟩ | ⟨i,a,b⟩)
   ·exact ⟨i,BE.2 (.inl ⟨a,b⟩),c⟩
   ·exact ⟨i,BE.2 (.inr a),b⟩
  ·rintro ⟨i,a,b⟩;rcases BE.1 a with a | a
   ·exact .inl ⟨i,a.1,a.2,b⟩
   ·exact .inr ⟨i,a,b⟩
theorem fQ {e:Bn} {s:Span} (h:fc e s): ∀t∈JK e s,0<=t.1/\t.1<=t.2/\t.2<=1800:=by
 obtain ⟨a1,a2,a3,a4,a5,a6,a7,a8⟩:=h;intro t ht;unfold JK at ht;split at ht
 ·simp at ht;rcases ht with rfl | rfl<;>simp only<;>omega
 ·split at ht
  ·simp at ht;subst ht;simp only;omega
  ·simp at ht;subst ht;omega
theorem rD (e:Bn) (s:Span):(JK e s).length<=2:=by unfold JK;split<;>(try split)<;>simp
theorem Tb (e:Bn): ∀l:List Span,(Gn e l).length<=2*l.length
 | []=>by simp [Gn]
 | s::l=>by
  have e1:Gn e (s::l)=JK e s++Gn e l:=by simp [Gn]
  have:=rD e s;have:=Tb e l;rw [e1,List.length_append,List.length_cons];omega
theorem fH {n:Int}: ∀ {l:List Span} {a:Int},AR n a l->l.Pairwise fun s t=>s.2<t.1
 | [],_,_=>.nil
 | s::l,a,h=>.cons (fun t ht=>(GS h.2.2.2 t ht).1) (fH h.2.2.2)
theorem np {e:Bn} {l:List Span} {n a:Int} (hl:AR n a l) (hu: ∀s∈l,fc e s) (hn:l.length<=50000):Ns (Gn e l):=by
 refine ⟨by have:=Tb e l;omega,fun t ht=>?_,?_⟩
 ·simp only [Gn,List.mem_flatMap] at ht;obtain ⟨s,h1,h2⟩:=ht;have:=fQ (hu s h1) t h2;exact ⟨this.1,this.2.1,by omega⟩
 ·unfold Gn;rw [List.pairwise_flatMap];refine ⟨fun s hs=>?_,(fH hl).imp_of_mem fun {s t} hs ht hst x hx y hy=>?_⟩
  ·obtain ⟨a1,a2,a3,a4,a5,a6,a7,a8⟩:=hu s hs;unfold JK;split
   ·simp;omega
   ·split<;>simp
  ·obtain ⟨a1,a2,a3,a4,a5,a6,a7,a8⟩:=hu s hs;obtain ⟨b1,b2,b3,b4,b5,b6,b7,b8⟩:=hu t ht;unfold JK at hx hy;split at hx<;>split at hy
   ·omega
   ·split at hy<;>simp at hx hy<;>subst hy<;>rcases hx with rfl | rfl<;>simp only<;>omega
   ·split at hx<;>simp at hx hy<;>subst hx<;>rcases hy with rfl | rfl<;>simp only<;>omega
   ·split at hx<;>split at hy<;>simp at hx hy<;>subst hx<;>subst hy<;>(try simp only)<;>omega
theorem mW {l:List Span} (h:Ns l):EJ (Bd l) (Li l):=
 Nt fun j ⟨s,hs,a,b⟩=>by
  have:=h.2.1 s hs;exact ⟨by omega,by omega⟩
theorem Qg {l:List Span} {s:Span} (h:KJ (-1) l):EJ (fun i=>Bd l i/\ ¬(s.1<=i/\i<s.2)) (Aq l s):=
 Nt fun j ⟨a,_⟩=>by have:=J6 h a;omega
theorem kv.set {size:Int} {l:List Span} (h:kv size l):ZJ size l:=⟨h.1,h.2.1,h.2.2.2⟩
theorem ZJ.pre {size:Int} {l:List Span} (h:ZJ size l):EO l:=⟨by have:=R1 (by have:=h.1;omega) h.2.2;have:=h.2.1;omega,OT (by have:=h.2.1;omega) (Int.le_refl _) h.2.2⟩
theorem WE {size:Int} {l:List Span} {e:Bn} (ok:ZJ size l) (f:BX size e=0):(∀s∈Aq l (e.1,e.1+e.2.1),fc e s)/\AR 600 (-1) (Aq l (e.1,e.1+e.2.1))/\((Aq l (e.1,e.1+e.2.1)).length:Int)<=601:=by
 have m:=Bs.1 (show Bg size e from f);have hc:=Qg (s:=(e.1,e.1+e.2.1)) ok.pre.2;have hs:=IA hc (m:=600) (fun j hj=>by have:=J6 ok.2.2 hj.1;have:=ok.2.1;omega) (by omega);refine ⟨fun s hs'=>?_,hs.1,by omega⟩;have b:=GS hs.1 s hs';have z: ∀i,s.1<=i->i<s.2-> ¬(e.1<=i/\i<e.1+e.2.1):=fun i a b=>((hc.2 i).1 ⟨s,hs',a,b⟩).2;have z1:=z s.1 (Int.le_refl _) b.2.1;have z2:=z e.1;refine ⟨by omega,b.2.1,b.2.2,m.2.2.1,m.2.2.2.2.1,by omega,by omega,?_⟩;by_cases c:e.2.1=0
 ·exact .inl c
 ·right;by_cases d:s.2<=e.1
  ·exact .inl d
  ·right;by_cases d2:e.1+e.2.1<=s.1
   ·exact d2
   ·exfalso;by_cases d3:e.1<=s.1
    ·exact z1 ⟨d3,by omega⟩
    ·exact z2 (by omega) (by omega) ⟨by omega,by omega⟩
theorem jX {size:Int} {l:List Span} {e:Bn} (ok:ZJ size l) (f:BX size e=0):
  Ns (Gn e (Aq l (e.1,e.1+e.2.1)))/\EO (Li (Gn e (Aq l (e.1,e.1+e.2.1))))/\Fw (e.1,e.1+e.2.2.length)/\Fl (Li (Gn e (Aq l (e.1,e.1+e.2.1)))) (e.1,e.1+e.2.2.length)=Fv l e:=by
 have m:=Bs.1 (show Bg size e from f);obtain ⟨u1,u2,u3⟩:=WE ok f;have ha:=np u2 u1 (by omega);have hj:=mW ha;have hc:=Qg (s:=(e.1,e.1+e.2.1)) ok.pre.2;have small: ∀j,Bd (Gn e (Aq l (e.1,e.1+e.2.1))) j->j<1800:=fun j ⟨t,ht,a,b⟩=>by
  simp only [Gn,List.mem_flatMap] at ht;obtain ⟨s,h1,h2⟩:=ht;have:=fQ (u1 s h1) t h2;omega
 have hs:=IA hj (m:=1800) small (by omega);refine ⟨ha,⟨by omega,hj.1⟩,⟨m.2.2.1,by show e.1<=e.1+e.2.2.length;omega,by show e.1+(e.2.2.length:Int)<=1000000;omega⟩,Tv fun j=>?_⟩;rw [hj.2 j,V8 u1];unfold Tc;constructor
 ·rintro (⟨i,a,b⟩ | a)
  ·have:=(hc.2 i).1 a;exact .inl ⟨i,this.1,this.2,b⟩
  ·exact .inr a
 ·rintro (⟨i,a,b,c⟩ | a)
  ·exact .inl ⟨i,(hc.2 i).2 ⟨a,b⟩,c⟩
  ·exact .inr a
end Go.Fu
end
section
namespace Go.Fu
open Go.Vc
end Go.Fu
end
section
namespace Go.Fu
open Go.Vc
noncomputable section
def G5 (p:Int×Int×Int) (c:UInt8):Int×Int×Int:=if c=10 then (p.1+1,p.2.1+1,0) else (p.1+1,p.2.1,p.2.2+1)
def posOf (s:Bytes):Int×Int×Int:=s.foldl G5 (0,0,0)
def GG:Ct:=⟨X7 .str,[.val wy],fun s=>Hw s,fun s=>posOf s⟩
def Iq:Ct:=GG
theorem JI (s:Bytes) (c:UInt8):posOf (s++[c])=G5 (posOf s) c:=by simp [posOf]
theorem Kj {s:Bytes} {i:Int} (h0:0<=i) (h1:i<s.length):posOf (s.take (i+1).toNat)=G5 (posOf (s.take i.toNat)) (gt s i):=by
 rw [G_ h0 h1,JI]
theorem Im (s:Bytes):(posOf s).1=s.length/\0<=(posOf s).2.1/\0<=(posOf s).2.2/\(posOf s).2.1+(posOf s).2.2<=s.length/\((posOf s).2.1=0->(posOf s).2.2=s.length):=by
 induction s using MV with
 | h0=>simp [posOf]
 | h1 s c ih=>
  rw [JI];simp only [G5,List.length_append,List.length_cons,List.length_nil];split<;>simp only<;>omega
theorem QP {s:Bytes} {i:Int} (h0:0<=i): ∀(n:Nat),i+n<=s.length->(∀j,i<=j->j<i+n->gt s j≠10)->posOf (s.take (i+n).toNat)=((posOf (s.take i.toNat)).1+n,(posOf (s.take i.toNat)).2.1,(posOf (s.take i.toNat)).2.2+n)
 | 0,h1,h2=>by simp
 | n+1,h1,h2=>by
  have ih:=QP h0 n (by omega) fun j a b=>h2 j a (by omega);rw [show i+((n+1:Nat):Int)=(i+n)+1 by omega,Kj (by omega) (by omega),ih];simp only [G5];rw [if_neg (h2 _ (by omega) (by omega))];refine Prod.ext ?_ (Prod.ext ?_ ?_)<;>simp only<;>omega
theorem jN {s:Bytes} {i j:Int} (h0:0<=i) (h1:i<=j) (h2:j<=s.length):(posOf (s.take i.toNat)).2.1<=(posOf (s.take j.toNat)).2.1:=by
 have: ∀n:Nat,i+n<=s.length->(posOf (s.take i.toNat)).2.1<=(posOf (s.take (i+n).toNat)).2.1:=by
  intro n
  induction n with
  | zero=>intro _;simp
  | succ n ih=>
   intro h;have:=ih (by omega);rw [show i+((n+1:Nat):Int)=(i+n)+1 by omega,Kj (by omega) (by omega)];simp only [G5];split<;>simp only<;>omega
 have:=this (j-i).toNat (by omega);rwa [show i+((j-i).toNat:Int)=j by omega] at this
end
end Go.Fu
end
section
namespace Go.Fu
open Go.Vc
noncomputable section
end
end Go.Fu
end
section
namespace Go.Fu
open Go.Vc
theorem V5 {a:Int} (h0:0<=a) (h1:a<=9223372036854775807):(IntKind.u64.wrap a).fdiv (2 ^ min (Int.toNat 1) IntKind.u64.bits)=a/2:=by
 have e:IntKind.u64.wrap a=a:=by simp [IntKind.wrap,IntKind.bits,IntKind.signed];omega
 rw [e];have:((2:Int) ^ min (Int.toNat 1) IntKind.u64.bits)=2:=by decide
 rw [this,Int.fdiv_eq_ediv_of_nonneg _ (by omega)]
theorem PD {l:List Int} (h: ∀i,0<i->i<(l.length:Int)->gt l (i-1)<gt l i) {i j:Int} (h0:0<=i) (h1:i<j) (h2:j<l.length):gt l i<gt l j:=by
 have: ∀n:Nat,i+1+n<l.length->gt l i<gt l (i+1+n):=by
  intro n
  induction n with
  | zero=>intro hn;have:=h (i+1) (by omega) (by omega);simpa using this
  | succ n ih=>
   intro hn;have a:=ih (by omega);have b:=h (i+1+((n+1:Nat):Int)) (by omega) (by omega);rw [show i+1+((n+1:Nat):Int)-1=i+1+n by omega] at b;omega
 have:=this (j-i-1).toNat (by omega);rwa [show i+1+((j-i-1).toNat:Int)=j by omega] at this
theorem NZ {l:List Int} {a:Int}: ∀ {n:Int},0<=n->n<=l.length->(∀i,0<=i->i<n->gt l i<=a)->(n<l.length->a<gt l n)->((l.takeWhile fun x=>decide (x<=a)).length:Int)=n:=by
 induction l with
 | nil=>intro n h0 h1 _ _;simp at h1 |-;omega
 | cons x l ih=>
  intro n h0 h1 h2 h3;by_cases e:n=0
  ·subst e;have:=h3 (by simp);rw [RL] at this;rw [List.takeWhile_cons,if_neg (by simp;omega)];rfl
  ·have hx:=h2 0 (by omega) (by omega);rw [RL] at hx;rw [List.takeWhile_cons,if_pos (by simpa using hx),List.length_cons];have:=ih (n:=n-1) (by omega) (by simp at h1;omega) (fun i a b=>by have:=h2 (i+1) (by omega) (by omega);rwa [UA (by omega),show i+1-1=i by omega] at this) (fun h=>by have:=h3 (by simp;omega);rwa [UA (by omega)] at this);omega
theorem mZ {l:List Int} {a n:Int} (h0:0<=n) (h1:n<=l.length) (h2: ∀i,0<=i->i<n->gt l i<=a) (h3:n<l.length->a<gt l n):WH l a=n-1:=by
 unfold WH;rw [NZ h0 h1 h2 h3]
end Go.Fu
end
section
namespace Go.Fu
open Go.Vc
noncomputable section
def FP (s:Bytes) (at_:Int):(Int×Int×Int)×Int:=if at_<0\/(s.length:Int)<at_ then ((0,0,0),2) else (posOf (s.take at_.toNat),0)
def nS:Ct:=⟨Mg .str tI,[.val wy,.val tI],fun x=>Hw x.1,fun x=>FP x.1 x.2⟩
def G7:Ct:=nS
theorem eX (s:Bytes):(posOf s).2.1=(s.count 10:Int):=by
 induction s using MV with
 | h0=>simp [posOf]
 | h1 s c ih=>
  rw [JI,List.count_append,List.count_singleton];simp only [G5,beq_iff_eq];split<;>simp only<;>omega
theorem jO {s:Bytes} (h: ∀j:Int,0<=j->j<s.length->gt s j≠10):(posOf s).2.2=s.length:=by
 have:=QP (s:=s) (i:=0) (by omega) s.length (by omega) fun j a b=>h j a (by omega);rw [List.take_of_length_le (by omega)] at this;rw [this];simp [posOf]
theorem jM {s:Bytes} {i:Int} (h0:0<=i) (h1:i<s.length) (h:gt s i=10) (hn: ∀j:Int,i<j->j<s.length->gt s j≠10):(posOf s).2.2=s.length-i-1:=by
 have:=QP (s:=s) (i:=i+1) (by omega) (s.length-i-1).toNat (by omega) fun j a b=>hn j (by omega) (by omega);rw [List.take_of_length_le (by omega),Kj h0 h1] at this;rw [this];simp only [G5,if_pos h];omega
theorem uE {c:UInt8}:(c.toNat:Int)=10↔c=10:=by
 rw [<-UInt8.toNat_inj];simp only [UInt8.reduceToNat];omega
end
end Go.Fu
end
section
namespace Go.Fu
open Go.Vc
noncomputable section
theorem En: ∀(a b:Bytes) (i:Int),AS i (a++b)=AS i a++AS (i+a.length) b
 | [],b,i=>by simp [AS]
 | c::a,b,i=>by
  simp only [List.cons_append,AS,En a b,List.length_cons];rw [show i+1+(a.length:Int)=i+((a.length+1:Nat):Int) by omega];split<;>simp
theorem Mb: ∀(s:Bytes) (i d:Int),AS (i+d) s=(AS i s).map (· +d)
 | [],i,d=>by simp [AS]
 | c::s,i,d=>by
  have:=Mb s (i+1) d;simp only [AS];rw [show i+d+1=i+1+d by omega,this];split
  ·simp
  ·rfl
theorem EC: ∀(s:Bytes) (i x:Int),x∈AS i s->i<x/\x<=i+s.length
 | [],i,x,h=>by simp [AS] at h
 | c::s,i,x,h=>by
  simp only [AS] at h;have:x=i+1\/x∈AS (i+1) s:=by
   split at h
   ·simpa using h
   ·exact .inr h
  simp only [List.length_cons];rcases this with e | e
  ·omega
  ·have:=EC s (i+1) x e;omega
theorem Px {a b:List Int} {n:Int} (ha: ∀x∈a,x<=n) (hb: ∀x∈b,n<x):((a++b).takeWhile fun x=>decide (x<=n))=a/\((a++b).dropWhile fun x=>decide (x<=n))=b:=by
 induction a with
 | nil=>
  cases b with
  | nil=>simp
  | cons x b=>
   have:=hb x (by simp);simp [List.takeWhile,List.dropWhile,show ¬x<=n by omega]
 | cons x a ih=>
  have h1:=ha x (by simp);obtain ⟨i1,i2⟩:=ih fun y hy=>ha y (by simp [hy]);simp [List.takeWhile,List.dropWhile,h1,i1,i2]
def FF (l:List Int) (e:Bn):List Int:=
 (l.takeWhile fun x=>decide (x<=e.1))++AS e.1 e.2.2++(l.dropWhile fun x=>decide (x<=e.1+e.2.1)).map (· +((e.2.2.length:Int)-e.2.1))
theorem X4 {s:Bytes} {e:Bn} (h:Bg s.length e):Ab (AY s e)=FF (Ab s) e:=by
 have m:=Bs.1 h;have split1: ∀k:Int,0<=k->k<=s.length->Ab s=(0::AS 0 (s.take k.toNat))++AS k (s.drop k.toNat):=fun k h0 h1=>by
  have:s=s.take k.toNat++s.drop k.toNat:=(List.take_append_drop _ _).symm;simp only [Ab];rw [this,En,<-this];simp only [List.length_take,Int.zero_add,List.cons_append];rw [show ((min k.toNat s.length:Nat):Int)=k by omega]
 have cut: ∀k:Int,0<=k->k<=s.length->((Ab s).takeWhile fun x=>decide (x<=k))=0::AS 0 (s.take k.toNat)/\((Ab s).dropWhile fun x=>decide (x<=k))=AS k (s.drop k.toNat):=fun k h0 h1=>by
  rw [split1 k h0 h1];refine Px (fun x hx=>?_) fun x hx=>(EC _ _ _ hx).1;simp only [List.mem_cons] at hx;rcases hx with hx | hx
  ·omega
  ·have:=(EC _ _ _ hx).2;simp only [List.length_take] at this;omega
 unfold FF;rw [(cut e.1 (by omega) (by omega)).1,(cut (e.1+e.2.1) (by omega) (by omega)).2,<-Mb];simp only [Ab,AY,En,List.length_append,List.length_take,Int.zero_add,List.cons_append];rw [show ((min e.1.toNat s.length:Nat):Int)=e.1 by omega,show ((min e.1.toNat s.length+e.2.2.length:Nat):Int)=e.1+e.2.1+((e.2.2.length:Int)-e.2.1) by omega]
theorem fP {l:List Int} (h: ∀i:Int,0<i->i<(l.length:Int)->gt l (i-1)<gt l i):l.Pairwise (· < ·):=by
 rw [List.pairwise_iff_getElem];intro i j hi hj hij;have:=PD h (i:=i) (j:=j) (by omega) (by omega) (by omega);rwa [L_ hi,L_ hj] at this
abbrev bc (e:Bn):Prop:=0<=e.1/\e.1<=600/\0<=e.2.1/\e.2.1<=600/\e.2.2.length<=1200
def C4:Ct:=⟨Mg (.sl tI) XD,[.own tI],fun x=>FI x.1/\Gg x.1/\bc x.2,fun x=>FF x.1 x.2⟩
abbrev TZ (l:List Int):Prop:=l.Pairwise (· < ·)
def Cz (l:List Int) (n:Int):Int:=((l.takeWhile fun y=>decide (y<n)).length:Int)
def El:Ct:=⟨Mg (.sl tI) tI,[.val tI],fun x=>Gg x.1/\TZ x.1,fun x=>Cz x.1 x.2⟩
theorem OS (l:List Int) (n:Int):Cz l (n+1)=((l.takeWhile fun y=>decide (y<=n)).length:Int):=by
 unfold Cz;congr 3;funext y;simp only [decide_eq_decide];omega
theorem ZH (l:List Int) (n:Int):0<=Cz l n/\Cz l n<=l.length:=by
 unfold Cz;have:=congrArg List.length (List.takeWhile_append_dropWhile (p:=fun y=>decide (y<n)) (l:=l));rw [List.length_append] at this;omega
theorem fF (l:List Int) (n:Int):l.take (Cz l (n+1)).toNat=l.takeWhile fun y=>decide (y<=n):=by
 rw [OS,Int.toNat_natCast];have:=List.takeWhile_append_dropWhile (p:=fun y=>decide (y<=n)) (l:=l)
 calc l.take (l.takeWhile fun y=>decide (y<=n)).length=(l.takeWhile (fun y=>decide (y<=n))++l.dropWhile fun y=>decide (y<=n)).take (l.takeWhile fun y=>decide (y<=n)).length:=by rw [this]
  _=_:=List.take_left
theorem fE (l:List Int) (n:Int):l.drop (Cz l (n+1)).toNat=l.dropWhile fun y=>decide (y<=n):=by
 rw [OS,Int.toNat_natCast];have:=List.takeWhile_append_dropWhile (p:=fun y=>decide (y<=n)) (l:=l)
 calc l.drop (l.takeWhile fun y=>decide (y<=n)).length=(l.takeWhile (fun y=>decide (y<=n))++l.dropWhile fun y=>decide (y<=n)).drop (l.takeWhile fun y=>decide (y<=n)).length:=by rw [this]
  _=_:=List.drop_left
theorem fD {l:List Int} {n i:Int} (h0:0<=i) (h1:i<=l.length) (h2: ∀k,0<=k->k<i->gt l k<n) (h3:i<l.length->n<=gt l i):Cz l n=i:=by
 have:=OS l (n-1);rw [show n-1+1=n by omega] at this;rw [this,NZ h0 h1 (fun k a b=>by have:=h2 k a b;omega) fun t=>by have:=h3 t;omega]
theorem al {l:List Int} (h:l.Pairwise (· < ·)) {i j:Int} (h0:0<=i) (h1:i<j) (h2:j<l.length):gt l i<gt l j:=by
 rw [List.pairwise_iff_getElem] at h;rw [RM h0 (by omega),RM (by omega) h2];exact h _ _ (by omega) (by omega) (by omega)
theorem ZK {l:List Int} (h:FI l) {i:Int} (h0:0<=i) (h1:i<l.length):i<=gt l i/\gt l i<=600:=by
 obtain ⟨a1,a2,a3,a4⟩:=h;have lo: ∀n:Nat,(n:Int)<l.length->(n:Int)<=gt l n:=by
  intro n
  induction n with
  | zero=>intro _;rw [show ((0:Nat):Int)=0 from rfl,a2];omega
  | succ n ih=>
   intro hn;have:=ih (by omega);have:=a3 ((n+1:Nat):Int) (by omega) hn;rw [show ((n+1:Nat):Int)-1=n by omega] at this;omega
 have:=lo i.toNat (by omega);rw [show ((i.toNat:Nat):Int)=i by omega] at this;refine ⟨this,?_⟩;rcases Int.lt_or_le i ((l.length:Int)-1) with c | c
 ·have:=PD a3 (i:=i) (j:=(l.length:Int)-1) h0 c (by omega);omega
 ·rw [show i=(l.length:Int)-1 by omega];exact a4
theorem Qb {l:List Int} (h:FI l):l.length<=601:=by
 have:=List.length_pos_iff.2 h.1;have:=ZK h (i:=(l.length:Int)-1) (by omega) (by omega);omega
theorem XB {l:List Int} (h:FI l) {x:Int} (hx:x∈l):0<=x/\x<=600:=by
 obtain ⟨j,j0,j1,rfl⟩:=QM hx;have:=ZK h j0 j1;omega
end
end Go.Fu
end
section
namespace Go.Fu
open Go.Vc
noncomputable section
def EY (s:Bytes):List Int×Int:=if 600<s.length then ([],1) else ((AH s).map fun l=>(BJ l).1,0)
def Xl:Ct:=⟨X7 .str,[.own tI,.val tI],fun _=>True,fun s=>EY s⟩
def Ea:Ct:=Xl
end
end Go.Fu
end
section
namespace Go.Fu
open Go.Vc
abbrev Ev:=List Bn×List Bn
structure Bz where
 text:Bytes
 As:List Ev
 DF:List Ev
 O5:Bool
def JM (l:List Ev):List Ev:=if 20<l.length then l.drop 1 else l
def Bw (l:List Ev):Ev:=l.getLastD ([],[])
def JQ (l:List Ev) (x b:Bn):List Ev:=l.dropLast++[((Bw l).1++[x],(Bw l).2++[b])]
def FZ (h:Bz):List Ev:=if h.O5=true then h.As else JM (h.As++[([],[])])
def Dq (h:Bz) (x:Bn):Bz:=⟨AY h.text x,JQ (FZ h) x (CJ h.text x),[],true⟩
def RN (h:Bz):Bz:=⟨Aa h.text (Bw h.As).2.reverse,h.As.dropLast,h.DF++[Bw h.As],false⟩
def Pl (h:Bz):Bz:=⟨Aa h.text (Bw h.DF).1,h.As++[Bw h.DF],h.DF.dropLast,false⟩
abbrev FQ:=Int×Bn
def Bh (h:Bz) (d:FQ):Bz×Int:=
 if d.1=1 then (if BX h.text.length d.2≠0 then (h,BX h.text.length d.2) else (Dq h d.2,0))
 else if d.1=2 then (⟨h.text,h.As,h.DF,false⟩,0)
 else if d.1=3 then (if h.As=[] then (h,7) else (RN h,0))
 else if d.1=4 then (if h.DF=[] then (h,7) else (Pl h,0))
 else (h,3)
def Dx (h:Bz) (d:FQ):List Bn:=
 if d.1=1 then (if BX h.text.length d.2≠0 then [] else [d.2])
 else if d.1=3 then (if h.As=[] then [] else (Bw h.As).2.reverse)
 else if d.1=4 then (if h.DF=[] then [] else (Bw h.DF).1) else []
def Fm (h:Bz) (l:List FQ):Bz:=l.foldl (fun h d=>(Bh h d).1) h
def DO (h:Bz):List FQ->List Bytes
 | []=>[]
 | d::l=>(Bh h d).1.text::DO (Bh h d).1 l
def DN (h:Bz):List FQ->List Int
 | []=>[]
 | d::l=>(Bh h d).2::DN (Bh h d).1 l
def BZ (s:Bytes):Bz:=⟨s,[],[],false⟩
theorem G0 (h:Bz) (l:List FQ) (d:FQ):Fm h (l++[d])=(Bh (Fm h l) d).1:=by simp [Fm]
theorem LG: ∀(l:List FQ) (h:Bz) (d:FQ),DO h (l++[d])=DO h l++[(Fm h (l++[d])).text]
 | [],h,d=>rfl
 | x::l,h,d=>by simp only [List.cons_append,DO];rw [LG l _ d];rfl
theorem LF: ∀(l:List FQ) (h:Bz) (d:FQ),DN h (l++[d])=DN h l++[(Bh (Fm h l) d).2]
 | [],h,d=>rfl
 | x::l,h,d=>by simp only [List.cons_append,DN];rw [LF l _ d];rfl
theorem JD: ∀(l:List FQ) (h:Bz),(DO h l).length=l.length
 | [],h=>rfl
 | x::l,h=>by simp [DO,JD l]
theorem JC: ∀(l:List FQ) (h:Bz),(DN h l).length=l.length
 | [],h=>rfl
 | x::l,h=>by simp [DN,JC l]
theorem mj {s:Bytes} {e:Bn} (h:Bg s.length e):AY (AY s e) (CJ s e)=s/\Bg (AY s e).length (CJ s e):=by
 have hl:=Cf h;have m:=Bs.1 h;have d1:((s.take (e.1+e.2.1).toNat).drop e.1.toNat).length=e.2.1.toNat:=by simp only [List.length_drop,List.length_take];omega
 refine ⟨?_,?_⟩
 ·unfold AY CJ;simp only;have t1:(s.take e.1.toNat++e.2.2++s.drop (e.1+e.2.1).toNat).take e.1.toNat=s.take e.1.toNat:=by
   rw [List.append_assoc,List.take_append_of_le_length (by simp;omega),List.take_of_length_le (by simp;omega)]
  have t2:(s.take e.1.toNat++e.2.2++s.drop (e.1+e.2.1).toNat).drop (e.1+(e.2.2.length:Int)).toNat=s.drop (e.1+e.2.1).toNat:=by
   rw [List.drop_append_of_le_length (by simp;omega),List.drop_of_length_le (by simp;omega),List.nil_append]
  rw [t1,t2];have t3:s.take e.1.toNat++(s.take (e.1+e.2.1).toNat).drop e.1.toNat=s.take (e.1+e.2.1).toNat:=by
   have:=List.take_append_drop e.1.toNat (s.take (e.1+e.2.1).toNat);rw [List.take_take,show min e.1.toNat (e.1+e.2.1).toNat=e.1.toNat by omega] at this;exact this
  rw [t3,List.take_append_drop]
 ·rw [Bs];unfold CJ;simp only [d1];omega
theorem CW {n:Int} {e:Bn} {l:List Bn}:DQ n (e::l)=0↔Bg n e/\DQ (n-e.2.1+e.2.2.length) l=0:=by
 simp only [DQ,Bg];constructor
 ·intro h;split at h
  ·rename_i c;exact absurd h c
  ·rename_i c;exact ⟨Classical.byContradiction c,h⟩
 ·rintro ⟨a,b⟩;rw [if_neg (by simpa using a)];exact b
theorem JT {e:Bn}: ∀ {l:List Bn} {s:Bytes},DQ s.length (l++[e])=0↔DQ s.length l=0/\Bg (Aa s l).length e
 | [],s=>by rw [List.nil_append,CW];simp [Aa,DQ]
 | x::l,s=>by
  rw [List.cons_append,CW,CW];simp only [Aa];constructor
  ·rintro ⟨a,b⟩;rw [<-Cf a] at b;rw [<-Cf a];have:=(JT (e:=e) (l:=l) (s:=AY s x)).1 b;exact ⟨⟨a,this.1⟩,this.2⟩
  ·rintro ⟨⟨a,b⟩,c⟩;rw [<-Cf a] at b;rw [<-Cf a];exact ⟨a,JT.2 ⟨b,c⟩⟩
theorem Mz: ∀ {l:List Bn} {s:Bytes},DQ s.length l=0->s.length<=600->(Aa s l).length<=600
 | [],s,_,h=>h
 | x::l,s,h,hs=>by
  obtain ⟨a,b⟩:=CW.1 h;rw [<-Cf a] at b;have:=Bs.1 a;have:=Cf a;exact Mz (l:=l) (s:=AY s x) b (by omega)
def Jo (t:Bytes):List Ev->List Bytes
 | []=>[]
 | g::gs=>Aa t g.2.reverse::Jo (Aa t g.2.reverse) gs
def dE (t:Bytes):List Ev->List Bytes
 | []=>[]
 | g::gs=>Aa t g.1::dE (Aa t g.1) gs
def rj (t:Bytes):List Ev->Prop
 | []=>True
 | g::gs=>DQ t.length g.2.reverse=0/\DQ (Aa t g.2.reverse).length g.1=0/\Aa (Aa t g.2.reverse) g.1=t/\rj (Aa t g.2.reverse) gs
def okF (t:Bytes):List Ev->Prop
 | []=>True
 | g::gs=>DQ t.length g.1=0/\DQ (Aa t g.1).length g.2.reverse=0/\Aa (Aa t g.1) g.2.reverse=t/\okF (Aa t g.1) gs
def GR (h:Bz):List Bytes:=(Jo h.text h.As.reverse).reverse
def pS (h:Bz):List Bytes:=dE h.text h.DF.reverse
def FM (h:Bz):List Bytes:=GR h++h.text::pS h
structure F4 (n:Nat) (h:Bz):Prop where
 eH:rj h.text h.As.reverse
 vt:okF h.text h.DF.reverse
 len:h.text.length<=600
 O5:h.O5=true->h.As≠[]
 all:h.As.length+h.DF.length<=20
 oZ: ∀g∈h.As++h.DF,g.1.length<=n/\g.2.length<=n
theorem Y0: ∀(l:List Ev) (t:Bytes),(Jo t l).length=l.length
 | [],_=>rfl
 | g::l,t=>by simp [Jo,Y0 l]
theorem dF: ∀(l:List Ev) (t:Bytes),(dE t l).length=l.length
 | [],_=>rfl
 | g::l,t=>by simp [dE,dF l]
theorem KP (h:Bz):(GR h).length=h.As.length:=by simp [GR,Y0]
theorem pT (h:Bz):(pS h).length=h.DF.length:=by simp [pS,dF]
theorem QK (h:Bz):(FM h).length=h.As.length+1+h.DF.length:=by simp [FM,KP,pT];omega
theorem OG: ∀(l:List Ev) (t:Bytes),Jo t l.dropLast=(Jo t l).dropLast
 | [],_=>rfl
 | [g],_=>rfl
 | g::g'::l,t=>by
  have:=OG (g'::l) (Aa t g.2.reverse);simp only [List.dropLast_cons_cons,Jo] at this |-;rw [this]
theorem Rj: ∀(l:List Ev) (t:Bytes),rj t l->rj t l.dropLast
 | [],_,h=>h
 | [g],_,h=>trivial
 | g::g'::l,t,h=>by
  have:=Rj (g'::l) _ h.2.2.2;exact ⟨h.1,h.2.1,h.2.2.1,this⟩
theorem Em {l:List Ev} (h:l≠[]):l=l.dropLast++[Bw l]:=by
 unfold Bw;have:=List.dropLast_concat_getLast h;rw [List.getLastD_eq_getLast?,List.getLast?_eq_some_getLast h];exact this.symm
theorem M3 (l:List Ev) (g:Ev):Bw (l++[g])=g:=by simp [Bw]
theorem MC {l:List Ev} (h:l≠[]):Bw l∈l:=by
 have:=List.mem_append_right l.dropLast (List.mem_singleton.2 rfl:Bw l∈[Bw l]);rwa [<-Em h] at this
theorem F4.new {s:Bytes} (h:s.length<=600):F4 0 (BZ s):=⟨trivial,trivial,h,by simp [BZ],by simp [BZ],by simp [BZ]⟩
theorem Za (l:List Ev) (g:Ev) (x b:Bn):JQ (JM (l++[g])) x b=JM (l++[(g.1++[x],g.2++[b])]):=by
 unfold JM;by_cases h:20<(l++[g]).length
 ·rw [if_pos h,if_pos (by simpa using h)]
  match l,h with
  | [],h=>simp at h
  | a::l,_=>simp [JQ,M3]
 ·rw [if_neg h,if_neg (by simpa using h)];simp [JQ,M3]
theorem S8 {n:Nat} {h:Bz} {x:Bn} (i:F4 n h) (hx:Bg h.text.length x):
  (h.O5=true->rj (Dq h x).text (Dq h x).As.reverse/\GR (Dq h x)=GR h/\(Dq h x).As.length=h.As.length)/\
  (h.O5=false->rj (Dq h x).text (Dq h x).As.reverse/\GR (Dq h x)=(if 20<h.As.length+1 then (GR h++[h.text]).drop 1 else GR h++[h.text])/\(Dq h x).As.length=(if 20<h.As.length+1 then h.As.length else h.As.length+1)):=by
 obtain ⟨mu,mm⟩:=mj hx;constructor
 ·intro ho;have hn:=i.O5 ho;have hs:=Em hn;have e1:(Dq h x).As=h.As.dropLast++[((Bw h.As).1++[x],(Bw h.As).2++[CJ h.text x])]:=by
   simp only [Dq,FZ,ho,if_true,JQ]
  have e2:(Dq h x).As.reverse=((Bw h.As).1++[x],(Bw h.As).2++[CJ h.text x])::h.As.dropLast.reverse:=by rw [e1];simp
  have e3:h.As.reverse=Bw h.As::h.As.dropLast.reverse:=by
   conv=>lhs;rw [hs]
   simp
  have p:=i.eH;rw [e3] at p;have e4:Aa (AY h.text x) ((Bw h.As).2++[CJ h.text x]).reverse=Aa h.text (Bw h.As).2.reverse:=by
   simp [Aa,mu]
  refine ⟨?_,?_,?_⟩
  ·rw [e2];show rj (AY h.text x) _;refine ⟨?_,?_,?_,?_⟩
   ·simp only [List.reverse_append,List.reverse_cons,List.reverse_nil,List.nil_append,List.singleton_append];rw [CW,<-Cf mm,mu];exact ⟨mm,p.1⟩
   ·simp only [e4];rw [JT];refine ⟨p.2.1,?_⟩;rw [p.2.2.1];exact hx
   ·simp only [e4];rw [Lh,p.2.2.1]
   ·simp only [e4];exact p.2.2.2
  ·unfold GR;rw [e2,e3];simp only [Jo,Dq];rw [e4]
  ·rw [e1];conv=>rhs;rw [hs]
   simp
 ·intro ho;have e1:(Dq h x).As=JM (h.As++[([x],[CJ h.text x])]):=by
   simp only [Dq,FZ,ho];rw [if_neg (by simp),Za];rfl
  have full:rj (AY h.text x) (h.As++[([x],[CJ h.text x])]).reverse/\(Jo (AY h.text x) (h.As++[([x],[CJ h.text x])]).reverse)=h.text::Jo h.text h.As.reverse:=by
   simp only [List.reverse_append,List.reverse_cons,List.reverse_nil,List.nil_append,List.singleton_append];have e4:Aa (AY h.text x) [CJ h.text x]=h.text:=by simp [Aa,mu]
   refine ⟨⟨?_,?_,?_,?_⟩,?_⟩
   ·simp only [List.reverse_cons,List.reverse_nil,List.nil_append];rw [CW];exact ⟨mm,rfl⟩
   ·simp only [List.reverse_cons,List.reverse_nil,List.nil_append,e4];rw [CW];exact ⟨hx,rfl⟩
   ·simp only [List.reverse_cons,List.reverse_nil,List.nil_append,e4];rfl
   ·simp only [List.reverse_cons,List.reverse_nil,List.nil_append,e4];exact i.eH
   ·simp only [Jo,List.reverse_cons,List.reverse_nil,List.nil_append,e4]
  have pl:(Jo (AY h.text x) (h.As++[([x],[CJ h.text x])]).reverse).reverse=GR h++[h.text]:=by rw [full.2];simp [GR]
  unfold GR at pl |-;rw [e1];unfold JM;simp only [List.length_append,List.length_singleton];by_cases hc:20<h.As.length+1
  ·rw [if_pos hc,if_pos hc,if_pos hc];have rd:((h.As++[([x],[CJ h.text x])]).drop 1).reverse=(h.As++[([x],[CJ h.text x])]).reverse.dropLast:=by
    rw [List.dropLast_reverse];simp
   refine ⟨?_,?_,?_⟩
   ·rw [rd];exact Rj _ _ full.1
   ·rw [rd];show (Jo (AY h.text x) _).reverse=_;rw [OG,<-pl];simp [List.tail_reverse]
   ·simp
  ·rw [if_neg hc,if_neg hc,if_neg hc];exact ⟨full.1,pl,by simp⟩
theorem F4.make {n:Nat} {h:Bz} {x:Bn} (i:F4 n h) (hx:Bg h.text.length x):F4 (n+1) (Dq h x):=by
 obtain ⟨p1,p2⟩:=S8 i hx;have ml:=Cf hx;have m:=Bs.1 hx;have hp:rj (Dq h x).text (Dq h x).As.reverse:=by
  cases ho:h.O5
  ·exact (p2 ho).1
  ·exact (p1 ho).1
 have hl:(Dq h x).As.length<=20:=by
  have:=i.all;cases ho:h.O5
  ·rw [(p2 ho).2.2];split<;>omega
  ·rw [(p1 ho).2.2];omega
 refine ⟨hp,trivial,by show (AY h.text x).length<=600;omega,fun _=>by show JQ _ _ _≠[];simp [JQ],by show (Dq h x).As.length+0<=20;omega,fun g hg=>?_⟩;have hg:g∈JQ (FZ h) x (CJ h.text x):=by simpa [Dq] using hg
 have old: ∀g∈FZ h,g.1.length<=n/\g.2.length<=n:=fun g hg=>by
  unfold FZ at hg;split at hg
  ·exact i.oZ g (List.mem_append_left _ hg)
  ·have:g∈h.As++[([],[])]:=by
    unfold JM at hg;split at hg
    ·exact List.mem_of_mem_drop hg
    ·exact hg
   simp at this;rcases this with this | rfl
   ·exact i.oZ g (List.mem_append_left _ this)
   ·simp
 unfold JQ at hg;simp only [List.mem_append,List.mem_singleton] at hg;rcases hg with hg | rfl
 ·have:=old g (List.dropLast_subset _ hg);omega
 ·by_cases hn:FZ h=[]
  ·rw [hn];simp [Bw]
  ·have:=old (Bw (FZ h)) (by rw [Em hn,M3];simp);simp only [List.length_append,List.length_singleton];omega
theorem Sw {n:Nat} {h:Bz} {x:Bn} (i:F4 n h) (hx:Bg h.text.length x):
  FM (Dq h x)=GR (Dq h x)++[AY h.text x]:=rfl
theorem F4.ue {n:Nat} {h:Bz} (i:F4 n h) (hn:h.As≠[]):F4 n (RN h)/\FM (RN h)=FM h/\(RN h).As.length+1=h.As.length:=by
 have hs:=Em hn;have e3:h.As.reverse=Bw h.As::h.As.dropLast.reverse:=by
  conv=>lhs;rw [hs]
  simp
 have p:=i.eH;rw [e3] at p;have e5:(h.DF++[Bw h.As]).reverse=Bw h.As::h.DF.reverse:=by simp
 have ll:h.As.dropLast.length+1=h.As.length:=by
  conv=>rhs;rw [hs]
  simp
 refine ⟨⟨p.2.2.2,?_,Mz p.1 i.len,by simp [RN],?_,fun g hg=>i.oZ g ?_⟩,?_,ll⟩
 ·show okF (Aa h.text (Bw h.As).2.reverse) (h.DF++[Bw h.As]).reverse;rw [e5];refine ⟨p.2.1,?_,?_,?_⟩
  ·rw [p.2.2.1];exact p.1
  ·rw [p.2.2.1]
  ·rw [p.2.2.1];exact i.vt
 ·have:=i.all;show h.As.dropLast.length+(h.DF++[Bw h.As]).length<=20;simp only [List.length_append,List.length_singleton];omega
 ·have hg:g∈h.As.dropLast++(h.DF++[Bw h.As]):=hg;simp only [List.mem_append,List.mem_singleton] at hg |-;rcases hg with hg | hg | rfl
  ·exact .inl (List.dropLast_subset _ hg)
  ·exact .inr hg
  ·left;exact MC hn
 ·unfold FM GR pS;show (Jo (Aa h.text (Bw h.As).2.reverse) h.As.dropLast.reverse).reverse++Aa h.text (Bw h.As).2.reverse::dE (Aa h.text (Bw h.As).2.reverse) (h.DF++[Bw h.As]).reverse=_;rw [e5,e3];simp only [Jo,dE,List.reverse_cons,List.append_assoc,List.singleton_append];rw [p.2.2.1]
theorem F4.uY {n:Nat} {h:Bz} (i:F4 n h) (hn:h.DF≠[]):F4 n (Pl h)/\FM (Pl h)=FM h/\(Pl h).As.length=h.As.length+1:=by
 have hs:=Em hn;have e3:h.DF.reverse=Bw h.DF::h.DF.dropLast.reverse:=by
  conv=>lhs;rw [hs]
  simp
 have p:=i.vt;rw [e3] at p;have e5:(h.As++[Bw h.DF]).reverse=Bw h.DF::h.As.reverse:=by simp
 have ll:h.DF.dropLast.length+1=h.DF.length:=by
  conv=>rhs;rw [hs]
  simp
 refine ⟨⟨?_,p.2.2.2,Mz p.1 i.len,by simp [Pl],?_,fun g hg=>i.oZ g ?_⟩,?_,by simp [Pl]⟩
 ·show rj (Aa h.text (Bw h.DF).1) (h.As++[Bw h.DF]).reverse;rw [e5];refine ⟨p.2.1,?_,?_,?_⟩
  ·rw [p.2.2.1];exact p.1
  ·rw [p.2.2.1]
  ·rw [p.2.2.1];exact i.eH
 ·have:=i.all;show (h.As++[Bw h.DF]).length+h.DF.dropLast.length<=20;simp only [List.length_append,List.length_singleton];omega
 ·have hg:g∈(h.As++[Bw h.DF])++h.DF.dropLast:=hg;simp only [List.mem_append,List.mem_singleton] at hg |-;rcases hg with (hg | rfl) | hg
  ·exact .inl hg
  ·right;exact MC hn
  ·exact .inr (List.dropLast_subset _ hg)
 ·unfold FM GR pS;show (Jo (Aa h.text (Bw h.DF).1) (h.As++[Bw h.DF]).reverse).reverse++Aa h.text (Bw h.DF).1::dE (Aa h.text (Bw h.DF).1) h.DF.dropLast.reverse=_;rw [e5,e3];simp only [Jo,dE,List.reverse_cons,List.append_assoc,List.singleton_append];rw [p.2.2.1]
theorem F4.more {n:Nat} {h:Bz} (i:F4 n h):F4 (n+1) h:=⟨i.eH,i.vt,i.len,i.O5,i.all,fun g hg=>by have:=i.oZ g hg;omega⟩
theorem F4.wM {n:Nat} {h:Bz} (i:F4 n h) (d:FQ):F4 (n+1) (Bh h d).1:=by
 unfold Bh;split
 ·split
  ·exact i.more
  ·rename_i c;exact i.make (Classical.byContradiction c)
 ·split
  ·exact ⟨i.eH,i.vt,i.len,by simp,i.all,i.more.oZ⟩
  ·split
   ·split
    ·exact i.more
    ·rename_i c;exact (i.ue c).1.more
   ·split
    ·split
     ·exact i.more
     ·rename_i c;exact (i.uY c).1.more
    ·exact i.more
theorem F4.run {s:Bytes} (h:s.length<=600) (l:List FQ):F4 l.length (Fm (BZ s) l):=by
 have: ∀(l:List FQ) (n:Nat) (h:Bz),F4 n h->F4 (n+l.length) (Fm h l):=by
  intro l
  induction l with
  | nil=>intro n h i;exact i
  | cons d l ih=>
   intro n h i;have:=ih (n+1) _ (i.wM d);rw [show n+(d::l).length=n+1+l.length by simp;omega];exact this
 have:=this l 0 _ (F4.new h);rwa [Nat.zero_add] at this
noncomputable section
abbrev jd:Ty:= .st (.cons tI (.cons XD .nil))
abbrev pC (l:List FQ):Prop:=Gg l/\ ∀d∈l,E_ d.2
abbrev RP (s:Bytes) (l:List FQ):Prop:=Hw s/\pC l
def EI (s:Bytes) (l:List FQ):Prop:=600<s.length\/80<l.length
def Dr (s:Bytes) (l:List FQ):List Bytes×List Int×Int:=H6 (EI s l) ([],[],1) (DO (BZ s) l,DN (BZ s) l,0)
def Cc (s:Bytes) (l:List FQ):Int×Int×Int:=H6 (EI s l) (0,0,1) ((Fm (BZ s) l).As.length,(Fm (BZ s) l).DF.length,0)
def FG:Ct:=⟨Mg .str (.sl jd),[.own .str,.own tI,.val tI,.val tI,.val tI],fun x=>RP x.1 x.2,fun x=>((Dr x.1 x.2).1,(Dr x.1 x.2).2.1,(Cc x.1 x.2).1,(Cc x.1 x.2).2.1,(Dr x.1 x.2).2.2)⟩
end
end Go.Fu
end
section
namespace Go.Fu
open Go.Vc
def LI:List Bytes->Bytes
 | []=>[]
 | [l]=>l
 | l::m::L=>l++10::LI (m::L)
theorem N9 (s cur:Bytes):BR cur s≠[]:=by
 induction s generalizing cur with
 | nil=>simp [BR]
 | cons c s ih=>unfold BR;split<;>simp [ih]
theorem Kc {l:Bytes} {L:List Bytes} (h:L≠[]):LI (l::L)=l++10::LI L:=by
 cases L with
 | nil=>exact absurd rfl h
 | cons m L=>rfl
theorem Sj: ∀(s cur:Bytes),LI (BR cur s)=cur++s
 | [],cur=>by simp [BR,LI]
 | c::s,cur=>by
  unfold BR;split
  ·rename_i h;rw [Kc (N9 s []),Sj s []];subst h;rfl
  ·rw [Sj s];simp
theorem mV (s:Bytes):LI (AH s)=s:=by rw [Gw,Sj];rfl
theorem Je (s:Bytes):AH s≠[]:=by rw [Gw];exact N9 s []
theorem Pw: ∀(L:List Bytes) (a:Int),(Ec a L).length=L.length
 | [],a=>rfl
 | l::L,a=>by simp [Ec,Pw L]
theorem Qa (s:Bytes):(Ab s).length=(AH s).length:=by rw [<-k9,Pw]
theorem rF: ∀(L:List Bytes) (a:Int) (i:Nat) (l:Bytes),L[i]?=some l-> ∃k:Int,(Ec a L)[i]?=some (a+k)/\0<=k/\k+l.length<=(LI L).length/\((LI L).drop k.toNat).take l.length=l/\
  (i+1<L.length->(Ec a L)[i+1]?=some (a+k+l.length+1))/\(¬i+1<L.length->k+l.length=(LI L).length)
 | [],a,i,l,h=>by simp at h
 | m::L,a,0,l,h=>by
  simp at h;subst h;refine ⟨0,by simp [Ec],by omega,?_,?_,fun h=>?_,fun h=>?_⟩
  ·cases L with
   | nil=>simp [LI]
   | cons x L=>rw [Kc (by simp)];simp;omega
  ·cases L with
   | nil=>simp [LI]
   | cons x L=>rw [Kc (by simp)];simp
  ·cases L with
   | nil=>simp at h
   | cons x L=>simp [Ec]
  ·cases L with
   | nil=>simp [LI]
   | cons x L=>simp at h
 | m::L,a,i+1,l,h=>by
  have h:L[i]?=some l:=by simpa using h
  have hL:L≠[]:=by rintro rfl;simp at h
  obtain ⟨k,h1,h2,h3,h4,h5,h6⟩:=rF L (a+m.length+1) i l h;have e:(LI (m::L)).length=m.length+1+(LI L).length:=by rw [Kc hL];simp;omega
  refine ⟨m.length+1+k,?_,by omega,by omega,?_,fun q=>?_,fun q=>?_⟩
  ·show (Ec (a+m.length+1) L)[i]?=_;rw [h1];congr 1;omega
  ·rw [Kc hL,show ((m.length:Int)+1+k).toNat=m.length+(k.toNat+1) by omega,List.drop_append,List.drop_of_length_le (by omega),List.nil_append,show m.length+(k.toNat+1)-m.length=k.toNat+1 by omega,List.drop_succ_cons];exact h4
  ·show (Ec (a+m.length+1) L)[i+1]?=_;rw [h5 (by simpa using q)];congr 1;omega
  ·have:=h6 (by simpa using q);omega
theorem tE {s:Bytes} {i:Nat} {l:Bytes} (h:(AH s)[i]?=some l): ∃k:Nat,(Ab s)[i]?=some (k:Int)/\k+l.length<=s.length/\(s.take (k+l.length)).drop k=l/\
  (i+1<(Ab s).length->(Ab s)[i+1]?=some ((k+l.length:Nat)+1:Int))/\(¬i+1<(Ab s).length->k+l.length=s.length):=by
 obtain ⟨k,h1,h2,h3,h4,h5,h6⟩:=rF _ 0 i l h;rw [k9,mV,<-Qa,Int.zero_add] at*;refine ⟨k.toNat,by rw [h1];congr 1;omega,by omega,?_,fun q=>by rw [h5 q];congr 1;omega,fun q=>by have:=h6 q;omega⟩;rw [List.drop_take,show k.toNat+l.length-k.toNat=l.length by omega];exact h4
theorem M5: ∀(s cur:Bytes),BR cur s=(cur++(BR [] s).headD [])::(BR [] s).tail
 | [],cur=>by simp [BR]
 | c::s,cur=>by
  by_cases h:c=10
  ·simp only [BR,if_pos h];simp
  ·simp only [BR,if_neg h];rw [M5 s (cur++[c]),M5 s ([]++[c])];simp
theorem M4: ∀(X Y cur:Bytes),BR cur (X++Y)=(BR cur X).dropLast++BR ((BR cur X).getLastD []) Y
 | [],Y,cur=>by simp [BR]
 | c::X,Y,cur=>by
  simp only [List.cons_append,BR];split
  ·rw [M4 X Y []];have hn:=N9 X [];rw [List.dropLast_cons_of_ne_nil hn];simp only [List.cons_append,List.cons.injEq,true_and];congr 2;cases h:BR [] X with
   | nil=>exact absurd h hn
   | cons a L=>simp
  ·exact M4 X Y _
theorem Mw (X Y:Bytes):AH (X++Y)=(AH X).dropLast++[(AH X).getLastD []++(AH Y).headD []]++(AH Y).tail:=by
 simp only [Gw];rw [M4,M5 Y];simp
theorem Ot (s:Bytes):((AH s).length:Int)=(posOf s).2.1+1:=by
 induction s using MV with
 | h0=>rfl
 | h1 s c ih=>
  rw [JI,Mw];have hn:=Je s;have hp:0<(AH s).length:=List.length_pos_iff.2 hn;have e:AH [c]=if c=10 then [[],[]] else [[c]]:=by
   rw [Gw];unfold BR;split<;>simp [BR]
  rw [e];unfold G5;split<;>simp only [List.length_append,List.length_dropLast,List.length_cons,List.length_nil,List.tail_cons]<;>omega
theorem cN {s:Bytes} {e:Bn} (h:Bg s.length e) {a b:Nat} (ha:(a:Int)=(posOf (s.take e.1.toNat)).2.1) (hb:(b:Int)=(posOf (s.take (e.1+e.2.1).toNat)).2.1):
  ∃M:List Bytes,(M.length:Int)=(posOf e.2.2).2.1+1/\a<=b/\b+1<=(AH s).length/\AH (AY s e)=(AH s).take a++M++(AH s).drop (b+1):=by
 have m:=Bs.1 h;have hab:(a:Int)<=b:=by rw [ha,hb];exact jN (by omega) (by omega) (by omega)
 have hA:s=s.take e.1.toNat++s.drop e.1.toNat:=(List.take_append_drop _ _).symm;have hB:s=s.take (e.1+e.2.1).toNat++s.drop (e.1+e.2.1).toNat:=(List.take_append_drop _ _).symm;generalize hx:s.take e.1.toNat=A at*;generalize hy:s.take (e.1+e.2.1).toNat=A2 at*;generalize hz:s.drop (e.1+e.2.1).toNat=B at*;have ca:=Ot A;have cb:=Ot A2;have cp:=Ot e.2.2;have pa:0<(AH A).length:=List.length_pos_iff.2 (Je A);have e1:(AH s).take a=(AH A).dropLast:=by
  rw [hA,Mw,List.append_assoc,List.take_left' (by rw [List.length_dropLast];omega)]
 have e2:(AH s).drop (b+1)=(AH B).tail:=by
  rw [hB,Mw,List.drop_left' (by simp only [List.length_append,List.length_dropLast,List.length_cons,List.length_nil];omega)]
 have e3:b+1<=(AH s).length:=by
  rw [hB,Mw];simp only [List.length_append,List.length_dropLast,List.length_cons,List.length_nil];omega
 refine ⟨[(AH A).getLastD []++(AH (e.2.2++B)).headD []]++(AH (e.2.2++B)).tail.take (posOf e.2.2).2.1.toNat,?_,by omega,e3,?_⟩
 ·have:=Ot (e.2.2++B);have l1:(AH (e.2.2++B)).length=(AH e.2.2).length-1+1+(AH B).tail.length:=by
   rw [Mw];simp only [List.length_append,List.length_dropLast,List.length_cons,List.length_nil]
  have pp:0<(AH e.2.2).length:=List.length_pos_iff.2 (Je _);simp only [List.length_append,List.length_cons,List.length_nil,List.length_take,List.length_tail] at*;omega
 ·have hm:AY s e=A++(e.2.2++B):=by unfold AY;rw [hx,hz,List.append_assoc]
  rw [hm,Mw,e1,e2];simp only [List.append_assoc];congr 2;have pp:0<(AH e.2.2).length:=List.length_pos_iff.2 (Je _);have t:(AH (e.2.2++B)).tail.drop (posOf e.2.2).2.1.toNat=(AH B).tail:=by
   rw [<-List.drop_one,Mw,List.drop_drop];refine List.drop_left' ?_;simp only [List.length_append,List.length_dropLast,List.length_cons,List.length_nil];omega
  rw [<-t,List.take_append_drop]
theorem Ma: ∀(s:Bytes) (i:Int),((AS i s).length:Int)=(posOf s).2.1:=by
 intro s
 induction s using MV with
 | h0=>intro i;rfl
 | h1 s c ih=>
  intro i;rw [En,List.length_append,JI];have:=ih i;have e:AS (i+s.length) [c]=if c=10 then [i+s.length+1] else []:=by unfold AS;split<;>rfl
  rw [e];unfold G5;split
  ·simp only [List.length_cons,List.length_nil];omega
  ·simp only [List.length_nil];omega
theorem ir {s:Bytes} {at_:Int} (h0:0<=at_) (h1:at_<=s.length):WH (Ab s) at_=(posOf (s.take at_.toNat)).2.1:=by
 have hs:s=s.take at_.toNat++s.drop at_.toNat:=(List.take_append_drop _ _).symm;have hl:((s.take at_.toNat).length:Int)=at_:=by rw [List.length_take];omega
 generalize s.take at_.toNat=A at*;generalize s.drop at_.toNat=B at*;subst hs;unfold WH Ab;rw [En];have ta:=Px (a:=0::AS 0 A) (b:=AS (0+A.length) B) (n:=at_) (fun x hx=>by
  rcases List.mem_cons.1 hx with rfl | hx
  ·exact h0
  ·have:=EC A 0 x hx;omega) (fun x hx=>by have:=EC B _ x hx;omega)
 rw [show (0:Int)::(AS 0 A++AS (0+A.length) B)=(0::AS 0 A)++AS (0+A.length) B from rfl,ta.1];have:=Ma A 0;simp only [List.length_cons];omega
theorem iq: ∀A:Bytes,∃k:Int,(Ab A)[(posOf A).2.1.toNat]?=some k/\(A.length:Int)-k=(posOf A).2.2:=by
 intro A
 induction A using MV with
 | h0=>exact ⟨0,rfl,rfl⟩
 | h1 s c ih=>
  obtain ⟨k,h1,h2⟩:=ih;have cs:=Ma s 0;rw [JI];unfold Ab at*;rw [En];have e:AS (0+s.length) [c]=if c=10 then [0+(s.length:Int)+1] else []:=by unfold AS;split<;>rfl
  rw [e];unfold G5;split
  ·refine ⟨(s.length:Int)+1,?_,by simp⟩;rw [show (0:Int)::(AS 0 s++[0+(s.length:Int)+1])=(0::AS 0 s)++[0+(s.length:Int)+1] from rfl,List.getElem?_append_right (by simp only [List.length_cons];omega)];simp only [List.length_cons];rw [show ((posOf s).2.1+1).toNat-((AS 0 s).length+1)=0 by omega];simp
  ·refine ⟨k,by rw [List.append_nil];exact h1,by simp only [List.length_append,List.length_cons,List.length_nil];omega⟩
theorem nt {s:Bytes} {at_:Int} (h0:0<=at_) (h1:at_<=s.length): ∃n:Nat,(n:Int)=(posOf (s.take at_.toNat)).2.1/\n<(Ab s).length/\ ∃k:Int,(Ab s)[n]?=some k/\at_-k=(posOf (s.take at_.toNat)).2.2:=by
 have hs:s=s.take at_.toNat++s.drop at_.toNat:=(List.take_append_drop _ _).symm;have hl:((s.take at_.toNat).length:Int)=at_:=by rw [List.length_take];omega
 have hb:=Im (s.take at_.toNat);generalize s.take at_.toNat=A at*;generalize s.drop at_.toNat=B at*;subst hs;obtain ⟨k,h2,h3⟩:=iq A;have hk:(Ab (A++B))[(posOf A).2.1.toNat]?=some k:=by
  have hlt:=(List.getElem?_eq_some_iff.1 h2).1;unfold Ab at*;rw [En,show (0:Int)::(AS 0 A++AS (0+A.length) B)=(0::AS 0 A)++AS (0+A.length) B from rfl,List.getElem?_append_left hlt];exact h2
 exact ⟨(posOf A).2.1.toNat,by omega,(List.getElem?_eq_some_iff.1 hk).1,k,hk,by omega⟩
theorem Oc {s:Bytes} (h:s.length<=600):FI (Ab s):=by
 have hp:(Ab s).Pairwise (· < ·):=by
  unfold Ab;refine List.pairwise_cons.2 ⟨fun x hx=>by have:=EC s 0 x hx;omega,?_⟩;have: ∀(s:Bytes) (i:Int),(AS i s).Pairwise (· < ·):=by
   intro s
   induction s with
   | nil=>intro i;exact List.Pairwise.nil
   | cons c s ih=>
    intro i;unfold AS;split
    ·exact List.pairwise_cons.2 ⟨fun x hx=>by have:=EC s _ x hx;omega,ih _⟩
    ·exact ih _
  exact this s 0
 refine ⟨by simp [Ab],rfl,fun i h0 h1=>al hp (by omega) (by omega) h1,?_⟩;have hm:gt (Ab s) (((Ab s).length:Int)-1)∈Ab s:=N5 (by simp [Ab]) (by omega);generalize gt (Ab s) (((Ab s).length:Int)-1)=x at hm;unfold Ab at hm;rcases List.mem_cons.1 hm with rfl | hm
 ·omega
 ·have:=EC s 0 x hm;omega
end Go.Fu
end
section
namespace Go.Fu
open Go.Vc
noncomputable section
def D7 (s:Bytes) (lo hi:Nat):List (Bytes×Nat):=It lo (B6 ((s.take hi).drop lo) 0)
def bp (s:Bytes) (i:Nat):Prop:=i=0\/s.length<=i\/N6 (gt s ((i:Int)-1))=false\/N6 (gt s (i:Int))=false
def Jq (s w:Bytes) (Q:Int->Prop):List Int:=open Classical in (FD s w).filter fun p=>decide (Q p)
def Whole (s:Bytes) (D:Int->Prop):Prop:= ∀i:Int,0<i->i<s.length->N6 (gt s (i-1))=true->N6 (gt s i)=true->(D (i-1)↔D i)
def dL (l:List Int) (a:Int):List Int:=(l.takeWhile fun x=>decide (x<a))++a::l.dropWhile fun x=>decide (x<a)
def HQ (T:Bytes->List Int) (e:Bytes×Nat):Bytes->List Int:=open Classical in fun u=>if e.1=u then dL (T u) e.2 else T u
def Ew (lo hi by_:Int) (a:Int):Option Int:=if a<lo then some a else if hi<=a then some (a+by_) else none
def cI (D:Int->Prop) (lo hi by_:Int) (j:Int):Prop:=(j<lo/\D j)\/(lo<=j/\j<hi+by_)\/(hi+by_<=j/\D (j-by_))
end
theorem b9 {s:Bytes} {i:Nat} (hi:i<=s.length) (h:bp s i):apart (s.take i) (s.drop i):=by
 have hl:(s.take i).length=i:=by rw [List.length_take];omega
 rcases h with h | h | h | h
 ·subst h;exact .inl rfl
 ·right;right;left;exact List.drop_of_length_le h
 ·by_cases z:i=0
  ·subst z;exact .inl rfl
  ·right;left;rw [hl];have h0:s.take i++s.drop i=s:=List.take_append_drop i s;rw [<-h0,FE (by omega) (by omega)] at h;exact h
 ·right;right;right;have:gt (s.drop i) 0=gt s (i:Int):=by unfold gt;simp [List.getD,List.getElem?_drop]
  rw [this];exact h
theorem Yu (s:Bytes) {lo hi:Nat} (h:lo<=hi):(s.take hi).drop lo++s.drop hi=s.drop lo:=by
 have:=J0 s lo hi h;have e:(s.take lo++((s.take hi).drop lo++s.drop hi)).drop lo=s.drop lo:=by rw [<-this]
 by_cases c:lo<=s.length
 ·rw [List.drop_left' (by rw [List.length_take];omega)] at e;exact e
 ·rw [List.drop_of_length_le (by rw [List.length_take];omega),List.drop_of_length_le (by omega),List.drop_of_length_le (by omega)];rfl
theorem lT {s:Bytes} {lo hi:Nat} (h1:lo<=hi) (hi2:hi<=s.length) (h:bp s hi):apart ((s.take hi).drop lo) (s.drop hi):=by
 have hl:((s.take hi).drop lo).length=hi-lo:=by rw [List.length_drop,List.length_take];omega
 by_cases z:lo=hi
 ·left;exact List.length_eq_zero_iff.1 (by omega)
 ·rcases b9 hi2 h with g | g | g | g
  ·have:=congrArg List.length g;rw [List.length_take] at this;simp only [List.length_nil] at this;omega
  ·right;left;have e:gt ((s.take hi).drop lo) ((((s.take hi).drop lo).length:Int)-1)=gt (s.take hi) (((s.take hi).length:Int)-1):=by
    have h0:(s.take hi).take lo++(s.take hi).drop lo=s.take hi:=List.take_append_drop _ _;have hl2:((s.take hi).take lo).length=lo:=by rw [List.length_take,List.length_take];omega
    have hl3:(s.take hi).length=hi:=by rw [List.length_take];omega
    conv=>rhs;rw [<-h0]
    rw [EW (by rw [hl2,h0,hl3];omega),hl2,h0,hl,hl3];congr 1;omega
   rw [e];exact g
  ·right;right;left;exact g
  ·right;right;right;exact g
theorem filter_all {α:Type} {p:α->Bool} {l:List α} (h: ∀x∈l,p x=true):l.filter p=l:=List.filter_eq_self.2 h
theorem L9 {α:Type} {p:α->Bool} {l:List α} (h: ∀x∈l,p x=false):l.filter p=[]:=List.filter_eq_nil_iff.2 fun x hx=>by rw [h x hx];simp
theorem W7 {d:Nat} {X:Bytes} {e:Bytes×Nat} (h:e∈It d (B6 X 0)):d<=e.2/\e.2<d+X.length:=by
 obtain ⟨a,ha,rfl⟩:=List.mem_map.1 h;have:=(V1 ha).1;exact ⟨by show d<=d+a.2;omega,by show d+a.2<_;omega⟩
theorem pF {s:Bytes} {lo hi:Nat} (h1:lo<=hi) (h2:hi<=s.length) (b1:bp s lo) (b2:bp s hi):D7 s lo hi=(B6 s 0).filter fun e=>decide (lo<=e.2/\e.2<hi):=by
 have a1:=b9 (by omega) b1;rw [<-Yu s h1] at a1;have f:=dD a1 (lT h1 h2 b2);rw [<-J0 s lo hi h1] at f;have l1:(s.take lo).length=lo:=by rw [List.length_take];omega
 have l2:((s.take hi).drop lo).length=hi-lo:=by rw [List.length_drop,List.length_take];omega
 rw [l1,l2] at f;rw [f,List.filter_append,List.filter_append,L9 (l:=B6 (s.take lo) 0),filter_all (l:=It lo _),L9 (l:=It (lo+(hi-lo)) _)]
 ·simp [D7]
 ·intro e he;have:=W7 he;simp only [decide_eq_false_iff_not];omega
 ·intro e he;have:=W7 he;rw [l2] at this;simp only [decide_eq_true_eq];omega
 ·intro e he;have:=(V1 he).1;rw [l1] at this;simp only [decide_eq_false_iff_not];omega
theorem Vp {s w:Bytes} {lo hi:Nat} (h1:lo<=hi) (h2:hi<=s.length) (b1:bp s lo) (b2:bp s hi):((D7 s lo hi).filter fun e=>e.1=w).map (fun e=>(e.2:Int))=Jq s w fun p=>(lo:Int)<=p/\p<hi:=by
 rw [pF h1 h2 b1 b2];unfold Jq FD;rw [List.filter_map,List.filter_filter,List.filter_filter];congr 1;refine List.filter_congr fun e _=>?_;rw [Bool.and_comm];congr 1;simp only [Function.comp];rw [decide_eq_decide];omega
theorem Wh (s w:Bytes) (Q:Int->Prop):(Jq s w Q).Pairwise fun a b=>a<b:=(YX s w).filter _
theorem eY {s w:Bytes} {Q:Int->Prop} {p:Int}:p∈Jq s w Q↔p∈FD s w/\Q p:=by unfold Jq;rw [List.mem_filter];simp
theorem QQ {s w:Bytes} {P Q:Int->Prop} (h: ∀p∈FD s w,(P p↔Q p)):Jq s w P=Jq s w Q:=List.filter_congr fun p hp=>by
 simp only [decide_eq_decide];exact h p hp
theorem IC {s w:Bytes} {p:Int} (h:p∈FD s w):0<=p/\p<s.length:=by
 unfold FD at h;obtain ⟨e,he,rfl⟩:=List.mem_map.1 h;have:=(V1 (List.mem_filter.1 he).1).1;omega
theorem filter_or {α:Type} {p q:α->Bool}: ∀ {l:List α},(∀x∈l,¬(p x=true/\q x=true))->(l.filter p++l.filter q).Perm (l.filter fun x=>p x || q x)
 | [],_=>.refl _
 | a::l,h=>by
  have ih:=filter_or (l:=l) fun x hx=>h x (List.mem_cons_of_mem _ hx);have ha:=h a (List.mem_cons_self ..);simp only [List.filter_cons];cases hp:p a<;>cases hq:q a<;>simp only [hp,hq,Bool.false_or,Bool.true_or,Bool.or_false,Bool.or_true,if_true,if_false,Bool.false_eq_true] at*
  ·exact ih
  ·exact (List.perm_middle).trans (ih.cons a)
  ·exact ih.cons a
  ·exact absurd ⟨trivial,trivial⟩ ha
theorem VR {s w:Bytes} {P Q:Int->Prop} (h: ∀p,¬(P p/\Q p)):(Jq s w P++Jq s w Q).Perm (Jq s w fun p=>P p\/Q p):=by
 classical
 have:=filter_or (p:=fun x:Int=>decide (P x)) (q:=fun x=>decide (Q x)) (l:=FD s w) (fun x _=>by simpa using h x);refine this.trans ?_;refine List.Perm.of_eq (List.filter_congr fun x _=>?_);by_cases a:P x<;>by_cases b:Q x<;>simp [a,b]
theorem cd {s w:Bytes}: ∀ {D:List Span} {last:Int},-1<=last->AR s.length last D->(∀t∈D,bp s t.1.toNat/\bp s t.2.toNat)->(D.flatMap fun t=>((D7 s t.1.toNat t.2.toNat).filter fun e=>e.1=w).map fun e=>(e.2:Int)).Perm (Jq s w (Bd D))
 | [],last,_,_,_=>by
  have:Jq s w (Bd [])=[]:=L9 fun x _=>by simp [Ei]
  rw [this];exact .refl _
 | t::D,last,hl,h,hb=>by
  obtain ⟨h1,h2,h3,h4⟩:=h;have b:=hb t (List.mem_cons_self ..);have ih:=cd (w:=w) (D:=D) (by omega) h4 fun x hx=>hb x (List.mem_cons_of_mem _ hx);rw [List.flatMap_cons,Vp (by omega) (by omega) b.1 b.2];refine (List.Perm.append_left _ ih).trans ?_;refine (VR fun p=>?_).trans (.of_eq (QQ fun p _=>?_))
  ·rintro ⟨a1,a2⟩;have:=J6 h4 a2;omega
  ·rw [BE];have:((t.1.toNat:Int)<=p/\p<(t.2.toNat:Int))↔(t.1<=p/\p<t.2):=by omega
   rw [this]
theorem ox {s:Bytes} {D:Int->Prop} (h:Whole s D) {i:Int} (h0:0<=i) (hd: ¬(D (i-1)↔D i)):bp s i.toNat:=by
 by_cases z:i=0
 ·subst z;exact .inl rfl
 by_cases g:(s.length:Int)<=i
 ·exact .inr (.inl (by omega))
 have:=h i (by omega) (by omega);unfold bp;rw [show ((i.toNat:Nat):Int)=i by omega];right;right;cases e1:N6 (gt s (i-1)) with
 | false=>exact .inl rfl
 | true=>
  cases e2:N6 (gt s i) with
  | false=>exact .inr rfl
  | true=>exact absurd (this e1 e2) hd
theorem W5 {n:Int}: ∀ {l:List Span} {last:Int},AR n last l-> ∀t∈l,(t.1-1≠last-> ¬Bd l (t.1-1))/\Bd l t.1/\Bd l (t.2-1)/\ ¬Bd l t.2
 | [],_,_,t,ht=>by simp at ht
 | s::l,last,⟨h1,h2,h3,h4⟩,t,ht=>by
  rcases List.mem_cons.1 ht with rfl | ht
  ·refine ⟨fun _ q=>?_,BE.2 (.inl ⟨by omega,h2⟩),BE.2 (.inl ⟨by omega,by omega⟩),fun q=>?_⟩
   ·rcases BE.1 q with q | q
    ·omega
    ·have:=J6 h4 q;omega
   ·rcases BE.1 q with q | q
    ·omega
    ·have:=J6 h4 q;omega
  ·have ih:=W5 h4 t ht;have m:=GS h4 t ht;refine ⟨fun _ q=>?_,BE.2 (.inr ih.2.1),BE.2 (.inr ih.2.2.1),fun q=>?_⟩
   ·rcases BE.1 q with q | q
    ·omega
    ·exact ih.1 (by intro e;have:=J6 h4 q;omega) q
   ·rcases BE.1 q with q | q
    ·omega
    ·exact ih.2.2.2 q
theorem Qs {s:Bytes} {D:List Span} (h:AR s.length (-1) D) (hw:Whole s (Bd D)): ∀t∈D,bp s t.1.toNat/\bp s t.2.toNat:=fun t ht=>by
 obtain ⟨a,b,c,d⟩:=W5 h t ht;have m:=GS h t ht;refine ⟨?_,ox hw (by omega) fun q=>d (q.1 c)⟩;by_cases z:t.1=0
 ·rw [z];exact .inl rfl
 ·exact ox hw (by omega) fun q=>a (by omega) (q.2 b)
theorem mY {s:Bytes} {D:List Span} (h:AR s.length (-1) D) (hw:Whole s (Bd D)) (w:Bytes):
  ub (Jq s w (fun p=> ¬Bd D p)++D.flatMap fun t=>((D7 s t.1.toNat t.2.toNat).filter fun e=>e.1=w).map fun e=>(e.2:Int))=FD s w:=by
 refine vY ?_ (YX s w);refine (List.Perm.append_left _ (cd (by omega) h (Qs h hw))).trans ?_;refine (VR (P:=fun p=> ¬Bd D p) (Q:=Bd D) fun p q=>q.1 q.2).trans (.of_eq ?_);exact filter_all fun x _=>by simpa using (Classical.em (Bd D x)).symm
theorem Pz {α:Type} {p:α->Bool}: ∀ {l:List α} {x:α},x∈l.takeWhile p->p x=true
 | [],x,h=>by simp at h
 | a::l,x,h=>by
  rw [List.takeWhile_cons] at h;split at h
  ·rename_i ha;rcases List.mem_cons.1 h with rfl | h
   ·exact ha
   ·exact Pz h
  ·simp at h
theorem PW {a:Int}: ∀ {l:List Int},(l.Pairwise fun x y=>x<y)-> ∀x∈l.dropWhile fun x=>decide (x<a),a<=x
 | [],_,x,h=>by simp at h
 | b::l,hp,x,h=>by
  obtain ⟨h1,h2⟩:=List.pairwise_cons.1 hp;rw [List.dropWhile_cons] at h;split at h
  ·exact PW h2 x h
  ·rename_i c;have c: ¬b<a:=by simpa using c
   rcases List.mem_cons.1 h with rfl | h
   ·omega
   ·have:=h1 x h;omega
theorem mR (l:List Int) (a:Int):(dL l a).Perm (a::l):=by
 unfold dL;refine List.perm_middle.trans ?_;rw [List.takeWhile_append_dropWhile]
theorem pc {l:List Int} {a:Int} (h:l.Pairwise fun x y=>x<y) (ha:a ∉ l):(dL l a).Pairwise fun x y=>x<y:=by
 unfold dL;have hs:l.Pairwise fun x y=>x<y:=h;rw [<-List.takeWhile_append_dropWhile (p:=fun x=>decide (x<a)) (l:=l)] at hs;obtain ⟨p1,p2,p3⟩:=List.pairwise_append.1 hs;have d:=PW (a:=a) h;have t: ∀x∈l.takeWhile fun x=>decide (x<a),x<a:=fun x hx=>by simpa using Pz hx
 refine List.pairwise_append.2 ⟨p1,List.pairwise_cons.2 ⟨fun x hx=>?_,p2⟩,fun x hx y hy=>?_⟩
 ·have:=d x hx;have hne:x≠a:=fun e=>ha (e▸(List.dropWhile_sublist _).subset hx);omega
 ·rcases List.mem_cons.1 hy with rfl | hy
  ·exact t x hx
  ·exact p3 x hx y hy
theorem WA {u:Bytes}: ∀(E:List (Bytes×Nat)) (T:Bytes->List Int),((T u).Pairwise fun x y=>x<y)->(T u++((E.filter fun e=>e.1=u).map fun e=>(e.2:Int))).Nodup->
  ((E.foldl HQ T) u).Pairwise (fun x y=>x<y)/\((E.foldl HQ T) u).Perm (T u++((E.filter fun e=>e.1=u).map fun e=>(e.2:Int)))
 | [],T,h,_=>⟨h,by simp⟩
 | e::E,T,h,hn=>by
  by_cases c:e.1=u
  ·have hT:(HQ T e) u=dL (T u) e.2:=by unfold HQ;rw [if_pos c]
   have ef:((e::E).filter fun e=>e.1=u)=e::E.filter fun e=>e.1=u:=List.filter_cons_of_pos (by simpa using c);rw [ef,List.map_cons] at hn |-;have hp:((HQ T e) u++((E.filter fun e=>e.1=u).map fun e=>(e.2:Int))).Perm (T u++(e.2:Int)::((E.filter fun e=>e.1=u).map fun e=>(e.2:Int))):=by
    rw [hT];refine ((mR _ _).append_right _).trans ?_;exact List.perm_middle.symm
   have hna:(e.2:Int) ∉ T u:=fun hm=>(List.nodup_append.1 hn).2.2 _ hm _ (List.mem_cons_self ..) rfl;obtain ⟨g1,g2⟩:=WA E (HQ T e) (by rw [hT];exact pc h hna) (hp.nodup_iff.2 hn);exact ⟨g1,g2.trans hp⟩
  ·have hT:(HQ T e) u=T u:=by unfold HQ;rw [if_neg c]
   have ef:((e::E).filter fun e=>e.1=u)=E.filter fun e=>e.1=u:=List.filter_cons_of_neg (by simpa using c);rw [ef] at hn |-;obtain ⟨g1,g2⟩:=WA E (HQ T e) (by rw [hT];exact h) (by rw [hT];exact hn);rw [hT] at g2;exact ⟨g1,g2⟩
theorem lW {l:List Int} (h:l.Pairwise fun x y=>x<y):l.Nodup:=List.nodup_iff_pairwise_ne.2 (h.imp fun {a b} q=>by omega)
theorem uk {l m:List Int} (hp:l.Perm m) (h1:l.Pairwise fun a b=>a<b) (h2:m.Pairwise fun a b=>a<b):l=m:=by
 refine List.Perm.eq_of_pairwise (le:=fun a b:Int=>a<b) ?_ h1 h2 hp;intro a b _ _ h3 h4;omega
theorem Yr {s u:Bytes} {P:Int->Prop} {lo hi:Nat} (h1:lo<=hi) (h2:hi<=s.length) (b1:bp s lo) (b2:bp s hi) (hd: ∀p,¬(P p/\((lo:Int)<=p/\p<hi))) (k:Nat):
  (((D7 s lo hi).take k).foldl HQ (fun w=>Jq s w P) u).Pairwise (fun x y=>x<y)/\(((D7 s lo hi).take k).foldl HQ (fun w=>Jq s w P) u).Perm (Jq s u P++((((D7 s lo hi).take k).filter fun e=>e.1=u).map fun e=>(e.2:Int))):=by
 refine WA _ _ (Wh s u P) ?_;have hf:(Jq s u P++(((D7 s lo hi).filter fun e=>e.1=u).map fun e=>(e.2:Int))).Nodup:=by
  rw [Vp h1 h2 b1 b2];exact (VR hd).nodup_iff.2 (lW (Wh _ _ _))
 refine hf.sublist (List.Sublist.append_left (((List.take_sublist k _).filter _).map _) _)
theorem pq {s:Bytes} {P:Int->Prop} {lo hi:Nat} (h1:lo<=hi) (h2:hi<=s.length) (b1:bp s lo) (b2:bp s hi) (hd: ∀p,¬(P p/\((lo:Int)<=p/\p<hi))):
  (D7 s lo hi).foldl HQ (fun w=>Jq s w P)=fun w=>Jq s w fun p=>P p\/((lo:Int)<=p/\p<hi):=by
 funext u;have:=Yr (u:=u) h1 h2 b1 b2 hd (D7 s lo hi).length;rw [List.take_length] at this;refine uk (this.2.trans ?_) this.1 (Wh _ _ _);rw [Vp h1 h2 b1 b2];exact VR hd
theorem QL {s:Bytes} {e:Bn} (h:Bg s.length e) {lo hi:Nat} (hlo:lo=Mr s e.1.toNat) (hhi:hi=Le s (e.1+e.2.1).toNat) {by_:Int} (hby:by_=e.2.2.length-e.2.1):
  ∃A m M C:Bytes,s=A++(m++C)/\AY s e=A++(M++C)/\A.length=lo/\m.length=hi-lo/\(M.length:Int)=hi+by_-lo/\lo<=e.1/\e.1+e.2.1<=hi/\hi<=s.length/\(∀Y,apart A Y)/\ ∀X,apart X C:=by
 have hm:=Bs.1 h;have hml:=Cf h;obtain ⟨a,c,p⟩:=e;dsimp only at*;have l1:=Ze s a.toNat;have l2:=cA s a.toNat;have l3:=Zd (s:=s) (n:=(a+c).toNat) (by omega);have l4:=b_ (s:=s) (n:=(a+c).toNat) (by omega);rw [<-hlo] at l1 l2;rw [<-hhi] at l3 l4;have hle:lo<=hi:=by omega
 obtain ⟨M,hM⟩: ∃M:Bytes,M=(s.take a.toNat).drop lo++(p++(s.take hi).drop (a+c).toNat):=⟨_,rfl⟩
 have hMl:(M.length:Int)=hi+by_-lo:=by
  rw [hM,List.length_append,List.length_append,List.length_drop,List.length_drop,List.length_take,List.length_take];omega
 have hAl:(s.take lo).length=lo:=by rw [List.length_take];omega
 refine ⟨s.take lo,(s.take hi).drop lo,M,s.drop hi,J0 s lo hi hle,?_,hAl,by rw [List.length_drop,List.length_take];omega,hMl,by omega,by omega,by omega,fun Y=>?_,fun X=>?_⟩
 ·unfold AY;have e1:s.take a.toNat=s.take lo++(s.take a.toNat).drop lo:=by
   have:s.take lo=(s.take a.toNat).take lo:=by rw [List.take_take,Nat.min_eq_left (by omega)]
   rw [this,List.take_append_drop]
  have e2:s.drop (a+c).toNat=(s.take hi).drop (a+c).toNat++s.drop hi:=(Yu s (by omega)).symm;show s.take a.toNat++p++s.drop (a+c).toNat=_;rw [e2,hM]
  conv=>lhs;rw [e1]
  simp only [List.append_assoc]
 ·rcases l2 with l2 | l2
  ·left;rw [l2];rfl
  ·by_cases z:lo=0
   ·left;rw [z];rfl
   ·right;left;rw [hAl];have:gt (s.take lo) ((lo:Int)-1)=gt s ((lo:Int)-1):=by
     have h0:s.take lo++s.drop lo=s:=List.take_append_drop lo s
     conv=>rhs;rw [<-h0]
     rw [FE (by omega) (by omega)]
    rw [this];exact l2
 ·rcases l4 with l4 | l4
  ·right;right;left;rw [l4];exact List.drop_length ..
  ·right;right;right;have:gt (s.drop hi) 0=gt s (hi:Int):=by
    unfold gt;simp [List.getD,List.getElem?_drop]
   rw [this];exact l4
theorem YW {X Y w:Bytes} (h:apart X Y):FD (X++Y) w=FD X w++(FD Y w).map fun p=>(X.length:Int)+p:=by
 unfold FD;rw [Sd h,List.filter_append,List.map_append];congr 1;unfold It;rw [List.filter_map,List.map_map,List.map_map];rfl
theorem T8 {A m C w:Bytes} (h1:apart A (m++C)) (h2:apart m C):FD (A++(m++C)) w=FD A w++((FD m w).map (fun p=>(A.length:Int)+p)++(FD C w).map fun p=>((A.length+m.length:Nat):Int)+p):=by
 rw [YW h1,YW h2,List.map_append,List.map_map];congr 2;exact List.map_congr_left fun p _=>by simp only [Function.comp];omega
theorem sf {p q:Int->Bool} {f g:Int->Option Int}: ∀ {l:List Int},(∀x∈l,p x=q x)->(∀x∈l,f x=g x)->(l.filter p).filterMap f=(l.filter q).filterMap g:=fun {l} h1 h2=>by
 rw [List.filter_congr h1];exact Ic fun x hx=>h2 x (List.mem_filter.1 hx).1
theorem iN {s:Bytes} {e:Bn} (h:Bg s.length e) {lo hi:Nat} (hlo:lo=Mr s e.1.toNat) (hhi:hi=Le s (e.1+e.2.1).toNat) {by_:Int} (hby:by_=e.2.2.length-e.2.1) (D:Int->Prop) (w:Bytes):
  (Jq s w (fun p=> ¬D p)).filterMap (Ew lo hi by_)=Jq (AY s e) w fun p=> ¬cI D lo hi by_ p:=by
 obtain ⟨A,m,M,C,e1,e2,l1,l2,l3,l4,l5,l6,ap1,ap2⟩:=QL h hlo hhi hby;have hm:=Bs.1 h;have hle:lo<=hi:=by omega
 classical
 unfold Jq;rw [e2,T8 (ap1 _) (ap2 _)]
 conv=>lhs;rw [e1,T8 (ap1 _) (ap2 _)]
 simp only [List.filter_append,List.filterMap_append];congr 1
 ·rw [Pg]
  ·refine List.filter_congr fun p hp=>?_;have:=IC hp;simp only [decide_eq_decide];unfold cI;constructor
   ·intro q r;rcases r with r | r | r
    ·exact q r.2
    ·omega
    ·omega
   ·intro q r;exact q (.inl ⟨by omega,r⟩)
  ·intro p hp;have:=IC (List.mem_filter.1 hp).1;unfold Ew;rw [if_pos (by omega)]
 congr 1
 ·rw [RH,L9]
  ·intro p hp;obtain ⟨q,hq,rfl⟩:=List.mem_map.1 hp;have:=IC hq;simp only [decide_eq_false_iff_not,Classical.not_not];exact .inr (.inl ⟨by omega,by omega⟩)
  ·intro p hp;obtain ⟨q,hq,rfl⟩:=List.mem_map.1 (List.mem_filter.1 hp).1;have:=IC hq;unfold Ew;rw [if_neg (by omega),if_neg (by omega)]
 ·rw [List.filter_map,List.filter_map,List.filterMap_map];rw [<-List.filterMap_eq_map];refine sf (fun p hp=>?_) (fun p hp=>?_)
  ·have:=IC hp;simp only [Function.comp,decide_eq_decide];have e5:((A.length+M.length:Nat):Int)+p-by_=((A.length+m.length:Nat):Int)+p:=by omega
   unfold cI;rw [e5];constructor
   ·intro q r;rcases r with r | r | r
    ·omega
    ·omega
    ·exact q r.2
   ·intro q r;exact q (.inr (.inr ⟨by omega,r⟩))
  ·have:=IC hp;simp only [Function.comp];unfold Ew;rw [if_neg (by omega),if_pos (by omega)];congr 1;omega
theorem jo {s:Bytes} {e:Bn} (h:Bg s.length e) {lo hi:Nat} (hlo:lo=Mr s e.1.toNat) (hhi:hi=Le s (e.1+e.2.1).toNat) {by_:Int} (hby:by_=e.2.2.length-e.2.1) {D:Int->Prop} (hw:Whole s D):
  Whole (AY s e) (cI D lo hi by_):=by
 obtain ⟨A,m,M,C,e1,e2,l1,l2,l3,l4,l5,l6,ap1,ap2⟩:=QL h hlo hhi hby;have hm:=Bs.1 h;have hle:lo<=hi:=by omega
 intro i h0 h1 p1 p2;rw [e2] at h1 p1 p2;have hL:((A++(M++C)).length:Int)=lo+M.length+C.length:=by simp only [List.length_append];omega
 have gA: ∀j:Int,0<=j->j<lo->gt (A++(M++C)) j=gt s j:=fun j a b=>by rw [e1,FE a (by omega),FE a (by omega)]
 have gC: ∀j:Int,hi+by_<=j->gt (A++(M++C)) j=gt s (j-by_):=fun j a=>by
  rw [e1,EW (by omega),EW (by omega),EW (by omega),EW (by omega)];congr 1;omega
 have sl:(s.length:Int)=lo+(hi-lo)+C.length:=by rw [e1];simp only [List.length_append];omega
 unfold cI;by_cases c1:i<lo
 ·rw [gA _ (by omega) (by omega)] at p1 p2;have:=hw i h0 (by omega) p1 p2;constructor
  ·rintro (q | q | q)
   ·exact .inl ⟨c1,this.1 q.2⟩
   ·omega
   ·omega
  ·rintro (q | q | q)
   ·exact .inl ⟨by omega,this.2 q.2⟩
   ·omega
   ·omega
 by_cases c2:i=lo
 ·subst c2;exfalso;rcases ap1 (M++C) with g | g | g | g
  ·have:=congrArg List.length g;simp only [List.length_nil] at this;omega
  ·rw [FE (by omega) (by omega)] at p1;rw [show (A.length:Int)-1=(lo:Int)-1 by omega,p1] at g;cases g
  ·have:=congrArg List.length g;simp only [List.length_nil,List.length_append] at this;omega
  ·rw [EW (by omega),show (lo:Int)-A.length=0 by omega,g] at p2;cases p2
 by_cases c3:i<hi+by_
 ·exact ⟨fun _=>.inr (.inl ⟨by omega,c3⟩),fun _=>.inr (.inl ⟨by omega,by omega⟩)⟩
 by_cases c4:i=hi+by_
 ·exfalso;rcases ap2 (A++M) with g | g | g | g
  ·have:=congrArg List.length g;simp only [List.length_nil,List.length_append] at this;omega
  ·rw [<-List.append_assoc,FE (by omega) (by simp only [List.length_append];omega)] at p1;rw [show ((A++M).length:Int)-1=i-1 by simp only [List.length_append];omega,p1] at g;cases g
  ·have:=congrArg List.length g;simp only [List.length_nil] at this;omega
  ·rw [<-List.append_assoc,EW (by simp only [List.length_append];omega),show i-((A++M).length:Int)=0 by simp only [List.length_append];omega,g] at p2;cases p2
 rw [gC _ (by omega)] at p1 p2;have:=hw (i-by_) (by omega) (by omega) (by rw [show i-by_-1=i-1-by_ by omega];exact p1) p2;rw [show i-by_-1=i-1-by_ by omega] at this;constructor
 ·rintro (q | q | q)
  ·omega
  ·omega
  ·exact .inr (.inr ⟨by omega,this.1 q.2⟩)
 ·rintro (q | q | q)
  ·omega
  ·omega
  ·exact .inr (.inr ⟨by omega,this.2 q.2⟩)
theorem Tx {s:Bytes} {e:Bn} (h:Bg s.length e) {lo hi:Nat} (hlo:lo=Mr s e.1.toNat) (hhi:hi=Le s (e.1+e.2.1).toNat) {by_:Int} (hby:by_=e.2.2.length-e.2.1) {D:List Span} (hD:AR s.length (-1) D):
  EO (Fv D e)/\Fw ((lo:Int),hi+by_)/\(∀j,Bd (Fl (Fv D e) (lo,hi+by_)) j↔cI (Bd D) lo hi by_ j)/\AR (AY s e).length (-1) (Fl (Fv D e) (lo,hi+by_)):=by
 obtain ⟨A,m,M,C,e1,e2,l1,l2,l3,l4,l5,l6,ap1,ap2⟩:=QL h hlo hhi hby;have hm:=Bs.1 h;have hml:=Cf h;have hle:lo<=hi:=by omega
 have hS: ∀j,Tc D e j->0<=j/\j<(AY s e).length:=fun j hj=>by
  rcases hj with ⟨i,a,b,c⟩ | hj
  ·have:=J6 hD a;by_cases q:i<e.1
   ·rw [Kf q] at c;omega
   ·rw [Ke (by omega) (by omega)] at c;omega
  ·omega
 have cS:=Nt (P:=Tc D e) fun j hj=>by have:=hS j hj;omega
 have cs:=IA cS (m:=(AY s e).length) (fun j hj=>(hS j hj).2) (by omega);have hP: ∀j,(Bd (Fv D e) j\/((lo:Int)<=j/\j<hi+by_))↔cI (Bd D) lo hi by_ j:=fun j=>by
  rw [show Bd (Fv D e) j↔Tc D e j from cS.2 j];unfold cI Tc;constructor
  ·rintro ((⟨i,a,b,c⟩ | q) | q)
   ·by_cases c1:i<e.1
    ·rw [Kf c1] at c;subst c;by_cases c2:i<lo
     ·exact .inl ⟨c2,a⟩
     ·exact .inr (.inl ⟨by omega,by omega⟩)
    ·rw [Ke (by omega) (by omega)] at c;by_cases c2:j<hi+by_
     ·exact .inr (.inl ⟨by omega,c2⟩)
     ·exact .inr (.inr ⟨by omega,by rw [show j-by_=i by omega];exact a⟩)
   ·exact .inr (.inl ⟨by omega,by omega⟩)
   ·exact .inr (.inl q)
  ·rintro (q | q | q)
   ·exact .inl (.inl ⟨j,q.2,by omega,Kf (by omega)⟩)
   ·exact .inr q
   ·exact .inl (.inl ⟨j-by_,q.2,by omega,by rw [Ke (by omega) (by omega)];omega⟩)
 have hb: ∀j,(Bd (Fv D e) j\/((lo:Int)<=j/\j<hi+by_))->0<=j/\j<(AY s e).length:=fun j hj=>by
  rcases hj with hj | hj
  ·exact hS j ((cS.2 j).1 hj)
  ·omega
 have cW:=Nt (P:=fun j=>Bd (Fv D e) j\/((lo:Int)<=j/\j<hi+by_)) fun j hj=>by have:=hb j hj;omega
 have cw:=IA cW (m:=(AY s e).length) (fun j hj=>(hb j hj).2) (by omega);exact ⟨⟨by have:=cs.2;show (IZ _).length<=_;omega,cS.1⟩,⟨by omega,by omega,by omega⟩,fun j=>(cW.2 j).trans (hP j),cw.1⟩
theorem Ue {s:Bytes} {P Q:Int->Prop} (h: ∀j,P j↔Q j) (hw:Whole s P):Whole s Q:=fun i a b c d=>by rw [<-h,<-h];exact hw i a b c d
theorem Ra {s:Bytes} {a b:Int} {D:List Span} (hs:s.length<=600) (hD:AR s.length (-1) ((a,b)::D)) (hw:Whole s (Bd ((a,b)::D))) {h:Int} (h1:a<h) (h2:h<=b) (hb:bp s h.toNat):
  EO ((a,b)::D)/\(∀j,Bd (Aq ((a,b)::D) (a,h)) j↔Bd ((a,b)::D) j/\ ¬(a<=j/\j<h))/\AR s.length (-1) (Aq ((a,b)::D) (a,h))/\Whole s (Bd (Aq ((a,b)::D) (a,h))):=by
 have hp:EO ((a,b)::D):=⟨by have:=R1 (by omega) hD;omega,OT (by omega) (Int.le_refl _) hD⟩
 have hc:=Qg (s:=(a,h)) hp.2;have hk:=IA hc (m:=s.length) (fun j hj=>(J6 hD hj.1).2) (by omega);refine ⟨hp,hc.2,hk.1,Ue (fun j=>(hc.2 j).symm) fun i i0 i1 p1 p2=>?_⟩;have w:=hw i i0 i1 p1 p2;show (Bd _ (i-1)/\ ¬(a<=i-1/\i-1<h))↔(Bd _ i/\ ¬(a<=i/\i<h));rw [w];by_cases c:i=h
 ·exfalso;subst c;rcases hb with g | g | g | g
  ·omega
  ·omega
  ·rw [show ((i.toNat:Nat):Int)=i by omega,p1] at g;cases g
  ·rw [show ((i.toNat:Nat):Int)=i by omega,p2] at g;cases g
 ·by_cases c2:i=a
  ·subst c2;have e1: ¬Bd ((i,b)::D) (i-1):=(W5 hD _ (List.mem_cons_self ..)).1 (by show i-1≠ -1;omega);rw [<-w];exact ⟨fun q=>absurd q.1 e1,fun q=>absurd q.1 e1⟩
  ·have:(a<=i-1/\i-1<h)↔(a<=i/\i<h):=by omega
   rw [this]
end Go.Fu
end
section
namespace Go.Fu
open Go.Vc
noncomputable section
structure Et where
 h:Bz
 Ba:List Span
 known:List Bool
 BA:List (Option Bytes)
abbrev Rq:=Int×FQ×Int×Int×Bytes
abbrev P4:=Int×Int×Int×List Int×Bytes
def Rh (c:Int):P4:=(c,0,0,[],[])
def GB:Int->List Bytes->List Bool->List Bool
 | many,l::L,k::K=>if many<=0 then k::K else if k=true then true::GB many L K else true::GB (many-(l.length+1)) L K
 | _,_,K=>K
def lu (s:Bytes) (D:List Span) (e:Bn):List Span:=Fl (Fv D e) ((Mr s e.1.toNat:Int),(Le s (e.1+e.2.1).toNat:Int)+(e.2.2.length-e.2.1))
def Vg (s:Bytes) (K:List Bool) (e:Bn):List Bool:=K.take (posOf (s.take e.1.toNat)).2.1.toNat++List.replicate ((posOf e.2.2).2.1+1).toNat false++K.drop ((posOf (s.take (e.1+e.2.1).toNat)).2.1.toNat+1)
def GL:Bytes->List Span->List Bool->List Bn->List Span×List Bool
 | s,D,K,[]=>(D,K)
 | s,D,K,e::l=>GL (AY s e) (lu s D e) (Vg s K e) l
def WM (s:Bytes) (a b many:Int):Int:=min b (Le s (min b (a+many)).toNat:Int)
def LK (s:Bytes) (D:List Span) (many:Int):List Span:=match D with | []=>[] | (a,b)::D=>Aq ((a,b)::D) (a,WM s a b many)
def Hn (E:Et):Prop:=E.Ba=[]/\ ∀k∈E.known,k=true
def EH:List (Option Bytes)->Nat
 | []=>0
 | none::_=>0
 | some _::l=>EH l+1
def FU (E:Et) (d:FQ):Et×P4:=(⟨(Bh E.h d).1,(GL E.h.text E.Ba E.known (Dx E.h d)).1,(GL E.h.text E.Ba E.known (Dx E.h d)).2,E.BA⟩,Rh (Bh E.h d).2)
def Fp (E:Et) (n size:Int):Et×P4:=
 if n<0\/1<n\/size<1\/50<size then (E,Rh 2) else if n=0 then (⟨E.h,LK E.h.text E.Ba size,E.known,E.BA⟩,Rh 0) else (⟨E.h,E.Ba,GB size (AH E.h.text) E.known,E.BA⟩,Rh 0)
def Gk (s:Bytes) (n:Int):P4:=((FP s n).2,(FP s n).1.2.1,(FP s n).1.2.2,[],[])
def Gs (s w:Bytes):P4:=((CP s w).2,0,0,(CP s w).1,[])
def C6 (s:Bytes) (i:Int):P4:=if i<0\/(AH s).length<=i then Rh 2 else (0,(BJ (gt (AH s) i)).1,0,[],[])
def Cg (E:Et):Et×P4:=if E.BA.length<=EH E.BA then (E,Rh 8) else (⟨E.h,E.Ba,E.known,E.BA.set (EH E.BA) (some E.h.text)⟩,(0,(EH E.BA:Int),0,[],[]))
def HP (E:Et) (i:Int):Option Bytes:=if i<0 then none else E.BA.getD i.toNat none
def B7 (E:Et) (k i:Int):Et×P4:=match HP E i with
 | none=>(E,Rh 7)
 | some t=>if k=8 then (E,(0,0,0,[],t)) else (⟨E.h,E.Ba,E.known,E.BA.set i.toNat none⟩,Rh 0)
def N3 (E:Et):Int:=open Classical in if Hn E then 1 else 0
def BG (E:Et) (r:Rq):Et×P4:=
 if r.1=1 then FU E r.2.1
 else if r.1=2 then Fp E r.2.2.1 r.2.2.2.1
 else if r.1=3 then (E,Gk E.h.text r.2.2.1)
 else if r.1=4 then (E,Gs E.h.text r.2.2.2.2)
 else if r.1=5 then (E,C6 E.h.text r.2.2.1)
 else if r.1=6 then Cg E
 else if r.1=7\/r.1=8 then B7 E r.1 r.2.2.1
 else if r.1=9 then (E,(0,N3 E,0,[],[]))
 else (E,Rh 3)
def BH (s:Bytes):Et:=⟨BZ s,Fl [] (0,(s.length:Int)),List.replicate (AH s).length false,[none,none,none,none]⟩
def Dp (E:Et):List Rq->List P4
 | []=>[]
 | r::l=>(BG E r).2::Dp (BG E r).1 l
def DR (E:Et):List Rq->List Bytes
 | []=>[]
 | r::l=>(BG E r).1.h.text::DR (BG E r).1 l
def ES (E:Et) (l:List Rq):Et:=l.foldl (fun E r=>(BG E r).1) E
def Gd (s:Bytes) (l:List Rq):Prop:=600<s.length\/80<l.length
def AM (s:Bytes) (l:List Rq):List P4×List Bytes×Int:=H6 (Gd s l) ([],[],1) (Dp (BH s) l,DR (BH s) l,0)
structure JY where
 e:Et
 w0:Int
 w1:Int
def CF (R:JY) (r:Rq):JY×P4:=
 if r.1=1 then (if (Bh R.e.h r.2.1).2=0 then ⟨⟨(Bh R.e.h r.2.1).1,[],[],R.e.BA⟩,0,0⟩ else R,Rh (Bh R.e.h r.2.1).2)
 else if r.1=2 then (if r.2.2.1<0\/1<r.2.2.1\/r.2.2.2.1<1\/50<r.2.2.2.1 then (R,Rh 2) else if r.2.2.1=0 then (⟨R.e,R.w0+1,R.w1⟩,Rh 0) else (⟨R.e,R.w0,R.w1+1⟩,Rh 0))
 else if r.1=3 then (R,Gk R.e.h.text r.2.2.1)
 else if r.1=4 then (R,Gs R.e.h.text r.2.2.2.2)
 else if r.1=5 then (R,C6 R.e.h.text r.2.2.1)
 else if r.1=6 then (⟨(Cg R.e).1,R.w0,R.w1⟩,(Cg R.e).2)
 else if r.1=7\/r.1=8 then (⟨(B7 R.e r.1 r.2.2.1).1,R.w0,R.w1⟩,(B7 R.e r.1 r.2.2.1).2)
 else if r.1=9 then (R,(0,-1,0,[],[]))
 else (R,Rh 3)
def JW (R:JY):Bool:=open Classical in decide ((R.e.h.text.length:Int)<R.w0/\(R.e.h.text.length:Int)<R.w1)
def Au (s:Bytes):JY:=⟨⟨BZ s,[],[],[none,none,none,none]⟩,0,0⟩
def Ds (R:JY):List Rq->List P4
 | []=>[]
 | r::l=>(CF R r).2::Ds (CF R r).1 l
def Bx (R:JY):List Rq->List Bytes
 | []=>[]
 | r::l=>(CF R r).1.e.h.text::Bx (CF R r).1 l
def Bl (R:JY):List Rq->List Bool
 | []=>[]
 | r::l=>JW (CF R r).1::Bl (CF R r).1 l
def Ft (R:JY) (l:List Rq):JY:=l.foldl (fun R r=>(CF R r).1) R
def AJ (s:Bytes) (l:List Rq):List P4×List Bytes×List Bool×Int:=H6 (Gd s l) ([],[],[],1) (Ds (Au s) l,Bx (Au s) l,Bl (Au s) l,0)
def mD (s:Bytes) (D:List Span):Nat:=open Classical in ((List.range s.length).filter fun j:Nat=>decide (Bd D (j:Int))).length
def VA (K:List Bool):Nat:=(K.filter fun k=> !k).length
structure Fz (k:Nat) (E:Et):Prop where
 h:F4 k E.h
 d:AR E.h.text.length (-1) E.Ba
 w:Whole E.h.text (Bd E.Ba)
 k:E.known.length=(AH E.h.text).length
 sn:E.BA.length=4
end
theorem PB: ∀(many:Int) (L:List Bytes) (K:List Bool),(GB many L K).length=K.length
 | many,[],K=>by cases K<;>rfl
 | many,l::L,[]=>rfl
 | many,l::L,k::K=>by
  unfold GB;split
  ·rfl
  ·split
   ·simp [PB]
   ·simp [PB]
theorem Jt (k:Bool) (K:List Bool):VA (k::K)=(if k=true then 0 else 1)+VA K:=by
 unfold VA;cases k<;>simp<;>omega
theorem Ta: ∀(many:Int) (L:List Bytes) (K:List Bool),K.length<=L.length->VA (GB many L K)<=VA K/\(0<many->0<VA K->VA (GB many L K)<VA K)
 | many,[],K,h=>by
  have:K=[]:=List.length_eq_zero_iff.1 (by simpa using h);subst this;exact ⟨Nat.le_refl _,fun _ h=>h⟩
 | many,l::L,[],h=>⟨Nat.le_refl _,fun _ h=>h⟩
 | many,l::L,k::K,h=>by
  have h:K.length<=L.length:=by simpa using h
  unfold GB;split
  ·exact ⟨Nat.le_refl _,fun q=>by omega⟩
  ·split
   ·rename_i hk;have:=Ta many L K h;rw [Jt,Jt,if_pos hk,if_pos rfl];exact ⟨by omega,fun a b=>by have:=this.2 a (by omega);omega⟩
   ·rename_i hk;have:=(Ta (many-(l.length+1)) L K h).1;rw [Jt,Jt,if_neg hk,if_pos rfl];omega
theorem rO (K:List Bool):VA K<=K.length:=List.length_filter_le _ _
theorem rP {K:List Bool}:VA K=0↔ ∀k∈K,k=true:=by
 unfold VA;rw [List.length_eq_zero_iff,List.filter_eq_nil_iff];constructor
 ·intro h k hk;have:=h k hk;simpa using this
 ·intro h k hk;rw [h k hk];simp
theorem nk {many:Int}: ∀ {L:List Bytes} {K:List Bool},(∀k∈K,k=true)-> ∀k∈GB many L K,k=true:=fun {L K} h=>by
 induction K generalizing L with
 | nil=>cases L<;>exact fun k hk=>by simp [GB] at hk
 | cons a K ih=>
  cases L with
  | nil=>exact h
  | cons l L=>
   unfold GB;rw [if_pos (h a (List.mem_cons_self ..))];split
   ·exact h
   ·intro k hk;rcases List.mem_cons.1 hk with rfl | hk
    ·rfl
    ·exact ih (fun k hk=>h k (List.mem_cons_of_mem _ hk)) k hk
theorem Ph {α:Type} {p q:α->Bool}: ∀ {l:List α},(∀x∈l,q x=true->p x=true)->(l.filter q).length<=(l.filter p).length/\((∃x∈l,p x=true/\q x=false)->(l.filter q).length<(l.filter p).length)
 | [],_=>⟨Nat.le_refl _,fun ⟨x,h,_⟩=>by simp at h⟩
 | a::l,h=>by
  have ih:=Ph (l:=l) fun x hx=>h x (List.mem_cons_of_mem _ hx);have ha:=h a (List.mem_cons_self ..);simp only [List.filter_cons];refine ⟨?_,?_⟩
  ·cases hq:q a
   ·simp only [Bool.false_eq_true,if_false];split
    ·simp only [List.length_cons];omega
    ·exact ih.1
   ·rw [ha hq];simp only [if_true,List.length_cons];omega
  ·rintro ⟨x,hx,h1,h2⟩;rcases List.mem_cons.1 hx with rfl | hx
   ·rw [h1,h2];simp only [if_true,Bool.false_eq_true,if_false,List.length_cons];omega
   ·have:=ih.2 ⟨x,hx,h1,h2⟩;cases hq:q a
    ·simp only [Bool.false_eq_true,if_false];split
     ·simp only [List.length_cons];omega
     ·exact this
    ·rw [ha hq];simp only [if_true,List.length_cons];omega
theorem uT (s:Bytes) (D:List Span):mD s D<=s.length:=by
 unfold mD;refine Nat.le_trans (List.length_filter_le _ _) (by simp)
theorem vA (s:Bytes):mD s []=0:=by
 unfold mD;rw [L9 fun x _=>by simp [Ei]];rfl
theorem tH {s:Bytes} {D:List Span} (h:AR s.length (-1) D) (h0:mD s D=0):D=[]:=by
 cases D with
 | nil=>rfl
 | cons t D=>
  exfalso;have m:=GS h t (List.mem_cons_self ..);unfold mD at h0;rw [List.length_eq_zero_iff,List.filter_eq_nil_iff] at h0;have:=h0 t.1.toNat (List.mem_range.2 (by omega));simp only [decide_eq_true_eq] at this;exact this ⟨t,List.mem_cons_self ..,by omega,by omega⟩
theorem tG {s:Bytes} {D D':List Span} (h: ∀j,Bd D' j->Bd D j) {a:Int} (h0:0<=a) (h1:a<s.length) (h2:Bd D a) (h3: ¬Bd D' a):mD s D'<mD s D:=by
 unfold mD;refine (Ph fun x _ q=>?_).2 ⟨a.toNat,List.mem_range.2 (by omega),?_,?_⟩
 ·simp only [decide_eq_true_eq] at*;exact h _ q
 ·simp only [decide_eq_true_eq];rw [Int.toNat_of_nonneg h0];exact h2
 ·simp only [decide_eq_false_iff_not];rw [Int.toNat_of_nonneg h0];exact h3
theorem dg {s:Bytes} {a b many:Int} {D:List Span} (h:AR s.length (-1) ((a,b)::D)) (hm:0<many) (hw:Whole s (Bd ((a,b)::D))):a<WM s a b many/\WM s a b many<=b/\bp s (WM s a b many).toNat:=by
 obtain ⟨h1,h2,h3,h4⟩:=h;dsimp only at h1 h2 h3;have l:=Zd (s:=s) (n:=(min b (a+many)).toNat) (by omega);have le:=b_ (s:=s) (n:=(min b (a+many)).toNat) (by omega);unfold WM;refine ⟨by omega,by omega,?_⟩;by_cases c:b<=(Le s (min b (a+many)).toNat:Int)
 ·rw [show min b (Le s (min b (a+many)).toNat:Int)=b by omega];exact (Qs (D:=(a,b)::D) ⟨h1,h2,h3,h4⟩ hw _ (List.mem_cons_self ..)).2
 ·rw [show min b (Le s (min b (a+many)).toNat:Int)=(Le s (min b (a+many)).toNat:Int) by omega,Int.toNat_natCast];rcases le with g | g
  ·exact .inr (.inl (by omega))
  ·exact .inr (.inr (.inr g))
theorem df {s:Bytes} {D:List Span} {many:Int} (hs:s.length<=600) (hD:AR s.length (-1) D) (hw:Whole s (Bd D)) (hm:0<many):
  AR s.length (-1) (LK s D many)/\Whole s (Bd (LK s D many))/\mD s (LK s D many)<=mD s D/\(0<mD s D->mD s (LK s D many)<mD s D)/\(D=[]->LK s D many=[]):=by
 cases D with
 | nil=>exact ⟨hD,hw,Nat.le_refl _,fun h=>absurd h (by rw [vA];omega),fun _=>rfl⟩
 | cons t D=>
  obtain ⟨a,b⟩:=t;obtain ⟨b1,b2,b3⟩:=dg hD hm hw;obtain ⟨p,q1,q2,q3⟩:=Ra hs hD hw b1 b2 b3;have m:=GS hD _ (List.mem_cons_self ..);dsimp only at m;have hl:mD s (LK s ((a,b)::D) many)<mD s ((a,b)::D):=tG (fun j hj=>((q1 j).1 hj).1) (a:=a) (by omega) (by omega) ⟨(a,b),List.mem_cons_self ..,Int.le_refl _,m.2.1⟩ fun h=>((q1 a).1 h).2 ⟨Int.le_refl _,b1⟩;exact ⟨q2,q3,by omega,fun _=>hl,fun h=>by cases h⟩
theorem o5 {s:Bytes} {K:List Bool} {e:Bn} (h:Bg s.length e) (hk:K.length=(AH s).length):(Vg s K e).length=(AH (AY s e)).length:=by
 have hA:=(Im (s.take e.1.toNat)).2.1;have hB:=(Im (s.take (e.1+e.2.1).toNat)).2.1;have hP:=(Im e.2.2).2.1;obtain ⟨M,m1,m2,m3,m4⟩:=cN h (a:=(posOf (s.take e.1.toNat)).2.1.toNat) (b:=(posOf (s.take (e.1+e.2.1).toNat)).2.1.toNat) (by omega) (by omega);unfold Vg;rw [m4];simp only [List.length_append,List.length_take,List.length_drop,List.length_replicate];omega
theorem SL: ∀(l:List Bn) {s:Bytes} {D:List Span} {K:List Bool},DQ s.length l=0->AR s.length (-1) D->Whole s (Bd D)->K.length=(AH s).length->
  AR (Aa s l).length (-1) (GL s D K l).1/\Whole (Aa s l) (Bd (GL s D K l).1)/\(GL s D K l).2.length=(AH (Aa s l)).length
 | [],s,D,K,_,h1,h2,h3=>⟨h1,h2,h3⟩
 | e::l,s,D,K,hc,h1,h2,h3=>by
  obtain ⟨c1,c2⟩:=CW.1 hc;rw [<-Cf c1] at c2;obtain ⟨_,_,g3,g4⟩:=Tx c1 rfl rfl rfl h1;have g5:=jo c1 rfl rfl rfl h2;exact SL l c2 g4 (Ue (fun j=>(g3 j).symm) g5) (o5 c1 h3)
theorem O1 {k:Nat} {h:Bz} (i:F4 k h) (d:FQ):DQ h.text.length (Dx h d)=0/\Aa h.text (Dx h d)=(Bh h d).1.text/\((Bh h d).2≠0->Dx h d=[]/\(Bh h d).1=h)/\(Dx h d).length<=k+1:=by
 unfold Dx Bh;by_cases c1:d.1=1
 ·rw [if_pos c1,if_pos c1];by_cases c:BX h.text.length d.2≠0
  ·rw [if_pos c,if_pos c];exact ⟨rfl,rfl,fun _=>⟨rfl,rfl⟩,by simp⟩
  ·rw [if_neg c,if_neg c];exact ⟨CW.2 ⟨Classical.not_not.1 c,rfl⟩,rfl,fun q=>absurd rfl q,by simp⟩
 rw [if_neg c1,if_neg c1];by_cases c2:d.1=2
 ·rw [if_pos c2,if_neg (by omega),if_neg (by omega)];exact ⟨rfl,rfl,fun q=>absurd rfl q,by simp⟩
 rw [if_neg c2];by_cases c3:d.1=3
 ·rw [if_pos c3,if_pos c3];by_cases c:h.As=[]
  ·rw [if_pos c,if_pos c];exact ⟨rfl,rfl,fun _=>⟨rfl,rfl⟩,by simp⟩
  ·rw [if_neg c,if_neg c];have p:=i.eH;rw [Em c,List.reverse_append] at p;have g:=(i.oZ _ (List.mem_append_left _ (MC c))).2;exact ⟨p.1,rfl,fun q=>absurd rfl q,by rw [List.length_reverse];omega⟩
 rw [if_neg c3,if_neg c3];by_cases c4:d.1=4
 ·rw [if_pos c4,if_pos c4];by_cases c:h.DF=[]
  ·rw [if_pos c,if_pos c];exact ⟨rfl,rfl,fun _=>⟨rfl,rfl⟩,by simp⟩
  ·rw [if_neg c,if_neg c];have p:=i.vt;rw [Em c,List.reverse_append] at p;have g:=(i.oZ _ (List.mem_append_right _ (MC c))).1;exact ⟨p.1,rfl,fun q=>absurd rfl q,by omega⟩
 rw [if_neg c4,if_neg c4];exact ⟨rfl,rfl,fun _=>⟨rfl,rfl⟩,by simp⟩
theorem Fz.edits {k:Nat} {E:Et} (i:Fz k E) (d:FQ):Fz (k+1) (FU E d).1:=by
 obtain ⟨a,b,c,_⟩:=O1 i.h d;obtain ⟨g1,g2,g3⟩:=SL (Dx E.h d) a i.d i.w i.k;rw [b] at g1 g2 g3;exact ⟨i.h.wM d,g1,g2,g3,i.sn⟩
theorem Fz.more {k:Nat} {E:Et} (i:Fz k E):Fz (k+1) E:=⟨i.h.more,i.d,i.w,i.k,i.sn⟩
theorem Fz.snap {k:Nat} {E:Et} (i:Fz k E):Fz k (Cg E).1:=by
 unfold Cg;split
 ·exact i
 ·exact ⟨i.h,i.d,i.w,i.k,by simp [i.sn]⟩
theorem Fz.read {k:Nat} {E:Et} (i:Fz k E) (n j:Int):Fz k (B7 E n j).1:=by
 unfold B7;split
 ·exact i
 ·split
  ·exact i
  ·exact ⟨i.h,i.d,i.w,i.k,by simp [i.sn]⟩
theorem Fz.work {k:Nat} {E:Et} (i:Fz k E) (n z:Int):Fz k (Fp E n z).1:=by
 unfold Fp;split
 ·exact i
 ·rename_i c;split
  ·have:=df i.h.len i.d i.w (many:=z) (by omega);exact ⟨i.h,this.1,this.2.1,i.k,i.sn⟩
  ·exact ⟨i.h,i.d,i.w,by rw [PB];exact i.k,i.sn⟩
theorem Fz.w9 {k:Nat} {E:Et} (i:Fz k E) (r:Rq):Fz (k+1) (BG E r).1:=by
 unfold BG;split
 ·exact i.edits _
 split
 ·exact (i.work _ _).more
 split
 ·exact i.more
 split
 ·exact i.more
 split
 ·exact i.more
 split
 ·exact i.snap.more
 split
 ·exact (i.read _ _).more
 split
 ·exact i.more
 ·exact i.more
theorem XJ {n:Int} (h0:0<=n) (h:n<=1000000):(∀j,Bd (Fl [] (0,n)) j↔0<=j/\j<n)/\AR n (-1) (Fl [] (0,n)):=by
 have hc:=Nt (P:=fun j=>Bd [] j\/(0<=j/\j<n)) fun j hj=>by
  rcases hj with hj | hj
  ·exact absurd hj (Ei _)
  ·omega
 have hk:=IA hc (m:=n) (fun j hj=>by
  rcases hj with hj | hj
  ·exact absurd hj (Ei _)
  ·omega) (by omega)
 exact ⟨fun j=>(hc.2 j).trans ⟨fun q=>q.elim (fun q=>absurd q (Ei _)) id,.inr⟩,hk.1⟩
theorem Fz.new {s:Bytes} (h:s.length<=600):Fz 0 (BH s):=by
 obtain ⟨a,b⟩:=XJ (n:=s.length) (by omega) (by omega);exact ⟨F4.new h,b,fun i h0 h1 _ _=>by rw [show Bd (BH s).Ba (i-1)↔_ from a _,show Bd (BH s).Ba i↔_ from a _];have h1:i<s.length:=h1;omega,by simp [BH,BZ],rfl⟩
end Go.Fu
end
section
namespace Go.Fu
open Go.Vc
abbrev vf:Ty:= .st (.cons tI (.cons jd (.cons tI (.cons tI (.cons .str .nil)))))
abbrev NY:Ty:= .st (.cons tI (.cons tI (.cons tI (.cons (.sl tI) (.cons .str .nil)))))
abbrev tx (l:List Rq):Prop:= ∀r∈l,E_ r.2.1.2/\Hw r.2.2.2.2
abbrev Nx (s:Bytes) (l:List Rq):Prop:=Hw s/\Gg l/\tx l
noncomputable def Ib:Ct:=⟨Mg .str (.sl vf),[.val (.sl NY),.val (.sl .str),.val tI],fun x=>Nx x.1 x.2,fun x=>AM x.1 x.2⟩
noncomputable def FT:Ct:=⟨Mg .str (.sl vf),[.val (.sl NY),.val (.sl .str),.val (.sl .bool),.val tI],fun x=>Nx x.1 x.2,fun x=>AJ x.1 x.2⟩
def law_EnginePlays_ct:Ct:=⟨Mg .str (.sl vf),[.val .bool],fun x=>Nx x.1 x.2,fun _=>true⟩
theorem T4 (E:Et) (l:List Rq) (r:Rq):ES E (l++[r])=(BG (ES E l) r).1:=by simp [ES]
theorem Pe: ∀(l:List Rq) (E:Et) (r:Rq),Dp E (l++[r])=Dp E l++[(BG (ES E l) r).2]
 | [],E,r=>rfl
 | x::l,E,r=>by simp only [List.cons_append,Dp];rw [Pe l _ r];rfl
theorem Pd: ∀(l:List Rq) (E:Et) (r:Rq),DR E (l++[r])=DR E l++[(BG (ES E l) r).1.h.text]
 | [],E,r=>rfl
 | x::l,E,r=>by simp only [List.cons_append,DR];rw [Pd l _ r];rfl
theorem Ia: ∀(l:List Rq) (E:Et),(Dp E l).length=l.length
 | [],E=>rfl
 | x::l,E=>by simp [Dp,Ia l]
theorem KG: ∀(l:List Rq) (E:Et),(DR E l).length=l.length
 | [],E=>rfl
 | x::l,E=>by simp [DR,KG l]
theorem Fz.run {s:Bytes} (h:s.length<=600) (l:List Rq):Fz l.length (ES (BH s) l):=by
 have: ∀(l:List Rq) (n:Nat) (E:Et),Fz n E->Fz (n+l.length) (ES E l):=by
  intro l
  induction l with
  | nil=>intro n E i;exact i
  | cons d l ih=>
   intro n E i;have:=ih (n+1) (BG E d).1 (i.w9 d);rw [show n+1+l.length=n+(l.length+1) by omega] at this;exact this
 have:=this l 0 _ (Fz.new h);rwa [Nat.zero_add] at this
theorem T2 {s:Bytes} {l:List Rq} (h: ¬Gd s l):AM s l=(Dp (BH s) l,DR (BH s) l,0):=by unfold AM H6;rw [if_neg h]
theorem YP {s:Bytes} {l:List Rq} (h:Gd s l):AM s l=([],[],1):=by unfold AM H6;rw [if_pos h]
theorem LO (R:JY) (l:List Rq) (r:Rq):Ft R (l++[r])=(CF (Ft R l) r).1:=by simp [Ft]
theorem Lq: ∀(l:List Rq) (R:JY) (r:Rq),Ds R (l++[r])=Ds R l++[(CF (Ft R l) r).2]
 | [],R,r=>rfl
 | x::l,R,r=>by simp only [List.cons_append,Ds];rw [Lq l _ r];rfl
theorem Lp: ∀(l:List Rq) (R:JY) (r:Rq),Bx R (l++[r])=Bx R l++[(CF (Ft R l) r).1.e.h.text]
 | [],R,r=>rfl
 | x::l,R,r=>by simp only [List.cons_append,Bx];rw [Lp l _ r];rfl
theorem Lo: ∀(l:List Rq) (R:JY) (r:Rq),Bl R (l++[r])=Bl R l++[JW (CF (Ft R l) r).1]
 | [],R,r=>rfl
 | x::l,R,r=>by simp only [List.cons_append,Bl];rw [Lo l _ r];rfl
theorem Ip: ∀(l:List Rq) (R:JY),(Ds R l).length=l.length
 | [],R=>rfl
 | x::l,R=>by simp [Ds,Ip l]
theorem Io: ∀(l:List Rq) (R:JY),(Bx R l).length=l.length
 | [],R=>rfl
 | x::l,R=>by simp [Bx,Io l]
theorem G6: ∀(l:List Rq) (R:JY),(Bl R l).length=l.length
 | [],R=>rfl
 | x::l,R=>by simp [Bl,G6 l]
theorem PX {s:Bytes} {l:List Rq} (h: ¬Gd s l):AJ s l=(Ds (Au s) l,Bx (Au s) l,Bl (Au s) l,0):=by unfold AJ H6;rw [if_neg h]
theorem T3 {s:Bytes} {l:List Rq} (h:Gd s l):AJ s l=([],[],[],1):=by unfold AJ H6;rw [if_pos h]
section
variable {R : JY} {r : Rq}
theorem tn (h:r.1=1):CF R r=(if (Bh R.e.h r.2.1).2=0 then ⟨⟨(Bh R.e.h r.2.1).1,[],[],R.e.BA⟩,0,0⟩ else R,Rh (Bh R.e.h r.2.1).2):=by unfold CF;rw [if_pos h]
theorem vP (h:r.1=2):CF R r=if r.2.2.1<0\/1<r.2.2.1\/r.2.2.2.1<1\/50<r.2.2.2.1 then (R,Rh 2) else if r.2.2.1=0 then (⟨R.e,R.w0+1,R.w1⟩,Rh 0) else (⟨R.e,R.w0,R.w1+1⟩,Rh 0):=by unfold CF;rw [if_neg (by omega),if_pos h]
theorem vQ (h:r.1=3):CF R r=(R,Gk R.e.h.text r.2.2.1):=by unfold CF;rw [if_neg (by omega),if_neg (by omega),if_pos h]
theorem vR (h:r.1=4):CF R r=(R,Gs R.e.h.text r.2.2.2.2):=by unfold CF;rw [if_neg (by omega),if_neg (by omega),if_neg (by omega),if_pos h]
theorem qn (h:r.1=5):CF R r=(R,C6 R.e.h.text r.2.2.1):=by unfold CF;rw [if_neg (by omega),if_neg (by omega),if_neg (by omega),if_neg (by omega),if_pos h]
theorem vS (h:r.1=6):CF R r=(⟨(Cg R.e).1,R.w0,R.w1⟩,(Cg R.e).2):=by unfold CF;rw [if_neg (by omega),if_neg (by omega),if_neg (by omega),if_neg (by omega),if_neg (by omega),if_pos h]
theorem tp (h:r.1=7\/r.1=8):CF R r=(⟨(B7 R.e r.1 r.2.2.1).1,R.w0,R.w1⟩,(B7 R.e r.1 r.2.2.1).2):=by unfold CF;rw [if_neg (by omega),if_neg (by omega),if_neg (by omega),if_neg (by omega),if_neg (by omega),if_neg (by omega),if_pos h]
theorem tq (h:r.1=9):CF R r=(R,(0,-1,0,[],[])):=by unfold CF;rw [if_neg (by omega),if_neg (by omega),if_neg (by omega),if_neg (by omega),if_neg (by omega),if_neg (by omega),if_neg (by omega),if_pos h]
theorem vO (h: ¬(r.1=1\/r.1=2\/r.1=3\/r.1=4\/r.1=5\/r.1=6\/r.1=7\/r.1=8\/r.1=9)):CF R r=(R,Rh 3):=by unfold CF;rw [if_neg (by omega),if_neg (by omega),if_neg (by omega),if_neg (by omega),if_neg (by omega),if_neg (by omega),if_neg (by omega),if_neg (by omega)]
end
end Go.Fu
end
