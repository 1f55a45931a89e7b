/- Part of the proof of enginePlays_holds: the whole is true of every input. Conditions: none. -/
import Derived.Test.YtlibocgedgdmlaaGreatP10
import Derived.Laws.IdiomCopy
import Derived.WalkKit
import Derived.Shelf.RegionOpenPlain
import Derived.Lib.Walk
import Derived.Laws.Shifts
import Derived.Shelf.SlSortCmp.QuietGrown
import Derived.Deep.Draws
import Derived.Sort.Walk0
import Derived.Lib.Overlaps
import Derived.Laws.Externs
import Derived.Shelf.Spec.SlicesInsert
import Derived.Lib.AppendZerosOnto
import Derived.Lib.Builder
import Derived.Lib.Hide
import Derived.Deep.RegionWith
set_option linter.all false
section
namespace Go.Fu
open Go.Vc
structure YH (E:Et) (R:JY):Prop where
 h:E.h=R.e.h
 sn:E.BA=R.e.BA
 w0:0<=R.w0
 w1:0<=R.w1
 d:(mD E.h.text E.Ba:Int)+R.w0<=E.h.text.length\/mD E.h.text E.Ba=0
 k:(VA E.known:Int)+R.w1<=E.h.text.length+1\/VA E.known=0
variable {E : Et} {R : JY} {k : Nat} {r : Rq}
theorem YH.new {s:Bytes} (h:s.length<=600):YH (BH s) (Au s):=by
 have i:=Fz.new h;have h1:=uT s (BH s).Ba;have h2:=rO (BH s).known;have h3:=DY s;have h4:=i.k;refine ⟨rfl,rfl,Int.le_refl _,Int.le_refl _,.inl ?_,.inl ?_⟩
 ·show (mD s (BH s).Ba:Int)+0<=(s.length:Int);omega
 ·show (VA (BH s).known:Int)+0<=(s.length:Int)+1;have h5:(BH s).h.text=s:=rfl;rw [h5] at h4;omega
theorem Td (hs:E.BA=R.e.BA) (hh:E.h=R.e.h):(Cg E).2=(Cg R.e).2/\(Cg E).1.BA=(Cg R.e).1.BA/\(Cg E).1.h=E.h/\(Cg R.e).1.h=R.e.h/\(Cg E).1.Ba=E.Ba/\(Cg E).1.known=E.known:=by
 unfold Cg;rw [hs,hh];split
 ·exact ⟨rfl,hs,hh.symm▸rfl,rfl,rfl,rfl⟩
 ·exact ⟨rfl,rfl,by first | exact hh.symm | rfl,rfl,rfl,rfl⟩
theorem TG (hs:E.BA=R.e.BA) (hh:E.h=R.e.h) (n j:Int):(B7 E n j).2=(B7 R.e n j).2/\(B7 E n j).1.BA=(B7 R.e n j).1.BA/\(B7 E n j).1.h=E.h/\(B7 R.e n j).1.h=R.e.h/\(B7 E n j).1.Ba=E.Ba/\(B7 E n j).1.known=E.known:=by
 unfold B7;have e:HP E j=HP R.e j:=by unfold HP;rw [hs]
 rw [e];cases HP R.e j with
 | none=>exact ⟨rfl,hs,rfl,rfl,rfl,rfl⟩
 | some t=>
  dsimp only;split
  ·exact ⟨rfl,hs,rfl,rfl,rfl,rfl⟩
  ·exact ⟨rfl,by rw [hs],rfl,rfl,rfl,rfl⟩
theorem YH.told (S:YH E R) (i:Fz k E) (hr:r.1≠9):(BG E r).2=(CF R r).2/\0<=(CF R r).2.2.1:=by
 by_cases c1:r.1=1
 ·rw [tn c1];unfold BG;rw [if_pos c1];unfold FU;rw [S.h];exact ⟨rfl,Int.le_refl _⟩
 by_cases c2:r.1=2
 ·rw [vP c2];unfold BG;rw [if_neg c1,if_pos c2];unfold Fp;split
  ·exact ⟨rfl,Int.le_refl _⟩
  ·split<;>exact ⟨rfl,Int.le_refl _⟩
 by_cases c3:r.1=3
 ·rw [vQ c3];unfold BG;rw [if_neg c1,if_neg c2,if_pos c3,S.h];refine ⟨rfl,?_⟩;show 0<=(FP R.e.h.text r.2.2.1).1.2.1;unfold FP;split
  ·exact Int.le_refl _
  ·exact (Im _).2.1
 by_cases c4:r.1=4
 ·rw [vR c4];unfold BG;rw [if_neg c1,if_neg c2,if_neg c3,if_pos c4,S.h];exact ⟨rfl,Int.le_refl _⟩
 by_cases c5:r.1=5
 ·rw [qn c5];unfold BG;rw [if_neg c1,if_neg c2,if_neg c3,if_neg c4,if_pos c5,S.h];refine ⟨rfl,?_⟩;unfold C6;split
  ·exact Int.le_refl _
  ·exact (TD _).1
 by_cases c6:r.1=6
 ·rw [vS c6];unfold BG;rw [if_neg c1,if_neg c2,if_neg c3,if_neg c4,if_neg c5,if_pos c6];refine ⟨(Td S.sn S.h).1,?_⟩;unfold Cg;split
  ·exact Int.le_refl _
  ·show (0:Int)<=(EH R.e.BA:Int);omega
 by_cases c7:r.1=7\/r.1=8
 ·rw [tp c7];unfold BG;rw [if_neg c1,if_neg c2,if_neg c3,if_neg c4,if_neg c5,if_neg c6,if_pos c7];refine ⟨(TG S.sn S.h _ _).1,?_⟩;unfold B7;split
  ·exact Int.le_refl _
  ·split<;>exact Int.le_refl _
 ·rw [vO (by omega)];unfold BG;rw [if_neg c1,if_neg c2,if_neg c3,if_neg c4,if_neg c5,if_neg c6,if_neg c7,if_neg hr];exact ⟨rfl,Int.le_refl _⟩
theorem QD (hr:r.1=9):BG E r=(E,(0,N3 E,0,[],[])):=by
 unfold BG;rw [if_neg (by omega),if_neg (by omega),if_neg (by omega),if_neg (by omega),if_neg (by omega),if_neg (by omega),if_neg (by omega),if_pos hr]
theorem YH.step (S:YH E R) (i:Fz k E) (r:Rq):YH (BG E r).1 (CF R r).1:=by
 have i2:=i.w9 r;have b1:=uT (BG E r).1.h.text (BG E r).1.Ba;have b2:=rO (BG E r).1.known;have b3:=DY (BG E r).1.h.text;have b4:=i2.k;by_cases c1:r.1=1
 ·rw [tn c1];obtain ⟨_,_,g,_⟩:=O1 i.h r.2.1;have e:(BG E r).1=(FU E r.2.1).1:=by unfold BG;rw [if_pos c1]
  rw [e] at b1 b2 b3 b4 |-;by_cases c0:(Bh R.e.h r.2.1).2=0
  ·rw [if_pos c0];refine ⟨by show (Bh E.h r.2.1).1=_;rw [S.h],S.sn,Int.le_refl _,Int.le_refl _,.inl ?_,.inl ?_⟩
   ·show (mD _ _:Int)+0<=_;omega
   ·show (VA _:Int)+0<=_;omega
  ·rw [if_neg c0];rw [<-S.h] at c0;obtain ⟨g1,g2⟩:=g c0;have e1:(FU E r.2.1).1=E:=by unfold FU;rw [g1,g2];rfl
   rw [e1];exact S
 by_cases c2:r.1=2
 ·rw [vP c2];have e:(BG E r).1=(Fp E r.2.2.1 r.2.2.2.1).1:=by unfold BG;rw [if_neg c1,if_pos c2]
  rw [e];unfold Fp;by_cases cb:r.2.2.1<0\/1<r.2.2.1\/r.2.2.2.1<1\/50<r.2.2.2.1
  ·rw [if_pos cb,if_pos cb];exact S
  ·rw [if_neg cb,if_neg cb];by_cases cn:r.2.2.1=0
   ·rw [if_pos cn,if_pos cn];obtain ⟨_,_,m1,m2,_⟩:=df i.h.len i.d i.w (many:=r.2.2.2.1) (by omega);refine ⟨S.h,S.sn,by have:=S.w0;show 0<=R.w0+1;omega,S.w1,?_,S.k⟩;show (mD E.h.text (LK E.h.text E.Ba r.2.2.2.1):Int)+(R.w0+1)<=_\/_;rcases S.d with h | h
    ·by_cases q:mD E.h.text E.Ba=0
     ·exact .inr (by show mD E.h.text (LK E.h.text E.Ba r.2.2.2.1)=0;omega)
     ·have:=m2 (by omega);exact .inl (by show _<=(E.h.text.length:Int);omega)
    ·exact .inr (by show mD E.h.text (LK E.h.text E.Ba r.2.2.2.1)=0;omega)
   ·rw [if_neg cn,if_neg cn];obtain ⟨m1,m2⟩:=Ta r.2.2.2.1 (AH E.h.text) E.known (by rw [i.k];exact Nat.le_refl _);refine ⟨S.h,S.sn,S.w0,by have:=S.w1;show 0<=R.w1+1;omega,S.d,?_⟩;show (VA (GB r.2.2.2.1 (AH E.h.text) E.known):Int)+(R.w1+1)<=_\/_;rcases S.k with h | h
    ·by_cases q:VA E.known=0
     ·exact .inr (by show VA (GB r.2.2.2.1 (AH E.h.text) E.known)=0;omega)
     ·have:=m2 (by omega) (by omega);exact .inl (by show _<=(E.h.text.length:Int)+1;omega)
    ·exact .inr (by show VA (GB r.2.2.2.1 (AH E.h.text) E.known)=0;omega)
 have AW: ∀ {E':Et} {e':Et},E'.h=E.h->e'.h=R.e.h->E'.Ba=E.Ba->E'.known=E.known->E'.BA=e'.BA->YH E' ⟨e',R.w0,R.w1⟩:=fun {E' e'} h1 h2 h3 h4 h5=>by
  refine ⟨by rw [h1,S.h];exact h2.symm,h5,S.w0,S.w1,?_,?_⟩
  ·rw [h1,h3];exact S.d
  ·rw [h1,h4];exact S.k
 by_cases c3:r.1=3
 ·rw [vQ c3];unfold BG;rw [if_neg c1,if_neg c2,if_pos c3];exact S
 by_cases c4:r.1=4
 ·rw [vR c4];unfold BG;rw [if_neg c1,if_neg c2,if_neg c3,if_pos c4];exact S
 by_cases c5:r.1=5
 ·rw [qn c5];unfold BG;rw [if_neg c1,if_neg c2,if_neg c3,if_neg c4,if_pos c5];exact S
 by_cases c6:r.1=6
 ·rw [vS c6];unfold BG;rw [if_neg c1,if_neg c2,if_neg c3,if_neg c4,if_neg c5,if_pos c6];obtain ⟨_,q2,q3,q4,q5,q6⟩:=Td S.sn S.h;exact AW q3 q4 q5 q6 q2
 by_cases c7:r.1=7\/r.1=8
 ·rw [tp c7];unfold BG;rw [if_neg c1,if_neg c2,if_neg c3,if_neg c4,if_neg c5,if_neg c6,if_pos c7];obtain ⟨_,q2,q3,q4,q5,q6⟩:=TG S.sn S.h r.1 r.2.2.1;exact AW q3 q4 q5 q6 q2
 by_cases c9:r.1=9
 ·rw [tq c9,QD c9];exact S
 ·rw [vO (by omega)];unfold BG;rw [if_neg c1,if_neg c2,if_neg c3,if_neg c4,if_neg c5,if_neg c6,if_neg c7,if_neg c9];exact S
theorem YH.xT (S:YH E R) (i:Fz k E) (h:JW R=true):Hn E:=by
 unfold JW at h;simp only [decide_eq_true_eq] at h;rw [<-S.h] at h;have h1:mD E.h.text E.Ba=0:=by rcases S.d with q | q<;>omega
 have h2:VA E.known=0:=by rcases S.k with q | q<;>omega
 exact ⟨tH i.d h1,rP.1 h2⟩
theorem YH.full (S:YH E R) (i:Fz k E) (hf:Hn E) (hr: ¬(r.1=1/\(CF R r).2.1=0)):Hn (BG E r).1:=by
 by_cases c1:r.1=1
 ·have hc:(Bh E.h r.2.1).2≠0:=fun q=>hr ⟨c1,by rw [tn c1];rw [S.h] at q;exact q⟩;obtain ⟨_,_,g,_⟩:=O1 i.h r.2.1;obtain ⟨g1,g2⟩:=g hc;have e1:(BG E r).1=E:=by unfold BG;rw [if_pos c1];unfold FU;rw [g1,g2];rfl
  rw [e1];exact hf
 unfold BG;rw [if_neg c1];split
 ·unfold Fp;split
  ·exact hf
  ·split
   ·refine ⟨?_,hf.2⟩;show LK _ _ _=[];rw [hf.1];rfl
   ·exact ⟨hf.1,nk hf.2⟩
 split
 ·exact hf
 split
 ·exact hf
 split
 ·exact hf
 split
 ·obtain ⟨_,_,_,_,q5,q6⟩:=Td S.sn S.h;exact ⟨q5.trans hf.1,by rw [q6];exact hf.2⟩
 split
 ·obtain ⟨_,_,_,_,q5,q6⟩:=TG S.sn S.h r.1 r.2.2.1;exact ⟨q5.trans hf.1,by rw [q6];exact hf.2⟩
 split
 ·exact hf
 ·exact hf
theorem T5: ∀ {l:List Rq} {E:Et} {j:Nat} {r:Rq},l[j]?=some r->(Dp E l)[j]?=some (BG (ES E (l.take j)) r).2
 | [],E,j,r,h=>by simp at h
 | x::l,E,0,r,h=>by simp at h;subst h;rfl
 | x::l,E,j+1,r,h=>by
  have:=T5 (l:=l) (E:=(BG E x).1) (j:=j) (r:=r) (by simpa using h);simpa [Dp,ES] using this
theorem UU: ∀ {l:List Rq} {R:JY} {j:Nat} {r:Rq},l[j]?=some r->(Ds R l)[j]?=some (CF (Ft R (l.take j)) r).2
 | [],E,j,r,h=>by simp at h
 | x::l,R,0,r,h=>by simp at h;subst h;rfl
 | x::l,R,j+1,r,h=>by
  have:=UU (l:=l) (R:=(CF R x).1) (j:=j) (r:=r) (by simpa using h);simpa [Ds,Ft] using this
theorem UT: ∀ {l:List Rq} {R:JY} {j:Nat} {r:Rq},l[j]?=some r->(Bl R l)[j]?=some (JW (CF (Ft R (l.take j)) r).1)
 | [],E,j,r,h=>by simp at h
 | x::l,R,0,r,h=>by simp at h;subst h;rfl
 | x::l,R,j+1,r,h=>by
  have:=UT (l:=l) (R:=(CF R x).1) (j:=j) (r:=r) (by simpa using h);simpa [Bl,Ft] using this
theorem YH.run {s:Bytes} (h:s.length<=600) (l:List Rq):YH (ES (BH s) l) (Ft (Au s) l):=by
 have: ∀(l:List Rq) (n:Nat) (E:Et) (R:JY),Fz n E->YH E R->YH (ES E l) (Ft R l):=by
  intro l
  induction l with
  | nil=>intro n E R i S;exact S
  | cons d l ih=>intro n E R i S;exact ih (n+1) _ _ (i.w9 d) (S.step i d)
 exact this l 0 _ _ (Fz.new h) (YH.new h)
theorem jg {s:Bytes} (h:s.length<=600) (l:List Rq):DR (BH s) l=Bx (Au s) l:=by
 have: ∀(l:List Rq) (n:Nat) (E:Et) (R:JY),Fz n E->YH E R->DR E l=Bx R l:=by
  intro l
  induction l with
  | nil=>intro n E R i S;rfl
  | cons d l ih=>
   intro n E R i S;have S':=S.step i d;show _::_=_::_;rw [ih (n+1) _ _ (i.w9 d) S',S'.h]
 exact this l 0 _ _ (Fz.new h) (YH.new h)
theorem rM {R:JY} {r:Rq} (h:R.e.h.text.length<=600):Gg (CF R r).2.2.2.2.1:=by
 have h0:Gg ([]:List Int):=by simp
 unfold CF;split
 ·exact h0
 split
 ·split
  ·exact h0
  ·split<;>exact h0
 split
 ·exact h0
 split
 ·show (Gs R.e.h.text r.2.2.2.2).2.2.2.1.length<=_;have:=YY R.e.h.text r.2.2.2.2;unfold Gs CP;split
  ·simp
  ·split
   ·simp
   ·show (FD R.e.h.text r.2.2.2.2).length<=_;omega
 split
 ·unfold C6;split<;>exact h0
 split
 ·unfold Cg;split<;>exact h0
 split
 ·unfold B7;split
  ·exact h0
  ·split<;>exact h0
 split
 ·exact h0
 ·exact h0
end Go.Fu
end
section
namespace Go.Vc
open Go.RowKit
theorem jG {E:Env} {b:Nat}: ¬Own E [] b:=fun ⟨l,o,q,_⟩=>by simp at q
theorem EK {P:Program} (w:World) (dT sT ty elem:TypeId) (i:TypeInfo) (b o dLen dCap:Nat) (a:Addr) (sLen sCap:Nat) (cs:List Value)
  (hu:P.underlying dT=some (.slice elem)) (hi:P.info? elem=some i) (hn:cs.length=Nat.min sLen dLen*i.size)
  (hsrc: ∀j v,cs[j]?=some v->w.cell? (a.add j)=some v) (hc: ∀j,j<cs.length->(w.cell? ⟨b,o+j,none⟩).isSome=true) (hf: ∀j,j<cs.length->w.frozen? ⟨b,o+j,none⟩=false) (h1: ∀v∈cs,v.oneCell'=true):
  (Builtin.copy_ #[dT,sT] ty #[.slice (some ⟨b,o,none⟩) dLen dCap,.slice (some a) sLen sCap]).run P w= .ok (goInt (Nat.min sLen dLen)) (w.setCells b o cs):=by
 have hl:=run_firstCells_some (P:=P) w i.size (Nat.min sLen dLen) a sLen sCap cs hn hsrc;have hst:=run_storeCells_cells (P:=P) b o cs 0 w (by simpa using hc) (by simpa using hf) h1;have hsz:(sizeOf elem).run P w= .ok i.size w:=Dt (by simp [CG,hi]) w;simp [Builtin.copy_,run_underlying hu,Builtin.lenOf,hsz,hl,hst]
theorem U3 {P:Program} {w:World} {t u e ty:TypeId} {ut:TypeDesc} {i:TypeInfo} {z:Value} {ats:Array TypeId} {args:Array Value} {base:Option Addr} {sLen sCap n:Nat} {xv:Value} {olds news:List Value}
  (ht0:ats[0]?=some t) (ht1:ats[1]?=some u) (a0:args[0]?=some (.slice base sLen sCap)) (a1:args[1]?=some xv) (ht:P.underlying t=some (.slice e)) (hu:P.underlying u=some ut) (hut:(∃e',ut= .slice e')\/ut= .string) (hi:P.info? e=some i) (hz:i.zero=some z) (hb0:0<i.bytes)
  (hlen: ∀w':World,(Builtin.lenOf xv).run P w'= .ok n w') (hcells: ∀w':World,w'.heap=w.heap->(Builtin.firstCells i.size n xv).run P w'= .ok news.toArray w') (hold: ∀w':World,w'.heap=w.heap->(Builtin.firstCells i.size sLen (.slice base sLen sCap)).run P w'= .ok olds.toArray w')
  (hg:sCap<sLen+n) (hfit:(sLen+n)*i.bytes<=140737488355328):
  ∃(w':World) (rest:List Value) (cap:Nat),(sLen+n<=cap/\cap<=9223372036854775807)/\rest.length=(cap-(sLen+n))*z.cells.size/\(Builtin.append_ ats ty args).run P w= .ok (.slice (some ⟨w.heap.size,0,none⟩) (sLen+n) cap) w'/\
    w'.heap=w.heap.push (.cells (olds++news++rest).toArray e (0,0))/\w'.os=w.os/\w'.output=w.output/\Tp w w':=by
 have hsz: ∀w':World,(sizeOf e).run P w'= .ok i.size w':=fun w'=>Dt (by simp [CG,hi]) w';have hbb:sLen+n<=(sLen+n)*i.bytes:=Nat.le_mul_of_pos_right _ hb0;have f2: ¬(Builtin.nextslicecap (sLen+n) sCap*i.bytes > 2 ^ 48):=by
  have:=growslice_fits (bytes:=i.bytes) hg hfit;omega
 have f3: ¬(sLen+n<=sCap):=by omega
 have f4: ¬(i.bytes=0):=by omega
 have hcapq:sLen+n<=(Question.appendCap (sLen+n) sCap e).cut (w.tape w.drawn (.appendCap (sLen+n) sCap e)):=by simp [Question.cut]
 have hcapb:(Question.appendCap (sLen+n) sCap e).cut (w.tape w.drawn (.appendCap (sLen+n) sCap e))<=9223372036854775807:=by
  have:=Nat.mod_lt (w.tape w.drawn (.appendCap (sLen+n) sCap e)) (show 0<2 ^ 63-(sLen+n) by omega);simp only [Question.cut];omega
 have hf:(Question.appendCap (sLen+n) sCap e).forced=false:=rfl;generalize hq:(Question.appendCap (sLen+n) sCap e).cut (w.tape w.drawn (.appendCap (sLen+n) sCap e))=cap at hcapq hcapb;refine ⟨w.drew.alloc (.cells (olds++news++(Builtin.zeroCells z.cells (cap-(sLen+n))).toList).toArray e),(Builtin.zeroCells z.cells (cap-(sLen+n))).toList,cap,⟨hcapq,hcapb⟩,?_,?_,rfl,rfl,rfl,(Tp.of rfl (Nat.le_succ _))⟩
 ·simp [Builtin.zeroCells]
 ·have hd:w.drew.heap=w.heap:=rfl;have c1:=hcells w.drew hd;have c2:=hold w.drew hd;have c3:(zeroValue e).run P w.drew= .ok z w.drew:=by simp [zeroValue,Hg hi,hz]
  rcases hut with ⟨e',rfl⟩ | rfl<;>
   ·simp only [Builtin.append_,ht0,ht1,a0,a1,Sem.run_bind,run_underlying ht,run_underlying hu,Result.andThen_ok,hsz,Sem.run_pure,Bool.false_eq_true,if_false,hlen,f3,Hg hi,false_or,f4,and_false,f2,Bool.not_false,if_true,run_choose,hf,hq,run_askRoom,World.drew_eq,c1,c2,c3,newRow,run_newObj];rw [show olds.toArray++news.toArray++Builtin.zeroCells z.cells (cap-(sLen+n))=(olds++news++(Builtin.zeroCells z.cells (cap-(sLen+n))).toList).toArray from by apply Array.ext';simp];rfl
end Go.Vc
end
section
namespace Go.Proofs
open Go.RowKit Go.Shelf
def oj (w:World) (b off:Nat) (l:List (Int×Int)):Prop:= ∀(j:Nat) (s:Int×Int),l[j]?=some s->w.cell? ⟨b,off+j*2,none⟩=some (.int .i64 s.1)/\w.cell? ⟨b,off+j*2+1,none⟩=some (.int .i64 s.2)
theorem oj.below {n:Nat} {w w':World} {b off:Nat} {l:List (Int×Int)} (h:oj w b off l) (hb:Below n w w') (hn:b<n):oj w' b off l:=fun j s hj=>by
 have e: ∀o,w'.cell? ⟨b,o,none⟩=w.cell? ⟨b,o,none⟩:=fun o=>World.cell?_of_block (a:=⟨b,o,none⟩) (hb.block b hn);rw [e,e];exact h j s hj
set_option maxHeartbeats 2000000 in
set_option maxRecDepth 100000 in
theorem uH (a c lo:Int) (ha: -1000000<=a/\a<=1000000) (hl: -1000000<=lo/\lo<=1000000) (w:World):Calls Tryz.prog 44 #[.agg #[.int .i64 a,.int .i64 c],.int .i64 lo] w fun e w'=>e= .returned (.int .i64 (a-lo))/\Below w.heap.size w w':=by
 have hw:IntKind.i64.wrap (a-lo)=a-lo:=by rw [IntKind.wrap_i64];omega
 go_enter Tryz.func44,Tryz.ntmps44
 go_wp2
 go_ret
 refine ⟨rfl,?_⟩;exact (Below.refl _ w).alloc (Nat.le_refl _) _
set_option maxHeartbeats 4000000 in
set_option maxRecDepth 100000 in
theorem sG (l:List (Int×Int)) (lo:Int) (hlo: -1000000<=lo/\lo<=1000000) (hl: ∀s∈l,-1000000<=s.1/\s.1<=1000000) (hn:l.length<=1000000) (asc: ∀i j:Nat,i<=j-> ∀s t,l[i]?=some s->l[j]?=some t->s.1<=t.1)
  (b off c:Nat) (w:World) (hb:b<w.heap.size) (hs:oj w b off l):
  Calls Tryz.prog 43 #[.slice (some ⟨b,off,none⟩) l.length c,.int .i64 lo,.func (.func 44) #[] #[]] w fun e w'=> ∃(i:Nat) (f:Bool),e= .returned (.tuple #[.int .i64 i,.bool f])/\i<=l.length/\(∀j s,j<i->l[j]?=some s->s.1<lo)/\(∀j s,i<=j->l[j]?=some s->lo<=s.1)/\Below w.heap.size w w':=by
 go_enter Tryz.func43,Tryz.ntmps43
 go_wp2
 go_loopw [9,10] (fun vi vj wr=> ∃i j:Nat,i<=j/\j<=l.length/\vi= .int .i64 i/\vj= .int .i64 j/\(∀k s,k<i->l[k]?=some s->s.1<lo)/\(∀k s,j<=k->l[k]?=some s->lo<=s.1)/\Below w.heap.size w wr)
  (fun i j _=>(intOf j).toNat-(intOf i).toNat)
 case atStart=>exact ⟨0,l.length,Nat.zero_le _,Nat.le_refl _,rfl,rfl,fun k s h=>absurd h (Nat.not_lt_zero _),fun k s h q=>(by rw [List.getElem?_eq_none h] at q;cases q),Below.refl _ _⟩
 case round=>
  obtain ⟨i,j,hij,hj,rfl,rfl,h1,h2,hbw⟩:=hrel;have hsr:=hs.below hbw hb;by_cases hlt:i<j
  ·obtain ⟨h,hh⟩: ∃h:Nat,h=(i+j)/2:=⟨_,rfl⟩
   have hm:i<=h/\h<j:=by omega
   obtain ⟨s,hsx⟩: ∃s,l[h]?=some s:=⟨_,List.getElem?_eq_getElem (by omega)⟩
   obtain ⟨c0,c1⟩:=hsr h s hsx;have hsl:=hl s (List.mem_of_getElem? hsx);have hcl:=fun W=>uH s.1 s.2 lo hsl hlo W;have he:((i:Int)+(j:Int))/2=(h:Int):=by omega
   have hsf:Op.shift .shr .u64 ((i:Int)+(j:Int)) .u64 1=pure (.int .u64 (h:Int)):=by
    rw [shift_shr_any _ _ _ _ (by decide),<-he];rfl
   have hm1:i<=h:=hm.1;have hm2:h<l.length:=by omega
   have hm3:h<j:=hm.2;have hcv:IntKind.i64.wrap (h:Int)=h:=by rw [IntKind.wrap_i64];omega
   have A1:Hid _:=asc;have A2:Hid _:=h1;have A3:Hid _:=h2;have A4:Hid _:=hsx;clear asc h1 h2 hsx hm hh;by_cases hc:s.1-lo<0
   ·go_wp2_with (go_at_call 44;refine (hcl _).mono ?_;rintro e w' ⟨rfl,hb1⟩)
    go_roundw
    case rel=>
     refine ⟨h+1,j,by omega,hj,by simp,rfl,fun k u hk hu=>?_,A3.out,hbw.trans (hb1.mono hbw.size)⟩;have:=A1.out k h (by omega) u s hu A4.out;omega
    case measure=>simp [intOf];omega
   ·go_wp2_with (go_at_call 44;refine (hcl _).mono ?_;rintro e w' ⟨rfl,hb1⟩)
    go_roundw
    case rel=>
     refine ⟨i,h,by omega,by omega,rfl,rfl,A2.out,fun k u hk hu=>?_,hbw.trans (hb1.mono hbw.size)⟩;have:=A1.out h k hk s u A4.out hu;omega
    case measure=>simp [intOf];omega
  ·obtain rfl:i=j:=by omega
   have A1:Hid _:=asc;have A2:Hid _:=h1;have A3:Hid _:=h2;clear asc h1 h2;by_cases hin:i<l.length
   ·obtain ⟨s,hsx⟩: ∃s,l[i]?=some s:=⟨_,List.getElem?_eq_getElem hin⟩
    obtain ⟨c0,c1⟩:=hsr i s hsx;have hsl:=hl s (List.mem_of_getElem? hsx);have hcl:=fun W=>uH s.1 s.2 lo hsl hlo W;clear hsx
    go_wp2_with (go_at_call 44;refine (hcl _).mono ?_;rintro e w' ⟨rfl,hb1⟩)
    go_ret2
    exact ⟨i,_,rfl,hj,A2.out,A3.out,hbw.trans (hb1.mono hbw.size)⟩
   ·go_wp2
    go_ret2
    exact ⟨i,_,rfl,hj,A2.out,A3.out,hbw⟩
end Go.Proofs
end
section
namespace Go.Proofs
open Go.RowKit Go.Shelf Go.Vc
set_option maxHeartbeats 4000000 in
set_option maxRecDepth 100000 in
theorem mS (b off n c i vb voff vc:Nat) (cs vs:List Value) (w:World) (hi:i<n) (hroom:n+1<=c) (hc63:c<=9223372036854775807) (hvb:vb≠b)
  (hcl:cs.length=n*2) (hvl:vs.length=2)
  (hcs: ∀j v,cs[j]?=some v->w.cell? ⟨b,off+j,none⟩=some v) (hsp: ∀j,j<(n+1)*2->(w.cell? ⟨b,off+j,none⟩).isSome=true) (hfz: ∀j,j<(n+1)*2->w.frozen? ⟨b,off+j,none⟩=false)
  (hvs: ∀j v,vs[j]?=some v->w.cell? ⟨vb,voff+j,none⟩=some v) (h1c: ∀v∈cs,v.oneCell'=true) (h1v: ∀v∈vs,v.oneCell'=true)
  (tA tB:TypeId) (kA kB:Nat) (hsa:w.shape? vb=some (tA,kA)) (hsb:w.shape? b=some (tB,kB)) (hkB:kB≠0) (hfa:w.frozen? ⟨vb,voff,none⟩=false) (hfe:w.frozen? ⟨vb,kA,none⟩=false):
  Calls Tryz.prog 46 #[.slice (some ⟨b,off,none⟩) n c,.int .i64 i,.slice (some ⟨vb,voff,none⟩) 1 vc] w fun e w'=>
   e= .returned (.slice (some ⟨b,off,none⟩) (n+1) c)/\w'=(w.drew.setCells b (off+(i+1)*2) (cs.drop (i*2))).setCells b (off+i*2) vs:=by
 have hz2: ¬((i:Int)=(n:Int)):=by omega
 obtain ⟨i0,hi0,hz0,hz1⟩: ∃i0,Tryz.prog.info? 90=some i0/\i0.size=2/\True:=⟨(Tryz.prog.info? 90).get (by kernel_rfl),by kernel_rfl,by kernel_rfl,trivial⟩
 have hov: ∀lb cb,(callFunc 66 #[.slice (some ⟨vb,voff,none⟩) 1 vc,.slice (some ⟨b,off+(i+1)*2,none⟩) lb cb]).run Tryz.prog w= .ok (.value (.bool false)) w:=fun lb cb=>by
  rw [run_callFunc_extern Tryz.func66 (by kernel_rfl) (by kernel_rfl) (by kernel_rfl) (e:=Extern.SlicesOverlaps.overlaps #[58,58] #[4]) (by kernel_rfl),
   Lib.run_overlaps_apart w 58 4 90 Tryz.underlying58 2 Tryz.sizeOf90 ⟨vb,voff,none⟩ ⟨b,off+(i+1)*2,none⟩ 1 vc lb cb hvb tA tB kA kB hsa hsb hkB hfa hfe]
  rfl
 have hdl:(cs.drop (i*2)).length=(n-i)*2:=by rw [List.length_drop,hcl];omega
 have hw1:IntKind.i64.wrap ((i:Int)+1)=(i:Int)+1:=by rw [IntKind.wrap_i64];omega
 have hin:i<=n:=by omega
 have hmin:Nat.min (n+1-i) (n-i)=n-i:=by simp only [Nat.min_def];split<;>omega
 have hmin2: ∀d,1<=d->Nat.min 1 d=1:=fun d hd=>by simp only [Nat.min_def];split<;>omega
 have hcp1: ∀ty dc sc,(Builtin.copy_ #[58,58] ty #[.slice (some ⟨b,off+(i+1)*2,none⟩) (n-i) dc,.slice (some ⟨b,off+i*2,none⟩) (n+1-i) sc]).run Tryz.prog w.drew= .ok (goInt ((n-i:Nat):Int)) (w.drew.setCells b (off+(i+1)*2) (cs.drop (i*2))):=fun ty dc sc=>by
  rw [EK (P:=Tryz.prog) w.drew 58 58 ty 90 i0 b (off+(i+1)*2) (n-i) dc ⟨b,off+i*2,none⟩ (n+1-i) sc (cs.drop (i*2)) Tryz.underlying58 hi0 (by rw [hdl,hmin,hz0])
   (fun j v hj=>by rw [Addr.add_lit,Nat.add_assoc];exact hcs (i*2+j) v (by rwa [List.getElem?_drop] at hj))
   (fun j hj=>by rw [Nat.add_assoc];exact hsp _ (by omega)) (fun j hj=>by rw [Nat.add_assoc];exact hfz _ (by omega)) (fun v hv=>h1c v (List.mem_of_mem_drop hv)),hmin]
 obtain ⟨W1,hW1⟩: ∃W1,W1=w.drew.setCells b (off+(i+1)*2) (cs.drop (i*2)):=⟨_,rfl⟩
 have hsp1: ∀k,k<(n+1)*2->(W1.cell? ⟨b,off+k,none⟩).isSome=true:=fun k hk=>by
  rw [hW1];exact isSome_setCells b _ _ _ (fun j hj=>by rw [Nat.add_assoc];exact hsp _ (by omega)) _ (hsp k hk)
 have hcp2: ∀(W:World),(∀x,W.cell? x=W1.cell? x)->(∀x,W.frozen? x=W1.frozen? x)-> ∀ty dc,(Builtin.copy_ #[58,58] ty #[.slice (some ⟨b,off+i*2,none⟩) (n+1-i) dc,.slice (some ⟨vb,voff,none⟩) 1 vc]).run Tryz.prog W= .ok (goInt ((1:Nat):Int)) (W.setCells b (off+i*2) vs):=fun W hWc hWf ty dc=>by
  rw [EK (P:=Tryz.prog) W 58 58 ty 90 i0 b (off+i*2) (n+1-i) dc ⟨vb,voff,none⟩ 1 vc vs Tryz.underlying58 hi0 (by rw [hvl,hz0,hmin2 _ (by omega)])
   (fun j v hj=>by
    rw [Addr.add_lit,hWc,hW1,World.cell?_setCells_out b _ _ _ _ (fun h _=>absurd h hvb)];exact hvs j v hj)
   (fun j hj=>by rw [hWc,Nat.add_assoc];exact hsp1 _ (by omega)) (fun j hj=>by rw [hWf,hW1,World.frozen?_setCells,Nat.add_assoc];exact hfz _ (by omega)) h1v,hmin2 _ (by omega)]
 rw [<-hW1] at hcp1;have mixed:Tryz.prog.follows .mixedOrders=true:=by kernel_rfl
 have u22:=run_underlying Tryz.underlying58;have z24:=Tryz.sizeOf90;have hb1:(0:Int)<=(i:Int)+1:=by omega
 have htn:((i:Int)+1).toNat=i+1:=by omega
 have hb2: ¬(c=i+1):=by omega
 have hb3:(i:Int)<=(n:Int)+1:=by omega
 have hb4: ¬(c=i):=by omega
 have hb5:(i:Int)+1<=(n:Int)+1:=by omega
 go_enter Tryz.func46,Tryz.ntmps46
 go_wp2_with (simp only [hov])
 go_region_law_o (refine step_copy_runI rfl _ _ 58 58 rfl _ _ (by simp [Act.eval,Act.put]) (by simp [Act.eval,Act.put]) (hcp1 _ _ _) ?_)
 go_wp2_with (at_builtin;refine wpList_copy_runI _ rfl _ _ 58 58 rfl _ _ rfl rfl (hcp2 _ (fun _=>rfl) (fun _=>rfl) _ _) ?_)
 go_ret
 first | exact ⟨rfl,rfl⟩ | exact ⟨rfl,by rw [hW1]⟩
theorem MW: ∃i0,Tryz.prog.info? 90=some i0/\i0.size=2/\i0.bytes=16/\ ∃z,i0.zero=some z/\z.cells.size=2:=
 ⟨(Tryz.prog.info? 90).get (by kernel_rfl),by kernel_rfl,by kernel_rfl,by kernel_rfl,.agg #[.int .i64 0,.int .i64 0],by kernel_rfl,rfl⟩
set_option maxHeartbeats 4000000 in
set_option maxRecDepth 100000 in
theorem aJ (b off n c vb voff vc:Nat) (vs:List Value) (w:World) (hroom:n+1<=c) (hc63:c<=9223372036854775807) (hvl:vs.length=2)
  (hsp: ∀j,j<2->(w.cell? ⟨b,off+n*2+j,none⟩).isSome=true) (hfz: ∀j,j<2->w.frozen? ⟨b,off+n*2+j,none⟩=false)
  (hvs: ∀j v,vs[j]?=some v->w.cell? ⟨vb,voff+j,none⟩=some v) (h1v: ∀v∈vs,v.oneCell'=true):
  Calls Tryz.prog 46 #[.slice (some ⟨b,off,none⟩) n c,.int .i64 n,.slice (some ⟨vb,voff,none⟩) 1 vc] w fun e w'=>
   e= .returned (.slice (some ⟨b,off,none⟩) (n+1) c)/\w'=w.setCells b (off+n*2) vs:=by
 obtain ⟨i0,hi0,hz0,_⟩:=MW;have hst:=run_storeCells_cells (P:=Tryz.prog) b (off+n*2) vs 0 w (fun j hj=>by simpa using hsp j (by omega)) (fun j hj=>by simpa using hfz j (by omega)) h1v;have hrun: ∀ty,(Builtin.append_ #[58,58] ty #[.slice (some ⟨b,off,none⟩) n c,.slice (some ⟨vb,voff,none⟩) 1 vc]).run Tryz.prog w= .ok (.slice (some ⟨b,off,none⟩) (n+1) c) (w.setCells b (off+n*2) vs):=fun ty=>by
  rw [D6 (P:=Tryz.prog) (w:=w) (base:=some ⟨b,off,none⟩) (sLen:=n) (sCap:=c) (n:=1) (news:=vs) (i:=i0) (t:=58) (u:=58) rfl rfl rfl rfl Tryz.underlying58 Tryz.underlying58 (.inl ⟨_,rfl⟩) hi0 (by simp [Builtin.lenOf])
   (run_firstCells_some (P:=Tryz.prog) w i0.size 1 ⟨vb,voff,none⟩ 1 vc vs (by rw [hvl,hz0]) fun j v hj=>by rw [Addr.add_lit];exact hvs j v hj) hroom]
  simp only [Addr.add_lit,hz0];simp only [Nat.add_zero] at hst;rw [hst];rfl
 go_enter Tryz.func46,Tryz.ntmps46
 go_wp2_with (at_builtin;refine Lib.wpList_append_run _ rfl _ _ _ _ rfl _ _ rfl rfl _ _ (hrun _) ?_)
 go_ret
 exact ⟨rfl,rfl⟩
set_option maxHeartbeats 4000000 in
set_option maxRecDepth 100000 in
theorem RU (base:Option Addr) (n c vb voff vc:Nat) (cs vs:List Value) (w:World) (hroom:c<n+1) (hnc:n<=c) (hbig:(n+1)*16<=140737488355328) (hcl:cs.length=n*2) (hvl:vs.length=2) (hnil:base=none->n=0)
  (hcs: ∀a,base=some a-> ∀j v,cs[j]?=some v->w.cell? (a.add j)=some v)
  (hvs: ∀j v,vs[j]?=some v->w.cell? ⟨vb,voff+j,none⟩=some v) (h1v: ∀v∈vs,v.oneCell'=true):
  Calls Tryz.prog 46 #[.slice base n c,.int .i64 n,.slice (some ⟨vb,voff,none⟩) 1 vc] w fun e w'=>
   ∃(cap:Nat) (rest:List Value),e= .returned (.slice (some ⟨w.heap.size,0,none⟩) (n+1) cap)/\n+1<=cap/\rest.length=(cap-(n+1))*2/\w'.heap=w.heap.push (.cells (cs++vs++rest).toArray 90 (0,0))/\w'.os=w.os/\w'.output=w.output/\w'.tape=w.tape:=by
 obtain ⟨i0,hi0,hz0,hby,z,hz,hzc⟩:=MW;have hcell: ∀w':World,w'.heap=w.heap-> ∀a:Addr,w'.cell? a=w.cell? a:=fun w' hw a=>by unfold World.cell?;rw [hw]
 have hold: ∀w':World,w'.heap=w.heap->(Builtin.firstCells i0.size n (.slice base n c)).run Tryz.prog w'= .ok cs.toArray w':=fun w' hw=>by
  cases base with
  | none=>
   have h0:=hnil rfl;subst h0;have:cs=[]:=List.eq_nil_of_length_eq_zero (by omega);subst this;simp [Builtin.firstCells]
  | some a=>exact run_firstCells_some (P:=Tryz.prog) w' i0.size n a n c cs (by rw [hcl,hz0]) fun j v hj=>by rw [hcell w' hw];exact hcs a rfl j v hj
 obtain ⟨w1,rest,cap,k1,k2,k3,k4,k5,k6,k7⟩:=EB (P:=Tryz.prog) (w:=w) (ats:= #[58,58]) (ty:=58) (args:= #[.slice base n c,.slice (some ⟨vb,voff,none⟩) 1 vc]) (base:=base) (sLen:=n) (sCap:=c) (n:=1) (olds:=cs) (news:=vs) (i:=i0) (z:=z) (t:=58) (u:=58) rfl rfl rfl rfl Tryz.underlying58 Tryz.underlying58 (.inl ⟨_,rfl⟩) hi0 hz (by rw [hby];decide)
  (fun w'=>by simp [Builtin.lenOf]) (fun w' hw=>run_firstCells_some (P:=Tryz.prog) w' i0.size 1 ⟨vb,voff,none⟩ 1 vc vs (by rw [hvl,hz0]) fun j v hj=>by rw [Addr.add_lit,hcell w' hw];exact hvs j v hj) hold hroom (by rw [hby];exact hbig)
 go_enter Tryz.func46,Tryz.ntmps46
 go_wp2_with (at_builtin;refine Lib.wpList_append_run _ rfl _ _ _ _ rfl _ _ rfl rfl _ _ k3 ?_)
 all_goals (go_ret;exact ⟨cap,rest,rfl,k1,by rw [k2,hzc],k4,k5,k6,k7.1⟩)
end Go.Proofs
end
section
namespace Go.Proofs
open Go.RowKit Go.Shelf Go.Vc
set_option maxHeartbeats 4000000 in
set_option maxRecDepth 100000 in
theorem pd (b off n c i vb voff vc:Nat) (cs vs:List Value) (w:World) (hi:i<n) (hroom:c<n+1) (hnc:n<=c) (hbig:(n+1)*16<=140737488) (hcl:cs.length=n*2) (hvl:vs.length=2) (hb:b<w.heap.size) (hvb:vb<w.heap.size)
  (hcs: ∀j v,cs[j]?=some v->w.cell? ⟨b,off+j,none⟩=some v) (hvs: ∀j v,vs[j]?=some v->w.cell? ⟨vb,voff+j,none⟩=some v) (h1c: ∀v∈cs,v.oneCell'=true) (h1v: ∀v∈vs,v.oneCell'=true):
  Calls Tryz.prog 46 #[.slice (some ⟨b,off,none⟩) n c,.int .i64 i,.slice (some ⟨vb,voff,none⟩) 1 vc] w fun e w'=>
   ∃(cap:Nat) (row:Array Value),e= .returned (.slice (some ⟨w.heap.size,0,none⟩) (n+1) cap)/\n+1<=cap/\row.size=cap*2/\w'=(((w.drew.alloc (.cells row 90)).setCells w.heap.size (i*2) vs).drew).setCells w.heap.size ((i+1)*2) (cs.drop (i*2))/\row.toList.take (i*2)=cs.take (i*2):=by
 obtain ⟨i0,hi0,hz0,hby,z,hz,hzc⟩:=MW;have htl:(cs.take (i*2)).length=i*2:=by rw [List.length_take];omega
 have hap:=Lib.run_append_grow_zeros (P:=Tryz.prog) w 58 3 58 90 i0 z .i64 .i64 Tryz.underlying58 Tryz.underlying3 hi0 hz (some ⟨b,off,none⟩) i c (cs.take (i*2))
  (run_firstCells_some (P:=Tryz.prog) w.drew i0.size i ⟨b,off,none⟩ i c (cs.take (i*2)) (by rw [htl,hz0]) fun j v hj=>by
   rw [Addr.add_lit];exact hcs j v (by rw [List.getElem?_take] at hj;split at hj<;>simp_all))
  (n+1-i) (by omega) (by rw [hz0];decide) (by omega) (by omega) (by rw [hby];omega) (by rw [hby];have:=growslice_fits (bytes:=16) (show c<i+(n+1-i) by omega) (by omega);omega)
 rw [show i+(n+1-i)=n+1 by omega] at hap;generalize hcap:grownCap w (n+1) c 90=cap at hap;have hcg:n+1<=cap:=by rw [<-hcap];exact grownCap_ge _ _ _ _
 generalize hrow:(cs.take (i*2)).toArray++Builtin.zeroCells z.cells (n+1-i)++Builtin.zeroCells z.cells (cap-(n+1))=row at hap;have hrs:row.size=cap*2:=by
  rw [<-hrow];simp only [Array.size_append,List.size_toArray,htl,size_zeroCells,hzc];omega
 have hrt:row.toList.take (i*2)=cs.take (i*2):=by
  rw [<-hrow];simp only [Array.toList_append,List.append_assoc];rw [List.take_append_of_le_length (by rw [htl];exact Nat.le_refl _),List.take_of_length_le (by rw [htl];exact Nat.le_refl _)]
 have hdl:(cs.drop (i*2)).length=(n-i)*2:=by rw [List.length_drop,hcl];omega
 have hmin1:Nat.min 1 (n+1-i)=1:=by simp only [Nat.min_def];split<;>omega
 have hmin2:Nat.min (n-i) (n-i)=n-i:=by simp only [Nat.min_def];split<;>omega
 obtain ⟨G,hGe⟩: ∃G,G=w.heap.size:=⟨_,rfl⟩
 obtain ⟨W1,hW1⟩: ∃W1,W1=w.drew.alloc (.cells row 90):=⟨_,rfl⟩
 have hd:w.drew.heap=w.heap:=rfl;have hG:W1.heap[G]?=some (.cells row 90 (0,0)):=by
  rw [hW1,hGe];simp only [World.alloc];exact Array.getElem?_push_size
 have hcl1: ∀a:Addr,a.block<G->W1.cell? a=w.cell? a:=fun a ha=>by
  rw [hW1];exact World.cell?_of_block (Below.heap_alloc w.drew _ a.block (by rw [hGe] at ha;exact ha))
 have hsp1: ∀j,j<cap*2->(W1.cell? ⟨G,j,none⟩).isSome=true:=fun j hj=>by
  rw [Lib.cell_of_heap hG];simp [hrs,hj]
 have hfz1: ∀j,W1.frozen? ⟨G,j,none⟩=false:=fun j=>Lib.frozen_of_heap hG j;have hcpA: ∀ty dc,(Builtin.copy_ #[58,58] ty #[.slice (some ⟨G,i*2,none⟩) (n+1-i) dc,.slice (some ⟨vb,voff,none⟩) 1 vc]).run Tryz.prog W1= .ok (goInt ((1:Nat):Int)) (W1.setCells G (i*2) vs):=fun ty dc=>by
  rw [EK (P:=Tryz.prog) W1 58 58 ty 90 i0 G (i*2) (n+1-i) dc ⟨vb,voff,none⟩ 1 vc vs Tryz.underlying58 hi0 (by rw [hvl,hz0,hmin1])
   (fun j v hj=>by rw [Addr.add_lit,hcl1 _ (by rw [hGe];exact hvb)];exact hvs j v hj)
   (fun j hj=>hsp1 _ (by omega)) (fun j hj=>hfz1 _) h1v,hmin1]
 obtain ⟨W2,hW2⟩: ∃W2,W2=W1.setCells G (i*2) vs:=⟨_,rfl⟩
 have hsp2: ∀k,k<cap*2->(W2.cell? ⟨G,k,none⟩).isSome=true:=fun k hk=>by
  rw [hW2];exact isSome_setCells G _ _ _ (fun j hj=>hsp1 _ (by omega)) _ (hsp1 k hk)
 have hcpB: ∀(W:World),(∀x,W.cell? x=W2.cell? x)->(∀x,W.frozen? x=W2.frozen? x)-> ∀ty dc sc,(Builtin.copy_ #[58,58] ty #[.slice (some ⟨G,(i+1)*2,none⟩) (n-i) dc,.slice (some ⟨b,off+i*2,none⟩) (n-i) sc]).run Tryz.prog W= .ok (goInt ((n-i:Nat):Int)) (W.setCells G ((i+1)*2) (cs.drop (i*2))):=fun W hWc hWf ty dc sc=>by
  rw [EK (P:=Tryz.prog) W 58 58 ty 90 i0 G ((i+1)*2) (n-i) dc ⟨b,off+i*2,none⟩ (n-i) sc (cs.drop (i*2)) Tryz.underlying58 hi0 (by rw [hdl,hmin2,hz0])
   (fun j v hj=>by
    rw [Addr.add_lit,hWc,hW2,World.cell?_setCells_out G _ _ _ _ (fun h _=>absurd h (by show b≠G;omega)),hcl1 _ (by rw [hGe];exact hb),Nat.add_assoc];exact hcs (i*2+j) v (by rwa [List.getElem?_drop] at hj))
   (fun j hj=>by rw [hWc];exact hsp2 _ (by omega)) (fun j hj=>by rw [hWf,hW2,World.frozen?_setCells];exact hfz1 _) (fun v hv=>h1c v (List.mem_of_mem_drop hv)),hmin2]
 rw [<-hW1,<-hGe] at hap;rw [<-hW2] at hcpA;have hE1: ∀x,W2.drew.cell? x=W2.cell? x:=fun _=>rfl;have hE2: ∀x,W2.drew.frozen? x=W2.frozen? x:=fun _=>rfl;have mixed:Tryz.prog.follows .mixedOrders=true:=by kernel_rfl
 have u22:=run_underlying Tryz.underlying58;have z24:=Tryz.sizeOf90;have hw1:IntKind.i64.wrap ((i:Int)+1)=(i:Int)+1:=by rw [IntKind.wrap_i64];omega
 have hb1:(0:Int)<=(i:Int)+1:=by omega
 have htn:((i:Int)+1).toNat=i+1:=by omega
 have hz2: ¬((i:Int)=(n:Int)):=by omega
 have hin:i<=n:=by omega
 have hsub:(n:Int)+1-(i:Int)=((n+1-i:Nat):Int):=by omega
 have hb3:(i:Int)<=(n:Int)+1:=by omega
 have hb5:(i:Int)+1<=(n:Int)+1:=by omega
 have hb6: ¬(cap=i):=by omega
 have hb7: ¬(cap=i+1):=by omega
 have hb8: ¬(c=i):=by omega
 refine (show Calls Tryz.prog 46 #[.slice (some ⟨b,off,none⟩) n c,.int .i64 i,.slice (some ⟨vb,voff,none⟩) 1 vc] w fun e w'=>e= .returned (.slice (some ⟨G,0,none⟩) (n+1) cap)/\w'=W2.drew.setCells G ((i+1)*2) (cs.drop (i*2)) from ?_).mono ?_;rotate_left
 ·rintro e w' ⟨rfl,rfl⟩;exact ⟨cap,row,by rw [hGe],hcg,hrs,by rw [hW2,hW1,hGe],hrt⟩
 clear hGe hW1 hW2 hrow hcap hG
 go_enter Tryz.func46,Tryz.ntmps46
 go_wp2_with (first
  | (at_builtin;refine Lib.wpList_append_run _ rfl _ _ _ _ rfl _ _ rfl rfl _ _ hap ?_)
  | (at_builtin;refine wpList_copy_runI _ rfl _ _ 58 58 rfl _ _ rfl rfl (hcpA _ _) ?_))
 go_region_law_o (refine step_copy_runI rfl _ _ 58 58 rfl (.slice (some ⟨G,(i+1)*2,none⟩) (n-i) (cap-(i+1))) (.slice (some ⟨b,off+i*2,none⟩) (n-i) (c-i)) (by simp [Act.eval,Act.put]) (by simp [Act.eval,Act.put]) (hcpB _ hE1 hE2 3 (cap-(i+1)) (c-i)) ?_)
 go_wp2
 go_ret
 exact ⟨rfl,rfl⟩
end Go.Proofs
end
section
namespace Go.Proofs
open Go.RowKit Go.Shelf Go.Vc Go.Fu
def flat (l:List (Int×Int)):List Value:=l.flatMap fun s=>[Value.int .i64 s.1,Value.int .i64 s.2]
theorem ID (s:Int×Int) (l:List (Int×Int)):flat (s::l)=[Value.int .i64 s.1,Value.int .i64 s.2]++flat l:=by simp [flat]
theorem c_ (l m:List (Int×Int)):flat (l++m)=flat l++flat m:=by simp [flat]
theorem RJ: ∀l:List (Int×Int),(flat l).length=l.length*2
 | []=>rfl
 | s::l=>by rw [ID,List.length_append,RJ l];simp;omega
theorem Yb: ∀(l:List (Int×Int)) (i:Nat),(flat l).take (i*2)=flat (l.take i)
 | [],i=>by simp [flat]
 | s::l,0=>by simp [flat]
 | s::l,i+1=>by
  rw [List.take_succ_cons,ID,ID,<-Yb l i,show (i+1)*2=i*2+1+1 by omega];simp only [List.cons_append,List.nil_append,List.take_succ_cons]
theorem YZ: ∀(l:List (Int×Int)) (i:Nat),(flat l).drop (i*2)=flat (l.drop i)
 | [],i=>by simp [flat]
 | s::l,0=>by simp [flat]
 | s::l,i+1=>by
  rw [List.drop_succ_cons,ID,<-YZ l i,show (i+1)*2=i*2+1+1 by omega];simp only [List.cons_append,List.nil_append,List.drop_succ_cons]
theorem dA: ∀l:List (Int×Int),∀v∈flat l,v.oneCell'=true:=fun l v hv=>by
 simp only [flat,List.mem_flatMap] at hv;obtain ⟨s,_,h⟩:=hv;simp at h;rcases h with rfl | rfl<;>rfl
theorem RI {l:List (Int×Int)} {i:Nat} {s:Int×Int}:flat (EN l i s)=(flat l).take (i*2)++flat [s]++(flat l).drop (i*2):=by
 unfold EN;rw [c_,c_,Yb,YZ,Int.toNat_natCast]
def Qi (w:World) (b off:Nat) (F:List Value):Prop:= ∀(j:Nat) (v:Value),F[j]?=some v->w.cell? ⟨b,off+j,none⟩=some v
theorem fX {W:World} {b off k:Nat} {A vs D:List Value} (hk:A.length=k) (hv:vs.length=2) (hA:Qi W b off A) (hsp: ∀j,j<k+2+D.length->(W.cell? ⟨b,off+j,none⟩).isSome=true):
  Qi ((W.setCells b (off+(k+2)) D).setCells b (off+k) vs) b off (A++vs++D):=fun j v hj=>by
 have hsp1: ∀j,j<k+2+D.length->((W.setCells b (off+(k+2)) D).cell? ⟨b,off+j,none⟩).isSome=true:=fun j hj=>
  isSome_setCells b _ _ _ (fun q hq=>by rw [Nat.add_assoc];exact hsp _ (by omega)) _ (hsp j hj)
 by_cases c1:j<k
 ·rw [List.append_assoc,List.getElem?_append_left (by omega)] at hj;rw [World.cell?_setCells_out b _ _ _ _ (fun _ _=>.inl (by show off+j<off+k;omega)),World.cell?_setCells_out b _ _ _ _ (fun _ _=>.inl (by show off+j<off+(k+2);omega))];exact hA j v hj
 ·by_cases c2:j<k+2
  ·rw [List.getElem?_append_left (by simp;omega),List.getElem?_append_right (by omega)] at hj;have hlt:j-k<vs.length:=by omega
   have:=World.cell?_setCells_in b vs (off+k) (W.setCells b (off+(k+2)) D) (fun q hq=>by rw [Nat.add_assoc];exact hsp1 _ (by omega)) (j-k) hlt;rw [show off+k+(j-k)=off+j by omega] at this;rw [this];rw [hk,List.getElem?_eq_getElem hlt] at hj;exact hj
  ·rw [List.getElem?_append_right (by simp;omega)] at hj;simp only [List.length_append,hk,hv] at hj;have hlt:j-(k+2)<D.length:=(List.getElem?_eq_some_iff.1 hj).1;rw [World.cell?_setCells_out b _ _ _ _ (fun _ _=>.inr (by show off+k+vs.length<=off+j;omega))];have:=World.cell?_setCells_in b D (off+(k+2)) W (fun q hq=>by rw [Nat.add_assoc];exact hsp _ (by omega)) (j-(k+2)) hlt;rw [show off+(k+2)+(j-(k+2))=off+j by omega] at this;rw [this,<-List.getElem?_eq_getElem hlt];exact hj
theorem oD {W:World} {b off k:Nat} {A vs D:List Value} (hk:A.length=k) (hv:vs.length=2) (hA:Qi W b off A) (hsp: ∀j,j<k+2+D.length->(W.cell? ⟨b,off+j,none⟩).isSome=true):
  Qi (((W.setCells b (off+k) vs).drew).setCells b (off+(k+2)) D) b off (A++vs++D):=fun j v hj=>by
 have hsp1: ∀j,j<k+2+D.length->((W.setCells b (off+k) vs).drew.cell? ⟨b,off+j,none⟩).isSome=true:=fun j hj=>
  isSome_setCells b _ _ _ (fun q hq=>by rw [Nat.add_assoc];exact hsp _ (by omega)) _ (hsp j hj)
 by_cases c1:j<k
 ·rw [List.append_assoc,List.getElem?_append_left (by omega)] at hj;rw [World.cell?_setCells_out b _ _ _ _ (fun _ _=>.inl (by show off+j<off+(k+2);omega))];show (W.setCells b (off+k) vs).cell? _=_;rw [World.cell?_setCells_out b _ _ _ _ (fun _ _=>.inl (by show off+j<off+k;omega))];exact hA j v hj
 ·by_cases c2:j<k+2
  ·rw [List.getElem?_append_left (by simp;omega),List.getElem?_append_right (by omega)] at hj;have hlt:j-k<vs.length:=by omega
   rw [World.cell?_setCells_out b _ _ _ _ (fun _ _=>.inl (by show off+j<off+(k+2);omega))];show (W.setCells b (off+k) vs).cell? _=_;have:=World.cell?_setCells_in b vs (off+k) W (fun q hq=>by rw [Nat.add_assoc];exact hsp _ (by omega)) (j-k) hlt;rw [show off+k+(j-k)=off+j by omega] at this;rw [this];rw [hk,List.getElem?_eq_getElem hlt] at hj;exact hj
  ·rw [List.getElem?_append_right (by simp;omega)] at hj;simp only [List.length_append,hk,hv] at hj;have hlt:j-(k+2)<D.length:=(List.getElem?_eq_some_iff.1 hj).1;have:=World.cell?_setCells_in b D (off+(k+2)) (W.setCells b (off+k) vs).drew (fun q hq=>by rw [Nat.add_assoc];exact hsp1 _ (by omega)) (j-(k+2)) hlt;rw [show off+(k+2)+(j-(k+2))=off+j by omega] at this;rw [this,<-List.getElem?_eq_getElem hlt];exact hj
theorem yW (b:Nat): ∀(vs:List Value) (o:Nat) (w:World),(∀k,k≠b->(w.setCells b o vs).heap[k]?=w.heap[k]?)/\(w.setCells b o vs).heap.size=w.heap.size/\(w.setCells b o vs).os=w.os/\(w.setCells b o vs).tape=w.tape/\(w.setCells b o vs).output=w.output
 | [],_,_=>⟨fun _ _=>rfl,rfl,rfl,rfl,rfl⟩
 | v::r,o,w=>by
  obtain ⟨h1,h2,h3,h4,h5⟩:=yW b r (o+1) (w.setCell ⟨b,o,none⟩ v);rw [World.setCells];refine ⟨fun k hk=>(h1 k hk).trans (Below.heap_setCell _ _ _ _ (fun e=>hk (by simpa using e))),h2.trans (by simp [World.setCell]),h3,h4,h5⟩
theorem L6 {B b:Nat} (hB:B<=b) (vs:List Value) (o:Nat) (w:World):Below B w (w.setCells b o vs):=by
 obtain ⟨h1,h2,h3,h4,h5⟩:=yW b vs o w;exact ⟨h3,h4,h5,by rw [h2];exact Nat.le_refl _,fun k hk=>h1 k (by omega)⟩
end Go.Proofs
end
section
namespace Go.Proofs
open Go.RowKit Go.Shelf Go.Vc Go.Fu
theorem e9 {E:Env} {fz:Nat->Prop} {w:World}: ∀(l:List (Int×Int)) (vs:List Value),AZ E fz w (l.flatMap fun s:Int×Int=>BP Hk s) vs->vs=flat l
 | [],vs,h=>h
 | s::l,vs,h=>by
  obtain ⟨_,_,rfl,rfl,_,us,rfl,rfl,h3⟩: ∃v us,vs=v::us/\v= .int .i64 s.1/\ ∃v2 us2,us=v2::us2/\v2= .int .i64 s.2/\AZ E fz w (l.flatMap fun s:Int×Int=>BP Hk s) us2:=h;rw [e9 l us h3,ID];rfl
theorem dv {w w':World} {F:List Value} {row:List Value} {rest:List Value} (h:w'.heap=w.heap.push (.cells (row++rest).toArray 90 (0,0))) (e:row=F):Qi w' w.heap.size 0 F:=fun j v hj=>by
 have hg:w'.heap[w.heap.size]?=some (.cells (row++rest).toArray 90 (0,0)):=by rw [h];exact Array.getElem?_push_size
 subst e;have hlt:j<row.length:=(List.getElem?_eq_some_iff.1 hj).1;rw [Nat.zero_add,Ce hg,List.getElem?_toArray,List.getElem?_append_left hlt];exact hj
theorem Yv {B:Nat} {w w':World} {o:Obj} (hB:B<=w.heap.size) (h:w'.heap=w.heap.push o) (h1:w'.os=w.os) (h2:w'.output=w.output) (h3:w'.tape=w.tape):Below B w w':=
 ⟨h1,h3,h2,by rw [h];simp,fun k hk=>by rw [h,Array.getElem?_push_lt (by omega)];simp [show k<w.heap.size by omega]⟩
theorem Ht (B:Nat) (w:World):Below B w w.drew:=⟨rfl,rfl,rfl,Nat.le_refl _,fun _ _=>rfl⟩
def Uh (w0:Nat) (l:List (Int×Int)) (v:Value) (w:World):Prop:=
 (l=[]/\ ∃a,v= .slice a 0 0)\/ ∃b base c cap arr tt lo hi,v= .slice (some ⟨b,base,none⟩) l.length c/\l.length<=c/\c*2<=cap/\w0<=b/\w.heap[b]?=some (.cells arr tt (lo,hi))/\base+cap<=arr.size/\
  (lo=hi\/arr.size<=lo)/\Qi w b base (flat l)/\c<=9223372036854775807
theorem iX (l:List (Int×Int)) (i:Nat) (s:Int×Int) (hi:i<=l.length) (hs:l.length<=100000) (v:Value) (w0:Nat) (w:World) (h:Uh w0 l v w) (vb:Nat)
  (hv:w.heap[vb]?=some (.cells #[.int .i64 s.1,.int .i64 s.2] 90 (0,0))) (hw0:w0<=vb) (hne:l≠[]-> ∀b base n c,v= .slice (some ⟨b,base,none⟩) n c->vb≠b):
  Calls Tryz.prog 46 #[v,.int .i64 i,.slice (some ⟨vb,0,none⟩) 1 1] w fun e w'=> ∃bI base c,e= .returned (.slice (some ⟨bI,base,none⟩) (l.length+1) c)/\l.length+1<=c/\w0<=bI/\bI<w'.heap.size/\Qi w' bI base (flat (EN l i s))/\Below w0 w w':=by
 have vlt:vb<w.heap.size:=(Array.getElem?_eq_some_iff.1 hv).1;have hvs: ∀j u,[Value.int .i64 s.1,Value.int .i64 s.2][j]?=some u->w.cell? ⟨vb,0+j,none⟩=some u:=fun j u hj=>by
  rw [Nat.zero_add,Ce hv];simpa using hj
 have h1v: ∀u∈[Value.int .i64 s.1,Value.int .i64 s.2],u.oneCell'=true:=fun u hu=>by
  simp at hu;rcases hu with rfl | rfl<;>rfl
 have fl:=RJ l;rcases h with ⟨rfl,a,rfl⟩ | ⟨b,base,c,cap,arr,tt,lo,hi2,rfl,g1,g2,g3,g4,g5,g6,r3,hc63⟩
 ·have hi0:i<=0:=hi;obtain rfl:i=0:=by omega
  refine (RU a 0 0 vb 0 1 [] [.int .i64 s.1,.int .i64 s.2] w (by omega) (by omega) (by omega) rfl rfl (fun _=>rfl) (fun a _ j v hj=>by simp at hj) hvs h1v).mono ?_;rintro e w' ⟨cap,rest,rfl,k1,k2,k3,k4,k5,k6⟩;exact ⟨w.heap.size,0,cap,rfl,k1,by omega,by rw [k3];simp,dv k3 rfl,Yv (by omega) k3 k4 k5 k6⟩
 ·have r2:=dA l;have hne':i<l.length->vb≠b:=fun q=>hne (fun e=>by rw [e] at q;simp at q) b base l.length c rfl;have hfz: ∀j,j<cap->w.frozen? ⟨b,base+j,none⟩=false:=fun j hj=>by
   rw [Gz g4];rcases g6 with g6 | g6
   ·subst g6;by_cases q:lo<=base+j
    ·have: ¬base+j<lo:=by omega
     simp [this]
    ·simp [q]
   ·have: ¬lo<=base+j:=by omega
    simp [this]
  have hsp: ∀j,j<cap->(w.cell? ⟨b,base+j,none⟩).isSome=true:=fun j hj=>by
   rw [Ce g4];simp;omega
  have blt:b<w.heap.size:=(Array.getElem?_eq_some_iff.1 g4).1;have hca:c*2<=cap:=g2;by_cases hin:i=l.length
  ·subst hin;have e0:(flat l).take (l.length*2)=flat l:=List.take_of_length_le (by omega);have e1:(flat l).drop (l.length*2)=[]:=List.drop_eq_nil_of_le (by omega);by_cases hroom:l.length+1<=c
   ·refine (aJ b base l.length c vb 0 1 [.int .i64 s.1,.int .i64 s.2] w hroom hc63 rfl (fun j hj=>by rw [Nat.add_assoc];exact hsp _ (by omega)) (fun j hj=>by rw [Nat.add_assoc];exact hfz _ (by omega)) hvs h1v).mono ?_;rintro e w' ⟨rfl,rfl⟩;refine ⟨b,base,c,rfl,hroom,g3,by rw [(yW _ _ _ _).2.1];exact blt,?_,L6 g3 _ _ _⟩;have:=fX (W:=w) (b:=b) (off:=base) (k:=l.length*2) (A:=flat l) (vs:=[.int .i64 s.1,.int .i64 s.2]) (D:=[]) (by omega) rfl r3 (fun j hj=>hsp j (by simp at hj;omega));rw [RI,e0,e1];exact this
   ·refine (RU (some ⟨b,base,none⟩) l.length c vb 0 1 (flat l) [.int .i64 s.1,.int .i64 s.2] w (by omega) g1 (by omega) fl rfl (fun q=>by cases q) (fun a ha j v hj=>by cases ha;rw [Addr.add_lit];exact r3 j v hj) hvs h1v).mono ?_;rintro e w' ⟨cap',rest,rfl,k1,k2,k3,k4,k5,k6⟩;exact ⟨w.heap.size,0,cap',rfl,k1,by omega,by rw [k3];simp,dv k3 (by rw [RI,e0,e1,List.append_nil];rfl),Yv (by omega) k3 k4 k5 k6⟩
  ·have hlt:i<l.length:=by omega
   by_cases hroom:l.length+1<=c
   ·refine (mS b base l.length c i vb 0 1 (flat l) [.int .i64 s.1,.int .i64 s.2] w hlt hroom hc63 (hne' hlt) fl rfl r3 (fun j hj=>hsp j (by omega)) (fun j hj=>hfz j (by omega)) hvs r2 h1v 90 tt 2 arr.size (by simp [World.shape?,hv]) (by simp [World.shape?,g4]) (by omega) (by rw [Gz hv];simp) (by rw [Gz hv];simp)).mono ?_;rintro e w' ⟨rfl,rfl⟩;refine ⟨b,base,c,rfl,hroom,g3,by rw [(yW _ _ _ _).2.1,(yW _ _ _ _).2.1];exact blt,?_,((Ht w0 w).trans (L6 g3 _ _ _)).trans (L6 g3 _ _ _)⟩;have:=fX (W:=w.drew) (b:=b) (off:=base) (k:=i*2) (A:=(flat l).take (i*2)) (vs:=[.int .i64 s.1,.int .i64 s.2]) (D:=(flat l).drop (i*2)) (by rw [List.length_take];omega) rfl
     (fun j v hj=>r3 j v (by rw [List.getElem?_take] at hj;split at hj<;>simp_all)) (fun j hj=>hsp j (by rw [List.length_drop] at hj;omega))
    rw [RI];rw [show (i+1)*2=i*2+2 by omega];exact this
   ·refine (pd b base l.length c i vb 0 1 (flat l) [.int .i64 s.1,.int .i64 s.2] w hlt (by omega) g1 (by omega) fl rfl blt vlt r3 hvs r2 h1v).mono ?_;rintro e w' ⟨cap',row,rfl,k1,k2,rfl,k3⟩;have hg:(w.drew.alloc (.cells row 90)).heap[w.heap.size]?=some (.cells row 90 (0,0)):=by
     simp only [World.alloc];exact Array.getElem?_push_size
    have bl:Below w0 w (w.drew.alloc (.cells row 90)):=(Ht w0 w).trans ((Below.refl w0 w.drew).alloc (by show w0<=w.heap.size;omega) _);have ts:=oD (W:=w.drew.alloc (.cells row 90)) (b:=w.heap.size) (off:=0) (k:=i*2) (A:=(flat l).take (i*2)) (vs:=[.int .i64 s.1,.int .i64 s.2]) (D:=(flat l).drop (i*2)) (by rw [List.length_take];omega) rfl
     (fun j v hj=>by
      rw [<-k3] at hj;rw [Nat.zero_add,Ce hg];rw [List.getElem?_take] at hj;split at hj
      ·simpa using hj
      ·cases hj) (fun j hj=>by rw [Nat.zero_add,Ce hg];rw [List.length_drop] at hj;simp;omega)
    rw [Nat.zero_add,Nat.zero_add] at ts;refine ⟨w.heap.size,0,cap',rfl,k1,by omega,?_,?_,?_⟩
    ·rw [(yW _ _ _ _).2.1];show _<((w.drew.alloc (.cells row 90)).setCells w.heap.size (i*2) _).heap.size;rw [(yW _ _ _ _).2.1];simp [World.alloc]
    ·rw [RI,show (i+1)*2=i*2+2 by omega];exact ts
    ·exact ((bl.trans (L6 (by omega) _ _ _)).trans (Ht w0 _)).trans (L6 (by omega) _ _ _)
end Go.Proofs
end
section
namespace Go.Proofs
open Go.RowKit Go.Shelf Go.Vc Go.Fu
def gI (l:List (Int×Int)) (v:Value) (w:World):Prop:=
 (l=[]/\ ∃a c,v= .slice a 0 c)\/ ∃b off c,v= .slice (some ⟨b,off,none⟩) l.length c/\l.length<=c/\b<w.heap.size/\Qi w b off (flat l)
theorem Zi (a:Option Addr) (n c:Nat) (W:World):(binOp .eql 58 (.slice a n c) (.slice none 0 0)).run Tryz.prog W= .ok (.bool a.isNone) W:=by
 simp only [binOp];simp [run_equal_slice_nil W 58 90 a n c Tryz.underlying58]
set_option maxHeartbeats 4000000 in
set_option maxRecDepth 100000 in
theorem lx (c:Nat) (w:World):Calls Tryz.prog 47 #[.slice none 0 c] w fun e w'=>e= .returned (.slice none 0 0)/\w'=w:=by
 have hb:=Zi none 0 c
 go_enter Tryz.func47,Tryz.ntmps47
 go_wp2
 go_ret
 exact ⟨rfl,rfl⟩
set_option maxHeartbeats 4000000 in
set_option maxRecDepth 100000 in
theorem gi (b off n c:Nat) (cs:List Value) (w:World) (hbig:n<=100000) (hcl:cs.length=n*2) (hlt:b<w.heap.size) (hcs:Qi w b off cs) (h1: ∀v∈cs,v.oneCell'=true):Calls Tryz.prog 47 #[.slice (some ⟨b,off,none⟩) n c] w fun e w'=> ∃v,e= .returned v/\Below w.heap.size w w'/\
  ((n=0/\ ∃a,v= .slice a 0 0)\/ ∃(cap:Nat) (rest:List Value) (bN:Nat),v= .slice (some ⟨bN,0,none⟩) n cap/\n<=cap/\cap<=9223372036854775807/\rest.length=(cap-n)*2/\w.heap.size<=bN/\w'.heap[bN]?=some (.cells (cs++rest).toArray 90 (0,0))):=by
 have hb:=Zi (some ⟨b,off,none⟩) n c;obtain ⟨i0,hi0,hz0,hby,z,hz,hzc⟩:=MW;obtain ⟨W,hW⟩: ∃W,W=w.alloc (.cells #[] 90):=⟨_,rfl⟩
 have bW:Below w.heap.size w W:=by rw [hW];exact (Below.refl _ w).alloc (Nat.le_refl _) _
 have sW:w.heap.size<W.heap.size:=by rw [hW];show w.heap.size<(w.heap.push _).size;rw [Array.size_push];omega
 have hcs':Qi W b off cs:=fun j v hj=>by
  rw [World.cell?_of_block (a:=⟨b,off+j,none⟩) (bW.block b hlt)];exact hcs j v hj
 by_cases hn:n=0
 ·subst hn;have hrun: ∀ty,(Builtin.append_ #[58,58] ty #[.slice (some ⟨w.heap.size,0,none⟩) 0 0,.slice (some ⟨b,off,none⟩) 0 c]).run Tryz.prog W= .ok (.slice (some ⟨w.heap.size,0,none⟩) 0 0) W:=fun ty=>by
   rw [D6 (P:=Tryz.prog) (w:=W) (base:=some ⟨w.heap.size,0,none⟩) (sLen:=0) (sCap:=0) (n:=0) (news:=[]) (i:=i0) (t:=58) (u:=58) rfl rfl rfl rfl Tryz.underlying58 Tryz.underlying58 (.inl ⟨_,rfl⟩) hi0 (by simp [Builtin.lenOf])
    (run_firstCells_some (P:=Tryz.prog) W i0.size 0 ⟨b,off,none⟩ 0 c [] (by simp) fun j v hj=>by simp at hj) (by omega)]
   rfl
  rw [hW] at hrun bW
  go_enter Tryz.func47,Tryz.ntmps47
  go_wp2_with (at_builtin;refine Lib.wpList_append_run _ rfl _ _ _ _ rfl _ _ rfl rfl _ _ (hrun _) ?_)
  go_ret
  exact ⟨_,rfl,bW,.inl ⟨trivial,_,rfl⟩⟩
 ·have hcell: ∀w':World,w'.heap=W.heap-> ∀a:Addr,w'.cell? a=W.cell? a:=fun w' hw a=>by unfold World.cell?;rw [hw]
  obtain ⟨w1,rest,cap,⟨k1,k0⟩,k2,k3,k4,k5,k6,k7⟩:=U3 (P:=Tryz.prog) (w:=W) (ats:= #[58,58]) (ty:=58) (args:= #[.slice (some ⟨w.heap.size,0,none⟩) 0 0,.slice (some ⟨b,off,none⟩) n c]) (base:=some ⟨w.heap.size,0,none⟩) (sLen:=0) (sCap:=0) (n:=n) (olds:=[]) (news:=cs) (i:=i0) (z:=z) (t:=58) (u:=58) rfl rfl rfl rfl Tryz.underlying58 Tryz.underlying58 (.inl ⟨_,rfl⟩) hi0 hz (by rw [hby];decide)
   (fun w'=>by simp [Builtin.lenOf]) (fun w' hw=>run_firstCells_some (P:=Tryz.prog) w' i0.size n ⟨b,off,none⟩ n c cs (by rw [hcl,hz0]) fun j v hj=>by rw [Addr.add_lit,hcell w' hw];exact hcs' j v hj)
   (fun w' hw=>run_firstCells_some (P:=Tryz.prog) w' i0.size 0 ⟨w.heap.size,0,none⟩ 0 0 [] (by simp) fun j v hj=>by simp at hj) (by omega) (by rw [hby];omega)
  have k8: ∃bN,bN=W.heap.size:=⟨_,rfl⟩
  obtain ⟨bN,hbN⟩:=k8;rw [<-hbN] at k3;have kg:w1.heap[bN]?=some (.cells (cs++rest).toArray 90 (0,0)):=by rw [k4,hbN];exact Array.getElem?_push_size
  have kb:Below w.heap.size w w1:=bW.trans ⟨k5,k7.1,k6,by rw [k4];simp,fun k hk=>by rw [k4,Array.getElem?_push_lt (by omega)];simp [show k<W.heap.size by omega]⟩;have kl:w.heap.size<=bN:=by omega
  simp only [Nat.zero_add] at k1 k2 k3;rw [hzc] at k2;have HK:=Lib.hid k2;have HG:=Lib.hid kg;clear k2 kg hbN k4 k5 k6 k7;rw [hW] at k3;clear hcs hcs' sW bW hcell h1 hW
  go_enter Tryz.func47,Tryz.ntmps47
  go_wp2_with (at_builtin;refine Lib.wpList_append_run _ rfl _ _ _ _ rfl _ _ rfl rfl _ _ k3 ?_)
  go_ret
  exact ⟨_,rfl,kb,.inr ⟨cap,rest,bN,rfl,k1,k0,HK.out,kl,HG.out⟩⟩
end Go.Proofs
end
section
namespace Go.Proofs
open Go.RowKit Go.Shelf Go.Vc Go.Fu
theorem Ya: ∀(l:List (Int×Int)) (j:Nat) (s:Int×Int),l[j]?=some s->(flat l)[j*2]?=some (.int .i64 s.1)/\(flat l)[j*2+1]?=some (.int .i64 s.2)
  | [],j,s,h=>by simp at h
  | a::l,0,s,h=>by
    simp at h;subst h;rw [ID];exact ⟨rfl,rfl⟩
  | a::l,j+1,s,h=>by
    have:=Ya l j s (by simpa using h);rw [ID,show (j+1)*2=j*2+1+1 by omega];simpa using this
theorem se {w:World} {b off:Nat} {l:List (Int×Int)} (h:Qi w b off (flat l)):oj w b off l:=fun j s hj=>by
  obtain ⟨h1,h2⟩:=Ya l j s hj;exact ⟨h _ _ h1,by rw [Nat.add_assoc];exact h _ _ h2⟩
theorem gI.below {l:List (Int×Int)} {v:Value} {w W:World} (h:gI l v w) (hb:Below w.heap.size w W):gI l v W:=by
  rcases h with h | ⟨b,off,c,h1,h2,h3,h4⟩
  · exact .inl h
  · exact .inr ⟨b,off,c,h1,h2,Nat.lt_of_lt_of_le h3 hb.size,fun j v hj=>by
      rw [World.cell?_of_block (a:=⟨b,off+j,none⟩) (hb.block b h3)];exact h4 j v hj⟩
set_option maxHeartbeats 4000000 in
set_option maxRecDepth 100000 in
theorem uu (a:Option Addr) (c:Nat) (lo:Int) (w:World):Calls Tryz.prog 43 #[.slice a 0 c,.int .i64 lo,.func (.func 44) #[] #[]] w fun e w'=> ∃(i:Nat) (f:Bool),e= .returned (.tuple #[.int .i64 i,.bool f])/\i=0/\w'=w:=by
  go_enter Tryz.func43,Tryz.ntmps43
  go_wp2
  go_loopw [9,10] (fun vi vj wr=>vi= .int .i64 0/\vj= .int .i64 0/\wr=w) (fun i j _=>0)
  case atStart=>exact ⟨rfl,rfl,rfl⟩
  case round=>
    obtain ⟨rfl,rfl,rfl⟩:=hrel
    go_wp2
    go_ret2
    exact ⟨0,_,rfl,rfl,rfl⟩
def ui (l:List (Int×Int)) (lo:Int) (i:Nat):Prop:=i<=l.length/\(∀j s,j<i->l[j]?=some s->s.1<lo)/\(∀j s,i<=j->l[j]?=some s->lo<=s.1)
theorem ur (l:List (Int×Int)) (lo:Int) (hlo: -1000000<=lo/\lo<=1000000) (hl: ∀s∈l,-1000000<=s.1/\s.1<=1000000) (hn:l.length<=1000000) (asc: ∀i j:Nat,i<=j-> ∀s t,l[i]?=some s->l[j]?=some t->s.1<=t.1)
    (v:Value) (w:World) (h:gI l v w):
    Calls Tryz.prog 43 #[v,.int .i64 lo,.func (.func 44) #[] #[]] w fun e w'=> ∃(i:Nat) (f:Bool),e= .returned (.tuple #[.int .i64 i,.bool f])/\ui l lo i/\Below w.heap.size w w':=by
  rcases h with ⟨rfl,a,c,rfl⟩ | ⟨b,off,c,rfl,h2,h3,h4⟩
  · refine (uu a c lo w).mono ?_
    rintro e w' ⟨i,f,rfl,rfl,rfl⟩;exact ⟨0,f,rfl,⟨Nat.le_refl _,fun j s h=>absurd h (Nat.not_lt_zero _),fun j s _ h=>by simp at h⟩,Below.refl _ _⟩
  · refine (sG l lo hlo hl hn asc b off c w h3 (se h4)).mono ?_
    rintro e w' ⟨i,f,rfl,g1,g2,g3,g4⟩;exact ⟨i,f,rfl,⟨g1,g2,g3⟩,g4⟩
set_option maxHeartbeats 4000000 in
set_option maxRecDepth 100000 in
theorem gj (ad:Addr) (c:Nat) (w:World):Calls Tryz.prog 47 #[.slice (some ad) 0 c] w fun e w'=> ∃v,e= .returned v/\Below w.heap.size w w'/\ ∃a,v= .slice a 0 0:=by
  have hb:=Zi (some ad) 0 c;obtain ⟨i0,hi0,hz0,hby,z,hz,hzc⟩:=MW;obtain ⟨W,hW⟩: ∃W,W=w.alloc (.cells #[] 90):=⟨_,rfl⟩
  have bW:Below w.heap.size w W:=by rw [hW];exact (Below.refl _ w).alloc (Nat.le_refl _) _
  have hrun: ∀ty,(Builtin.append_ #[58,58] ty #[.slice (some ⟨w.heap.size,0,none⟩) 0 0,.slice (some ad) 0 c]).run Tryz.prog W= .ok (.slice (some ⟨w.heap.size,0,none⟩) 0 0) W:=fun ty=>by
    rw [D6 (P:=Tryz.prog) (w:=W) (base:=some ⟨w.heap.size,0,none⟩) (sLen:=0) (sCap:=0) (n:=0) (news:=[]) (i:=i0) (t:=58) (u:=58) rfl rfl rfl rfl Tryz.underlying58 Tryz.underlying58 (.inl ⟨_,rfl⟩) hi0 (by simp [Builtin.lenOf])
      (run_firstCells_some (P:=Tryz.prog) W i0.size 0 ad 0 c [] (by simp) fun j v hj=>by simp at hj) (by omega)]
    rfl
  rw [hW] at hrun bW
  go_enter Tryz.func47,Tryz.ntmps47
  go_wp2_with (at_builtin;refine Lib.wpList_append_run _ rfl _ _ _ _ rfl _ _ rfl rfl _ _ (hrun _) ?_)
  go_ret
  exact ⟨_,rfl,bW,_,rfl⟩
theorem lv (l:List (Int×Int)) (hn:l.length<=100000) (v:Value) (w:World) (h:gI l v w):Calls Tryz.prog 47 #[v] w fun e w'=> ∃u,e= .returned u/\Below w.heap.size w w'/\Uh w.heap.size l u w':=by
  rcases h with ⟨rfl,a,c,rfl⟩ | ⟨b,off,c,rfl,h2,h3,h4⟩
  · cases a with
    | none=>
      refine (lx c w).mono ?_;rintro e w' ⟨rfl,rfl⟩;exact ⟨_,rfl,Below.refl _ _,.inl ⟨rfl,none,rfl⟩⟩
    | some a=>
      refine (gj a c w).mono ?_;rintro e w' ⟨v,rfl,hb,a,rfl⟩;exact ⟨_,rfl,hb,.inl ⟨rfl,a,rfl⟩⟩
  · refine (gi b off l.length c (flat l) w hn (RJ l) h3 h4 (dA l)).mono ?_
    rintro e w' ⟨u,rfl,hb,⟨h0,a,rfl⟩ | ⟨cap,rest,bN,rfl,k1,k2,k3,k4,k5⟩⟩
    · exact ⟨_,rfl,hb,.inl ⟨List.eq_nil_of_length_eq_zero h0,a,rfl⟩⟩
    · refine ⟨_,rfl,hb,.inr ⟨bN,0,cap,cap*2,_,90,0,0,rfl,k1,Nat.le_refl _,k4,k5,?_,.inl rfl,?_,k2⟩⟩
      · have:=RJ l;simp;omega
      · intro j x hj
        have hlt:j<(flat l).length:=(List.getElem?_eq_some_iff.1 hj).1;rw [Nat.zero_add,Ce k5,List.getElem?_toArray,List.getElem?_append_left hlt];exact hj
theorem _root_.Go.Vc.AV.tail {P:Program} {f:FuncId} {args:List AA} {R:AA->AB->Prop} (h:AV P f args [] R) (hc:DC P f=true) (hd: ¬Dm) {E:Env} {fz g:Nat->Prop} {w W:World} {vals:List Value} (st:St E fz [] w) (hb:Below w.heap.size w W)
    (hg: ∀b,g b->w.heap.size<=b/\b<W.heap.size) (hr:AZ E (fun b=>fz b\/g b) W args vals):
    Calls P f vals.toArray W fun e w'=> ∃r S' v E' fz',e= .returned v/\Ext E fz [] w E' fz' S' w'/\St E' fz' S' w'/\Rel E' fz' w' r v/\R r S':=by
  have stW:St E (fun b=>fz b\/g b) [] W:=⟨fun l o h=>by simp at h,fun l l' b ⟨o,q,_⟩=>by simp at q,fun b hb'=>hb'.elim (fun q=>Nat.lt_of_lt_of_le (st.Gi b q) hb.size) fun q=>(hg b q).2,st.fresh⟩
  refine ((h.out E _ W vals stW hr).calls hc).mono ?_;rintro e w' ⟨r,S',v,E',fz',h1,h2,h3,h4,h5⟩;refine ⟨r,S',v,E',fz',h1,⟨h2.env,fun b q=>h2.Yf b (.inl q),fun b q=>?_,fun b q _=>?_,fun b q=>?_,Nat.le_trans hb.size h2.size,h2.os.trans hb.os,h2.output.trans hb.output,⟨h2.tape.1.trans hb.tape,fun d=>absurd d hd⟩⟩,h3,h4,h5⟩
  · rcases h2.IE b q with (q | q) | q | q
    · exact .inl q
    · exact .inr (.inr (hg b q).1)
    · exact absurd q jG
    · exact .inr (.inr (Nat.le_trans hb.size q))
  · rw [h2.AW b (Nat.lt_of_lt_of_le q hb.size) jG,hb.block b q]
  · rcases h2.own b q with q | q
    · exact absurd q jG
    · exact .inr (Nat.le_trans hb.size q)
theorem mI {E:Env} {fz:Nat->Prop} {w:World} {b off:Nat} {l:List (Int×Int)} (h:Qi w b off (flat l)):Ck E fz w b off (l.flatMap fun s:Int×Int=>BP Hk s):=
  Ck.mk fun i x hx=>by
    have e: ∀(l:List (Int×Int)) (i:Nat) (x:AA),(l.flatMap fun s:Int×Int=>BP Hk s)[i]?=some x-> ∃z:Int,x= .int .i64 z/\(flat l)[i]?=some (.int .i64 z):=by
      intro l
      induction l with
      | nil=>intro i x h;simp at h
      | cons s l ih=>
        intro i x h;rw [ID];rw [List.flatMap_cons] at h
        match i,h with
        | 0,h=>exact ⟨s.1,by simpa [BP,HS] using h.symm,rfl⟩
        | 1,h=>exact ⟨s.2,by simpa [BP,HS] using h.symm,rfl⟩
        | i+2,h=>simpa using ih i x (by simpa [BP,HS] using h)
    obtain ⟨z,rfl,hz⟩:=e l i x hx;exact ⟨_,h i _ hz,rfl,by simp only [Rel]⟩
theorem Uh.below {w0:Nat} {l:List (Int×Int)} {v:Value} {w W:World} (h:Uh w0 l v w) (hb:Below w.heap.size w W):Uh w0 l v W:=by
  rcases h with h | ⟨b,base,c,cap,arr,tt,lo,hi,h1,h2,h3,h4,h5,h6,h7,h8,h9⟩
  · exact .inl h
  · have hlt:b<w.heap.size:=(Array.getElem?_eq_some_iff.1 h5).1
    exact .inr ⟨b,base,c,cap,arr,tt,lo,hi,h1,h2,h3,h4,by rw [hb.block b hlt];exact h5,h6,h7,fun j v hj=>by
      rw [World.cell?_of_block (a:=⟨b,base+j,none⟩) (hb.block b hlt)];exact h8 j v hj,h9⟩
theorem Uh.le {w0 w1:Nat} {l:List (Int×Int)} {v:Value} {w:World} (h:Uh w1 l v w) (hw:w0<=w1):Uh w0 l v w:=by
  rcases h with h | ⟨b,base,c,cap,arr,tt,lo,hi,h1,h2,h3,h4,h5,h6,h7,h8,h9⟩
  · exact .inl h
  · exact .inr ⟨b,base,c,cap,arr,tt,lo,hi,h1,h2,h3,Nat.le_trans hw h4,h5,h6,h7,h8,h9⟩
theorem Uh.lt {w0:Nat} {l:List (Int×Int)} {v:Value} {w:World} (h:Uh w0 l v w) {b base n c:Nat} (hv:v= .slice (some ⟨b,base,none⟩) n c) (hn:l≠[]):w0<=b/\b<w.heap.size:=by
  rcases h with h | ⟨b',base',c',cap,arr,tt,lo,hi,h1,h2,h3,h4,h5,h6,h7,h8,h9⟩
  · exact absurd h.1 hn
  · rw [hv] at h1
    simp only [Value.slice.injEq,Option.some.injEq,Addr.mk.injEq] at h1;obtain ⟨⟨rfl,_,_⟩,_,_⟩:=h1;exact ⟨h4,(Array.getElem?_eq_some_iff.1 h5).1⟩
def bu (l:List (Int×Int)) (s:Int×Int) (E:Env) (fz:Nat->Prop) (w:World) (e:Ending) (w':World):Prop:=
  ∃r S' v E' fz',e= .returned v/\Ext E fz [] w E' fz' S' w'/\St E' fz' S' w'/\Rel E' fz' w' r v/\qw DK.res (Fl l s) r S'
def rp (l:List (Int×Int)) (i:Nat) (s:Int×Int) (w0:Nat) (w:World) (e:Ending) (w':World):Prop:=
  ∃bI base c,e= .returned (.slice (some ⟨bI,base,none⟩) (l.length+1) c)/\l.length+1<=c/\w0<=bI/\bI<w'.heap.size/\Qi w' bI base (flat (EN l i s))/\Below w0 w w'
theorem r_ {l:List (Int×Int)} (hl:EO l): ∀i j:Nat,i<=j-> ∀s t,l[i]?=some s->l[j]?=some t->s.1<=t.1:=fun i j hij s t hs ht=>by
  have pw: ∀ {l:List Span} {a:Int},KJ a l->l.Pairwise fun a b=>a.1<=b.1:=by
    intro l
    induction l with
    | nil=>intro a _;exact .nil
    | cons s l ih=>
      intro a h;refine .cons (fun b hb=>?_) (ih h.2.2.2);have:=GS h.2.2.2 b hb;have:=h.2.1;omega
  obtain ⟨h1,e1⟩:=List.getElem?_eq_some_iff.1 hs;obtain ⟨h2,e2⟩:=List.getElem?_eq_some_iff.1 ht;rcases Nat.lt_or_ge i j with h | h
  · have:=List.pairwise_iff_getElem.1 (pw hl.2) i j h1 h2 h
    rw [e1,e2] at this;exact this
  · obtain rfl:i=j:=by omega
    rw [hs] at ht;cases ht;exact Int.le_refl _
set_option maxHeartbeats 8000000 in
set_option maxRecDepth 100000 in
theorem oO (hd: ¬Dm) (hJ:BV Tryz.prog 45 DK) (l:List (Int×Int)) (s:Int×Int) (hl:EO l) (hs:Fw s) (v:Value) {E:Env} {fz:Nat->Prop} (w:World) (st:St E fz [] w) (hv:gI l v w):
    Calls Tryz.prog 25 #[v,.agg #[.int .i64 s.1,.int .i64 s.2]] w (bu l s E fz w):=by
  have hm: ∀x∈l,Fw x:=fun x hx=>by
    have:=GS hl.2 x hx;exact ⟨by omega,by omega,this.2.2⟩
  have hlen:l.length<=100000:=hl.1;have hasc: ∀i j:Nat,i<=j-> ∀s t,l[i]?=some s->l[j]?=some t->s.1<=t.1:=r_ hl;have hbs: ∀W,Below w.heap.size w W->Calls Tryz.prog 43 #[v,.int .i64 s.1,.func (.func 44) #[] #[]] W fun e w'=> ∃(i:Nat) (f:Bool),e= .returned (.tuple #[.int .i64 i,.bool f])/\ui l s.1 i/\Below W.heap.size W w':=fun W hb=>
    ur l s.1 ⟨by have:=hs.1;omega,by have:=hs.2;omega⟩ (fun x hx=>⟨by have:=(hm x hx).1;omega,by have:=(hm x hx).2;omega⟩) (by omega) hasc v W (hv.below hb)
  have hins: ∀(i:Nat) u W vb,i<=l.length->Uh w.heap.size l u W->W.heap[vb]?=some (.cells #[.int .i64 s.1,.int .i64 s.2] 90 (0,0))->w.heap.size<=vb->(l≠[]-> ∀b base n c,u= .slice (some ⟨b,base,none⟩) n c->vb≠b)->
      Calls Tryz.prog 46 #[u,.int .i64 i,.slice (some ⟨vb,0,none⟩) 1 1] W (rp l i s w.heap.size W):=fun i u W vb hi h1 h2 h3 h4=>iX l i s hi hlen u w.heap.size W h1 vb h2 h3 h4
  have htl: ∀(i:Nat) W bI base c,ui l s.1 i->Below w.heap.size w W->l.length+1<=c->w.heap.size<=bI->bI<W.heap.size->Qi W bI base (flat (EN l i s))->Calls Tryz.prog 45 #[.slice (some ⟨bI,base,none⟩) (l.length+1) c] W (bu l s E fz w):=fun i W bI base c h0 h1 h2 h3 h4 h5=>by
    have hin:(EN l i s).length=l.length+1:=by
      have:=h0.1;unfold EN;simp only [List.length_append,List.length_take,List.length_singleton,List.length_drop];omega
    have hok:Ns (EN l i s):=s8 hl hs (by omega) (by have:=h0.1;omega)
      (fun j a b=>h0.2.1 j.toNat _ (by omega) (Ig a (by have:=h0.1;omega)))
      (fun j a b=>h0.2.2 j.toNat _ (by omega) (Ig (by omega) b))
    have hr:=(hJ.2 (EN l i s) hok).tail hJ.1 hd (g:=fun b=>b=bI) (vals:=[.slice (some ⟨bI,base,none⟩) (l.length+1) c]) st h1 (fun b hb=>by subst hb;exact ⟨h3,h4⟩)
      ⟨_,_,rfl,.inr ⟨bI,base,c,.inr rfl,Nat.le_trans (Nat.le_of_eq hin) h2,congrArg (fun n=>Value.slice (some ⟨bI,base,none⟩) n c) hin.symm,mI h5⟩,rfl⟩
    have e:DK.fn (EN l i s)=Fl l s:=iV;rw [e] at hr;exact hr
  have hvw:=Lib.hid hv;have hww:w.heap.size<(w.alloc (.cells #[.int .i64 s.1,.int .i64 s.2] 90)).heap.size:=by show w.heap.size<(w.heap.push _).size;rw [Array.size_push];omega
  have bw0:Below w.heap.size w (w.alloc (.cells #[.int .i64 s.1,.int .i64 s.2] 90)):=(Below.refl _ w).alloc (Nat.le_refl _) _;clear hv hm hasc
  go_enter Tryz.func25,Tryz.ntmps25
  go_wp2_with (go_at_call 43;refine (hbs _ bw0).mono ?_;rintro e W1 ⟨i,f,rfl,hi,hb1⟩)
  have bW1:Below w.heap.size w W1:=bw0.trans (hb1.mono (Nat.le_of_lt hww));have gW1:W1.heap[w.heap.size]?=some (.cells #[.int .i64 s.1,.int .i64 s.2] 90 (0,0)):=by
    rw [hb1.block _ hww];show (w.heap.push _)[w.heap.size]?=_;exact Array.getElem?_push_size
  have hc0:W1.cell? ⟨w.heap.size,0,none⟩=some (.int .i64 s.1):=by rw [Ce gW1];rfl
  have hc1:W1.cell? ⟨w.heap.size,1,none⟩=some (.int .i64 s.2):=by rw [Ce gW1];rfl
  have sW1:w.heap.size<W1.heap.size:=Nat.lt_of_lt_of_le hww hb1.size;have hcl: ∀W,Below W1.heap.size W1 W->Calls Tryz.prog 47 #[v] W fun e w'=> ∃u,e= .returned u/\Below W.heap.size W w'/\Uh W.heap.size l u w'/\w'.cell? ⟨w.heap.size,0,none⟩=some (.int .i64 s.1)/\w'.cell? ⟨w.heap.size,1,none⟩=some (.int .i64 s.2):=fun W hb=>by
    refine (lv l hlen v W (hvw.out.below (bW1.trans (hb.mono (Nat.le_of_lt sW1))))).mono ?_;rintro e w' ⟨u,rfl,k1,k2⟩;have kk:=(hb.trans (k1.mono hb.size)).block _ sW1;exact ⟨u,rfl,k1,k2,by rw [World.cell?_of_block (a:=⟨w.heap.size,0,none⟩) kk];exact hc0,by rw [World.cell?_of_block (a:=⟨w.heap.size,1,none⟩) kk];exact hc1⟩
  clear gW1;have sWa:W1.heap.size<(W1.alloc (.cells #[.int .i64 s.1,.int .i64 s.2] 90)).drew.heap.size:=by show W1.heap.size<(W1.heap.push _).size;rw [Array.size_push];omega
  go_region_with (first
    | (go_at_call 47;refine (hcl _ ?_).mono ?_;(first | exact Ht _ W1 | exact ((Below.refl _ W1).alloc (Nat.le_refl _) _).trans (Ht _ _));rintro e W2 ⟨u,rfl,hb2,hr2,q0,q1⟩)
    | (go_at_call 46;refine (hins i u _ _ hi.1 ?_ ?_ ?_ ?_).mono ?_
       (first | exact (hr2.below ((Below.refl _ W2).alloc (Nat.le_refl _) _)).le (Nat.le_of_lt sW1) | exact hr2.le (Nat.le_of_lt (Nat.lt_trans sW1 sWa)))
       (first | exact Array.getElem?_push_size | exact (hb2.block _ sWa).trans Array.getElem?_push_size)
       (first | exact Nat.le_of_lt sW1 | exact Nat.le_trans (Nat.le_of_lt sW1) hb2.size)
       (first | exact fun hn b base n c hu=>Nat.ne_of_gt (hr2.lt hu hn).2 | exact fun hn b base n c hu=>Nat.ne_of_lt (Nat.lt_of_lt_of_le sWa (hr2.lt hu hn).1))
       rintro e W3 ⟨bI,base,c,rfl,k1,k2,k3,k4,k5⟩)
    | (go_at_call 45;refine (htl i _ bI base c hi ?_ k1 k2 k3 k4).mono ?_
       (first | exact (((bW1.trans (Ht _ W1)).trans (hb2.mono (Nat.le_of_lt sW1))).trans ((Below.refl _ W2).alloc (Nat.le_trans (Nat.le_of_lt sW1) hb2.size) _)).trans k5 | exact ((bW1.trans (((Below.refl _ W1).alloc (Nat.le_of_lt sW1) _).trans (Ht _ _))).trans (hb2.mono (Nat.le_of_lt (Nat.lt_trans sW1 sWa)))).trans k5)
       rintro e W4 ⟨r,S',vv,E',fz',rfl,k6⟩))
  all_goals
    go_wp2
    go_ret
    exact ⟨r,S',vv,E',fz',rfl,k6⟩
theorem rY (hd: ¬Dm) (hJ:BV Tryz.prog 45 DK):BV Tryz.prog 25 DG:=by
  have hc:DC Tryz.prog 25=true:=by kernel_rfl
  refine ⟨hc,fun (x:List (Int×Int)×(Int×Int)) hx=>⟨fun E fz w vals st hrel=>.inl ⟨hc,?_⟩⟩⟩;obtain ⟨v1,_,rfl,h1,v2,_,rfl,⟨vs,rfl,⟨_,_,rfl,rfl,_,_,rfl,rfl,rfl⟩,_⟩,rfl⟩: ∃v1 us,vals=v1::us/\Rel E fz w (DV (.sl Hk) x.1) v1/\ ∃v2 us',us=v2::us'/\(∃vs:List Value,v2= .agg vs.toArray/\(∃a1 us1,vs=a1::us1/\a1= .int .i64 x.2.1/\ ∃a2 us2,us1=a2::us2/\a2= .int .i64 x.2.2/\us2=[])/\ ∀c∈vs,c.oneCell'=true)/\us'=[]:=hrel;have h1:(x.1.length=0/\ ∃a c,v1= .slice a 0 c)\/ ∃b off c,fz b/\x.1.length<=c/\v1= .slice (some ⟨b,off,none⟩) x.1.length c/\Ck E fz w b off (x.1.flatMap fun s:Int×Int=>BP Hk s):=h1;have hv:gI x.1 v1 w:=by
    rcases h1 with ⟨h0,a,c,rfl⟩ | ⟨b,off,c,k1,k2,rfl,k3⟩
    · exact .inl ⟨List.eq_nil_of_length_eq_zero h0,a,c,rfl⟩
    · obtain ⟨vs,r1,r2,r3⟩:=k3.read
      have hfl:=e9 x.1 vs r1;subst hfl;exact .inr ⟨b,off,c,rfl,k2,st.Gi b k1,r3⟩
  exact oO hd hJ x.1 x.2 hx.1 hx.2 v1 w st hv
end Go.Proofs
end
section
namespace Go.Vc
abbrev Hp:=List (Nat×Ob)
structure Mm (S:AB) (H:Hp):Prop where
 nd:(H.map (·.1)).Nodup
 at_: ∀p∈H,S[p.1]?=some p.2
theorem Mm.perm {S:AB} {H H':Hp} (h:Mm S H) (hp:H.Perm H'):Mm S H':=⟨(hp.map _).nodup_iff.1 h.nd,fun p hm=>h.at_ p (hp.mem_iff.2 hm)⟩
def HM:Type:=Quotient (List.isSetoid (Nat×Ob))
namespace HM
def of (l:Hp):HM:=Quotient.mk _ l
def nil:HM:=of []
def add (a b:HM):HM:=Quotient.liftOn₂ a b (fun x y=>of (x++y)) fun a b c d h1 h2=>Quotient.sound (List.Perm.append h1 h2)
instance:Add HM:=⟨add⟩
theorem qU (x y:Hp):of x+of y=of (x++y):=rfl
theorem tf {x y:Hp} (h:x.Perm y):of x=of y:=Quotient.sound h
theorem of_eq {x y:Hp} (h:of x=of y):x.Perm y:=Quotient.exact h
theorem ex (a:HM): ∃l,a=of l:=Quotient.inductionOn a fun l=>⟨l,rfl⟩
instance:Std.Associative (α:=HM) (· + ·):=⟨fun a b c=>by
 obtain ⟨x,rfl⟩:=a.ex;obtain ⟨y,rfl⟩:=b.ex;obtain ⟨z,rfl⟩:=c.ex;simp only [qU,List.append_assoc]⟩
instance:Std.Commutative (α:=HM) (· + ·):=⟨fun a b=>by
 obtain ⟨x,rfl⟩:=a.ex;obtain ⟨y,rfl⟩:=b.ex;simp only [qU];exact tf List.perm_append_comm⟩
theorem nil_add (a:HM):nil+a=a:=by obtain ⟨x,rfl⟩:=a.ex;rfl
theorem add_nil (a:HM):a+nil=a:=by obtain ⟨x,rfl⟩:=a.ex;show of (x++[])=_;rw [List.append_nil]
instance:Std.LawfulIdentity (α:=HM) (· + ·) nil:={left_id:=nil_add,right_id:=add_nil}
end HM
open HM
def pt (l:Nat) (o:Ob):HM:=of [(l,o)]
def Has (S:AB) (m:HM):Prop:=Quotient.liftOn m (Mm S) fun a b h=>propext ⟨fun q=>q.perm h,fun q=>q.perm h.symm⟩
section
variable {S : AB} {m a b R : HM} {l v k : Nat} {o o' : Ob} {cs : List AA}
theorem Has.nil:Has S HM.nil:=⟨.nil,fun p h=>by simp at h⟩
theorem Has.left (h:Has S (a+b)):Has S a:=by
 obtain ⟨x,rfl⟩:=a.ex;obtain ⟨y,rfl⟩:=b.ex;have h:Mm S (x++y):=h;exact ⟨h.nd.sublist ((List.sublist_append_left x y).map _),fun p hp=>h.at_ p (List.mem_append_left _ hp)⟩
theorem Has.comm (h:Has S (a+b)):Has S (b+a):=by rw [show b+a=a+b from Std.Commutative.comm _ _];exact h
theorem Has.right (h:Has S (a+b)):Has S b:=h.comm.left
theorem Has.get (h:Has S (pt l o+R)):S[l]?=some o:=by
 obtain ⟨x,rfl⟩:=R.ex;have h:Mm S ((l,o)::x):=h;exact h.at_ (l,o) (List.mem_cons_self ..)
theorem Has.put (h:Has S (pt l o+R)) (o':Ob):Has (S.set l o') (pt l o'+R):=by
 have hl:l<S.length:=(List.getElem?_eq_some_iff.1 h.get).1;obtain ⟨x,rfl⟩:=R.ex;have h:Mm S ((l,o)::x):=h;obtain ⟨h1,h2⟩:=List.nodup_cons.1 (by simpa using h.nd:(l::x.map (·.1)).Nodup);refine (⟨by simpa using ⟨fun a q=>h1 (List.mem_map.2 ⟨_,q,rfl⟩),h2⟩,fun p hp=>?_⟩:Mm _ ((l,o')::x));rcases List.mem_cons.1 hp with rfl | hp
 ·exact List.getElem?_set_self hl
 ·have hne:l≠p.1:=fun e=>h1 (List.mem_map.2 ⟨p,hp,e.symm⟩);rw [List.getElem?_set_ne hne];exact h.at_ p (List.mem_cons_of_mem _ hp)
theorem Has.more (h:Has S R) (o:Ob):Has (S++[o]) (pt S.length o+R):=by
 obtain ⟨x,rfl⟩:=R.ex;have h:Mm S x:=h;have hlt: ∀p∈x,p.1<S.length:=fun p hp=>(List.getElem?_eq_some_iff.1 (h.at_ p hp)).1;refine (⟨?_,fun p hp=>?_⟩:Mm _ ((S.length,o)::x))
 ·show (S.length::x.map (·.1)).Nodup;refine List.nodup_cons.2 ⟨fun hm=>?_,h.nd⟩;obtain ⟨p,hp,e⟩:=List.mem_map.1 hm;have:=hlt p hp;omega
 ·rcases List.mem_cons.1 hp with rfl | hp
  ·simp
  ·rw [List.getElem?_append_left (hlt p hp)];exact h.at_ p hp
theorem Has.cO (h:Has S R) (r:Nat):Has (S++List.replicate r .dead) R:=by
 obtain ⟨x,rfl⟩:=R.ex;have h:Mm S x:=h;show Mm (S++List.replicate r .dead) x;refine ⟨h.nd,fun p hp=>?_⟩;rw [List.getElem?_append_left (List.getElem?_eq_some_iff.1 (h.at_ p hp)).1];exact h.at_ p hp
theorem Has.eq {m':HM} (h:Has S m) (e:m=m'):Has S m':=e▸h
end
class At (m:HM) (l:Nat) (o:outParam Ob) (f:outParam (Ob->HM)):Prop where
 eq:m=f o
 split: ∃R,∀x,f x=pt l x+R
instance At.here {l:Nat} {o:Ob}:At (pt l o) l o (fun x=>pt l x):=⟨rfl,HM.nil,fun x=>(HM.add_nil _).symm⟩
instance At.inl {a b:HM} {l:Nat} {o:Ob} {f:Ob->HM} [h:At a l o f]:At (a+b) l o (fun x=>f x+b):=
 ⟨by rw [<-h.eq],by obtain ⟨R,hR⟩:=h.split;exact ⟨R+b,fun x=>by rw [hR];ac_rfl⟩⟩
instance At.inr {a b:HM} {l:Nat} {o:Ob} {f:Ob->HM} [h:At b l o f]:At (a+b) l o (fun x=>a+f x):=
 ⟨by rw [<-h.eq],by obtain ⟨R,hR⟩:=h.split;exact ⟨a+R,fun x=>by rw [hR];ac_rfl⟩⟩
class Part (m a:HM) (f:outParam (HM->HM)):Prop where
 eq:m=f a
 split: ∃R,∀x,f x=x+R
instance Part.here {a:HM}:Part a a (fun x=>x):=⟨rfl,HM.nil,fun x=>(HM.add_nil _).symm⟩
instance Part.inl {a b c:HM} {f:HM->HM} [h:Part a c f]:Part (a+b) c (fun x=>f x+b):=
 ⟨by rw [<-h.eq],by obtain ⟨R,hR⟩:=h.split;exact ⟨R+b,fun x=>by rw [hR];ac_rfl⟩⟩
instance Part.inr {a b c:HM} {f:HM->HM} [h:Part b c f]:Part (a+b) c (fun x=>a+f x):=
 ⟨by rw [<-h.eq],by obtain ⟨R,hR⟩:=h.split;exact ⟨a+R,fun x=>by rw [hR];ac_rfl⟩⟩
section
variable {S : AB} {m a : HM} {l v k : Nat} {o o' : Ob} {cs : List AA} {f : Ob -> HM} {g : HM -> HM}
theorem Has.here [i:At m l o f] (h:Has S m):S[l]?=some o:=by
 obtain ⟨R,hR⟩:=i.split;have h:=i.eq▸h;rw [hR] at h;exact h.get
theorem Has.row [i:At m l o f] (h:Has S m) {K:Nat->List AA->Prop} (ho:o= .row v k cs) (hk:K k cs):J9 S l v K:=AP.2 ⟨k,cs,by rw [h.here (l:=l),ho],hk⟩
theorem Has.rZ [i:At m l o f] (h:Has S m) {K:AB->Prop} (hk: ∀S',Has S' (f o')->K S'):Lv S l o' K:=by
 have hl:=h.here (l:=l);refine Cj.2 ⟨(List.getElem?_eq_some_iff.1 hl).1,hk _ ?_⟩;obtain ⟨R,hR⟩:=i.split;have h:=i.eq▸h;rw [hR] at h;rw [hR];exact h.put o'
theorem Has.SG (h:Has S m) {K:Nat->AB->Prop} (hk: ∀l S',Has S' (pt l o+m)->K l S'):Iw S o K:=A5.2 (hk _ _ (h.more o))
end
def HC (P:Program) (f:FuncId) (args:List AA) (m:HM) (R:AA->HM->Prop):Prop:=
 ∀S mf,Has S (m+mf)->AV P f args S fun r S'=> ∃m',R r m'/\Has S' (m'+mf)
theorem HC.use {P:Program} {f:FuncId} {args:List AA} {m a:HM} {R:AA->HM->Prop} {g:HM->HM} [i:Part m a g] (hc:HC P f args a R) {S:AB} (h:Has S m) {K:AA->AB->Prop} (hk: ∀r m' S',R r m'->Has S' (g m')->K r S'):AV P f args S K:=by
 obtain ⟨R0,hR⟩:=i.split;have h:=i.eq▸h;rw [hR] at h;exact (hc S R0 h).mono fun r S' ⟨m',h1,h2⟩=>hk r m' S' h1 (by rw [hR];exact h2)
theorem HC.mono {P:Program} {f:FuncId} {args:List AA} {m:HM} {R R':AA->HM->Prop} (h:HC P f args m R) (hr: ∀r m',R r m'->R' r m'):HC P f args m R':=
 fun S mf hS=>(h S mf hS).mono fun r S' ⟨m',h1,h2⟩=>⟨m',hr _ _ h1,h2⟩
theorem BV.plain {P:Program} {f:FuncId} {ct:Ct} (h:BV P f ct) (x:Ts ct.args) (hx:ct.pre x) (hv:Ld ct.res=true) {S:AB} {K:AA->AB->Prop} (hk:K (MT (Pc ct.res (ct.fn x))) S):AV P f (F5 ct.args x) S K:=by
 refine AV.use (Q:=fun r=>r=MT (Pc ct.res (ct.fn x))) ((h.2 x hx).mono fun r S' ⟨ys,h1,h2⟩=>?_) fun r e=>e▸hk;obtain ⟨e1,e2⟩:=bf _ _ _ hv h1;rw [h2,e1]
end Go.Vc
end
section
namespace Go.Vc
open HM
def Mu:AA->Option (List AA)
 | .agg cs=>some cs
 | .DH _=>none
 | .C3=>none
 | .bq _=>none
 | x=>some [x]
def rf (ag:Bool) (xs:List AA):Option AA:=match ag with | true=>some (.agg xs) | false=>(match xs with | [x]=>some x | _=>none)
def pk {α:Type}:List α->Nat->Bool
 | [],0=>true
 | _::l,n+1=>pk l n
 | _,_=>false
def xB {α:Type}:Nat->List α->Bool
 | 0,_=>true
 | n+1,_::l=>xB n l
 | _+1,[]=>false
theorem dX {α:Type}: ∀ {l:List α} {n:Nat},pk l n=true->l.length=n
 | [],0,_=>rfl
 | _::l,n+1,h=>by simp [dX (l:=l) (n:=n) h]
 | [],_+1,h=>by simp [pk] at h
 | _::_,0,h=>by simp [pk] at h
theorem kT {α:Type}: ∀ {n:Nat} {l:List α},xB n l=true->n<=l.length
 | 0,_,_=>Nat.zero_le _
 | n+1,_::l,h=>by have:=kT (n:=n) (l:=l) h;simp;omega
 | _+1,[],h=>by simp [xB] at h
def T7 (F:Frame) (cs:List AA):List (Nat×Nat×AO)->Option (List AA)
 | []=>some cs
 | (off,n,x)::rest=>match Mu (rd F x) with
  | some ys=>(match pk ys n,xB (off+n) cs with | true,true=>T7 F (setCells cs off ys) rest | _,_=>none)
  | none=>none
def Tr (k:IntKind) (n:Int):Prop×AA:=match k with | .i64=>(AQ n,.int .i64 n) | k=>(True,.int k (k.wrap n))
def s9 (op:BinOp) (k:IntKind) (a b:Int):Option (Prop×AA):=
 match op with
 | .add=>some (Tr k (a+b))
 | .sub=>some (Tr k (a-b))
 | .mul=>some (Tr k (a*b))
 | .quo=>some (b≠0/\(Tr k (a.tdiv b)).1,(Tr k (a.tdiv b)).2)
 | .rem=>some (b≠0,.int k (a.tmod b))
 | .eql=>some (True,.bool (decide (a=b)))
 | .neq=>some (True,.bool (!decide (a=b)))
 | .lss=>some (True,.bool (decide (a<b)))
 | .leq=>some (True,.bool (decide (a<=b)))
 | .gtr=>some (True,.bool (decide (b<a)))
 | .geq=>some (True,.bool (decide (b<=a)))
 | _=>none
def va (op:BinOp) (a b:List UInt8):Option (Prop×AA):=
 match op with
 | .add=>some (AQ (a.length+b.length),.str (a++b))
 | .eql=>some (True,.bool (decide (a=b)))
 | .neq=>some (True,.bool (!decide (a=b)))
 | .lss=>some (True,.bool (Op.bytesLess a b))
 | .leq=>some (True,.bool (Op.bytesLess a b || decide (a=b)))
 | .gtr=>some (True,.bool (!(Op.bytesLess a b || decide (a=b))))
 | .geq=>some (True,.bool (!Op.bytesLess a b))
 | _=>none
def uK (op:BinOp) (r:Bool):Option (Prop×AA):=match op with | .eql=>some (True,.bool r) | .neq=>some (True,.bool (!r)) | _=>none
def kB:IntKind->IntKind->Bool
 | .i8,.i8 | .u8,.u8 | .i16,.i16 | .u16,.u16 | .i32,.i32 | .u32,.u32 | .i64,.i64 | .u64,.u64=>true
 | _,_=>false
theorem u9 {a b:IntKind} (h:kB a b=true):a=b:=by cases a<;>cases b<;>simp_all [kB]
def uo (q:lN) (op:BinOp) (x y:AA):Option (Prop×AA):=
 match x,y with
 | .int k a,.int k' b=>(match op with
  | .shl=>none
  | .shr=>none
  | op=>(match kB k k' with | true=>s9 op k a b | false=>none))
 | .str a,.str b=>va op a b
 | .bool a,.bool b=>(match q with | .bool=>uK op (decide (a=b)) | _=>none)
 | .B4,.B4=>(match q with | .ptr=>uK op true | _=>none)
 | .ptr _ _ _,.B4=>(match q with | .ptr=>uK op false | _=>none)
 | .B4,.ptr _ _ _=>(match q with | .ptr=>uK op false | _=>none)
 | .GX _,.B4=>(match q with | .ptr=>uK op false | _=>none)
 | .B4,.GX _=>(match q with | .ptr=>uK op false | _=>none)
 | _,_=>none
section
variable {P : Program} {F : Frame} {S : AB} {K : AA -> AB -> Prop}
theorem VW {k:IntKind} {n:Int} {K:AA->Prop} (hp:(Tr k n).1) (h:K (Tr k n).2):f_ k n K:=by
 cases k<;>first | exact h | exact ⟨hp,h⟩
theorem s_ {op:BinOp} {k:IntKind} {a b:Int} {p:Prop} {r:AA} {K:AA->Prop} (hb:s9 op k a b=some (p,r)) (hp:p) (h:K r):JE op k a b K:=by
 cases op<;>simp only [s9] at hb<;>first | cases hb | skip
 all_goals (try (simp only [Option.some.injEq,Prod.mk.injEq] at hb;obtain ⟨rfl,rfl⟩:=hb))
 all_goals first
  | exact h
  | exact ⟨hp,h⟩
  | (simp only [Option.some.injEq] at hb;rw [Prod.ext_iff] at hb;obtain ⟨e1,e2⟩:=hb;simp only at e1 e2;subst e1 e2;exact VW hp h)
  | exact ⟨hp.1,VW hp.2 h⟩
theorem uC {op:BinOp} {a b:List UInt8} {p:Prop} {r:AA} {K:AA->Prop} (hb:va op a b=some (p,r)) (hp:p) (h:K r):NJ op a b K:=by
 cases op<;>simp only [va,Option.some.injEq,Prod.mk.injEq] at hb<;>first | cases hb;done | skip
 all_goals (obtain ⟨rfl,rfl⟩:=hb;first | exact h | exact ⟨hp,h⟩)
theorem pG {op:BinOp} {b:Bool} {p:Prop} {r:AA} {K:AA->Prop} (hb:uK op b=some (p,r)) (hp:p) (h:K r):YR op b K:=by
 cases op<;>simp only [uK,Option.some.injEq,Prod.mk.injEq] at hb<;>first | cases hb;done | skip
 all_goals (obtain ⟨rfl,rfl⟩:=hb;exact h)
theorem sD {q:lN} {op:BinOp} {x y:AA} {p:Prop} {r:AA} {K:AA->Prop} (hb:uo q op x y=some (p,r)) (hp:p) (h:K r):HI q op x y K:=by
 unfold uo at hb;split at hb
 ·rename_i k a k' b;have: ∀o:BinOp,o≠ .shl->o≠ .shr->(match kB k k' with | true=>s9 o k a b | false=>none)=some (p,r)->k=k'/\JE o k a b K:=fun o h1 h2 hb=>by
   cases hk:kB k k' with
   | false=>rw [hk] at hb;cases hb
   | true=>rw [hk] at hb;exact ⟨u9 hk,s_ hb hp h⟩
  cases op<;>first | (cases hb;done) | exact this _ (by simp) (by simp) hb
 ·exact uC hb hp h
 ·rename_i a b;cases q<;>first | (cases hb;done) | exact pG hb hp h
 all_goals (cases q<;>first | (cases hb;done) | exact pG hb hp h)
theorem SK {x:AA} {ys:List AA} {K:List AA->Prop} (h:Mu x=some ys) (hk:K ys):HR x K:=by
 cases x<;>simp only [Mu,Option.some.injEq] at h<;>first | (cases h;done) | (subst h;exact hk)
theorem RG {K:List AA->Prop}: ∀ {ps:List (Nat×Nat×AO)} {cs cs':List AA},T7 F cs ps=some cs'->K cs'->KC F cs K ps
 | [],cs,cs',h,hk=>by simp only [T7] at h;cases h;exact hk
 | (off,n,x)::rest,cs,cs',h,hk=>by
  simp only [T7] at h;split at h
  ·rename_i ys hy;split at h
   ·rename_i h1 h2;simp only [KC,AD];exact SK hy ⟨dX h1,kT h2,GH.2 (RG h hk)⟩
   ·cases h
  ·cases h
theorem Lj {ag:Bool} {xs:List AA} {x:AA} {K:AA->Prop} (h:rf ag xs=some x) (hk:K x):Lk ag xs K:=by
 cases ag
 ·simp only [rf] at h;split at h
  ·cases h;exact hk
  ·cases h
 ·cases h;exact hk
variable {m : HM} {l v k off n : Nat} {o : Ob} {f : Ob -> HM} {cs xs ys : List AA} {x y z : AO} {r : AA} {ag : Bool} {d : Option Nat} {Lg : List (Nat × Nat × Bool × AO)}
theorem Am (h:K (rd F x) S):AF P F S K (.CD x):=AD.2 h
theorem qQ (hS:Has S m) (h: ∀v l S',Has S' (pt l (.row v k [])+m)->K (.sl l v 0 0) S'):AF P F S K (.DE k):=fun v=>hS.SG fun l S'=>h v l S'
theorem tN {z:List AA} (hS:Has S m) (h: ∀v l S',Has S' (pt l (.row v k z)+m)->K (.ptr l v 0) S'):AF P F S K (.alloc k z):=fun v=>hS.SG fun l S'=>h v l S'
theorem wW (hS:Has S m) (hc:Mu (rd F x)=some ys) (h: ∀v l S',Has S' (pt l (.row v k ys)+m)->K (.ptr l v 0) S'):AF P F S K (.box k x):=AD.2 (SK hc fun v=>hS.SG fun l S'=>h v l S')
theorem tQ {z:List AA} {ps:List (Nat×Nat×AO)} (hf:T7 F z ps=some ys) (h:K (.agg ys) S):AF P F S K (.build z ps):=RG hf h
theorem nG {len:Nat} {z:List AA} {ps:List (Nat×Nat×AO)} (hf:T7 F z ps=some ys) (h:K (.Ez len ys) S):AF P F S K (.Ax true len k z ps):=RG hf h
theorem nH {len:Nat} {z:List AA} {ps:List (Nat×Nat×AO)} (hS:Has S m) (hf:T7 F z ps=some ys) (h: ∀v l S',Has S' (pt l (.row v k ys)+m)->K (.sl l v 0 len) S'):AF P F S K (.Ax false len k z ps):=RG hf fun v=>hS.SG fun l S'=>h v l S'
theorem Lm (hS:Has S m) (hx:rd F x= .ptr l v off) [i:At m l o f] (ho:o= .row v k cs) (ht:takeN n (cs.drop off)=some xs) (hm:rf ag xs=some r) (h:K r S):AF P F S K (.load n ag x):=by
 refine AD.2 ?_;rw [hx];refine hS.row ho ?_;cases k with
 | zero=>exact Cn.2 (Dz.2 ⟨xs,ht,Lj hm h⟩)
 | succ k=>exact ⟨xs,ht,Lj hm h⟩
theorem kZ (hx:rd F x= .GX cs) (ht:takeN n cs=some xs) (hm:rf ag xs=some r) (h:K r S):AF P F S K (.load n ag x):=by
 refine AD.2 ?_;rw [hx];exact Dz.2 ⟨xs,ht,Lj hm h⟩
theorem G4 (hS:Has S m) (hx:rd F x= .ptr l v off) [i:At m l o f] (ho:o= .row v k cs) (hc:Mu (rd F y)=some ys) (hn:ys.length=n) (hle:off+n<=cs.length) (h: ∀S',Has S' (f (.row v k (setCells cs off ys)))->K .C3 S'):AF P F S K (.store n x y):=by
 refine AD.2 ?_;rw [hx];refine hS.row ho (AD.2 (SK hc ⟨hn,hle,Fo.2 (hS.rZ fun S' hS'=>h S' hS')⟩))
theorem eB (hx:rd F x= .ptr l v off) (h:K (.ptr l v off) S):AF P F S K (.Fg x):=by refine AD.2 ?_;rw [hx];exact h
theorem nM (hx:rd F x= .GX cs) (h:K (.GX cs) S):AF P F S K (.Fg x):=by refine AD.2 ?_;rw [hx];exact h
theorem nK {g:FuncId} {a b:List AA} (hx:rd F x= .fn (.func g) a b) (h:K (.fn (.func g) a b) S):AF P F S K (.Fg x):=by refine AD.2 ?_;rw [hx];exact h
theorem nL (hx:rd F x= .map l v) (h:K (.map l v) S):AF P F S K (.Fg x):=by refine AD.2 ?_;rw [hx];exact h
theorem wV {q:lN} {op:BinOp} {p:Prop} (hb:uo q op (rd F x) (rd F y)=some (p,r)) (hp:p) (h:K r S):AF P F S K (.bin q op x y):=AD.2 (AD.2 (sD hb hp h))
theorem wb {b:Bool} (hx:rd F x= .bool b) (h:K (.bool (!b)) S):AF P F S K (.not x):=by refine AD.2 ?_;rw [hx];exact h
theorem td {s:List UInt8} (hx:rd F x= .str s) (h:K (.str s) S):AF P F S K (.Od x):=by refine AD.2 ?_;rw [hx];exact h
theorem wa {ik:IntKind} {a:Int} (hx:rd F x= .int ik a) (hp:(Tr ik (0-a)).1) (h:K (Tr ik (0-a)).2 S):AF P F S K (.neg x):=by refine AD.2 ?_;rw [hx];exact VW (K:=fun r=>K r S) hp h
theorem vE {ik jk:IntKind} {a:Int} (hx:rd F x= .int ik a) (hp:(Tr jk a).1) (h:K (Tr jk a).2 S):AF P F S K (.conv jk x):=by refine AD.2 ?_;rw [hx];exact VW (K:=fun r=>K r S) hp h
theorem nJ {b:Nat} {z:List AA} {ik:IntKind} (hS:Has S m) (hx:rd F x= .int ik (n:Int)) (hy:rd F y=rd F x) (hb:b*n<=140737488355328) (h: ∀v l S',Has S' (pt l (.row v k (List.replicate n z).flatten)+m)->K (.sl l v 0 n) S'):AF P F S K (.Hq k b z x y):=by
 refine AD.2 (AD.2 ?_);rw [hy,hx];exact ⟨n,rfl,.inl rfl,hb,fun v=>hS.SG fun l S'=>h v l S'⟩
def ru (F:Frame):Option AO->Nat->Prop
 | none,j=>j=0
 | some r,j=> ∃k,rd F r= .int k (j:Int)
def rq (F:Frame) (n:Nat):Option AO->Nat->Prop
 | none,j=>j=n
 | some r,j=> ∃k,rd F r= .int k (j:Int)
theorem rV {lo:Option AO} {j:Nat} {K:Nat->Prop} (h:ru F lo j) (hk:K j):X_ F lo K:=by
 cases lo with
 | none=>simp only [ru] at h;subst h;exact hk
 | some r=>obtain ⟨k,h⟩:=h;refine AD.2 ?_;rw [h];exact ⟨j,rfl,hk⟩
theorem rU {hi:Option AO} {n j:Nat} {K:Nat->Prop} (h:rq F n hi j) (hk:K j):ZS F n hi K:=by
 cases hi with
 | none=>simp only [rq] at h;subst h;exact hk
 | some r=>obtain ⟨k,h⟩:=h;refine AD.2 ?_;rw [h];exact ⟨j,rfl,hk⟩
variable {lo hi : Option AO} {j h' : Nat}
theorem WZ {s:List UInt8} (hx:rd F x= .str s) (hh:rq F s.length hi h') (hl:ru F lo j) (h1:j<=h') (h2:h'<=s.length) (h:K (.str ((s.take h').drop j)) S):AF P F S K (.slice 0 x lo hi):=by
 refine AD.2 ?_;rw [hx];exact rU hh (rV hl ⟨h1,h2,h⟩)
theorem VQ (hS:Has S m) (hx:rd F x= .sl l v off n) [i:At m l o f] (ho:o= .row v (k+1) cs) (hh:rq F n hi h') (hl:ru F lo j) (h1:j<=h') (h2:h'<=n) (h:K (.sl l v (off+j*(k+1)) (h'-j)) S):AF P F S K (.slice (k+1) x lo hi):=by
 refine AD.2 ?_;rw [hx];exact rU hh (rV hl ⟨h1,h2,hS.row ho ⟨rfl,h⟩⟩)
theorem kY (hx:rd F x= .ptr l v n) (h:K (.ptr l v (n+off)) S):AF P F S K (.Bo off x):=by refine AD.2 ?_;rw [hx];exact h
theorem qF (hx:rd F x= .GX cs) (h:K (.GX (cs.drop off)) S):AF P F S K (.Bo off x):=by refine AD.2 ?_;rw [hx];exact Cn.2 h
theorem tS (hx:rd F x= .agg cs) (ht:takeN n (cs.drop off)=some xs) (hm:rf ag xs=some r) (h:K r S):AF P F S K (.field off n ag x):=by
 refine AD.2 ?_;rw [hx];exact Cn.2 (Dz.2 ⟨xs,ht,Lj hm h⟩)
theorem ah {ik:IntKind} (hS:Has S m) (hx:rd F x= .sl l v off n) (hy:rd F y= .int ik (j:Int)) [i:At m l o f] (ho:o= .row v k cs) (hj:j<n) (h:K (.ptr l v (off+j*k)) S):AF P F S K (.DT k none x y):=by
 refine AD.2 (AD.2 ?_);rw [hx,hy];exact ⟨j,rfl,hj,hS.row ho ⟨.inl rfl,h⟩⟩
theorem qG {ik:IntKind} (hS:Has S m) (hx:rd F x= .sl l v off n) (hy:rd F y= .int ik (j:Int)) [i:At m l o f] (ho:o= .row v 0 cs) (hj:j<n) (h:K (.ptr l v (off+j*k)) S):AF P F S K (.DT k none x y):=by
 refine AD.2 (AD.2 ?_);rw [hx,hy];exact ⟨j,rfl,hj,hS.row ho ⟨.inr rfl,h⟩⟩
theorem WX (hS:Has S m) (hx:rd F x= .ptr l v off) [i:At m l o f] (ho:o= .row v 0 cs) (hj:off+n<=cs.length) (h:K (.sl l v off n) S):AF P F S K (.Ms n x):=by
 refine AD.2 ?_;rw [hx];exact hS.row ho ⟨rfl,hj,h⟩
theorem WY {ik:IntKind} (hx:rd F x= .Ez n cs) (hy:rd F y= .int ik (j:Int)) (hj:j<n) (ht:takeN k (cs.drop (j*k))=some xs) (h:K (.GX xs) S):AF P F S K (.DT k none x y):=by
 refine AD.2 (AD.2 ?_);rw [hx,hy];exact ⟨j,rfl,hj,xs,ht,h⟩
theorem Jj {ik:IntKind} (hx:rd F x= .ptr l v off) (hy:rd F y= .int ik (j:Int)) (hj:j<n) (h:K (.ptr l v (off+j*k)) S):AF P F S K (.DT k (some n) x y):=by
 refine AD.2 (AD.2 ?_);rw [hx,hy];exact ⟨j,rfl,hj,h⟩
theorem nI {ik:IntKind} (hx:rd F x= .GX cs) (hy:rd F y= .int ik (j:Int)) (hj:j<n) (h:K (.GX (cs.drop (j*k))) S):AF P F S K (.DT k (some n) x y):=by
 refine AD.2 (AD.2 ?_);rw [hx,hy];exact ⟨j,rfl,hj,h⟩
theorem qI {s:List UInt8} {c:UInt8} {ik:IntKind} (hx:rd F x= .str s) (hy:rd F y= .int ik (j:Int)) (hj:s[j]?=some c) (h:K (.int .u8 (c.toNat:Int)) S):AF P F S K (.index k none ag x y):=by
 refine AD.2 (AD.2 ?_);rw [hx,hy];exact ⟨j,rfl,c,hj,h⟩
theorem qH {ik:IntKind} (hx:rd F x= .agg cs) (hy:rd F y= .int ik (j:Int)) (hj:j<n) (ht:takeN k (cs.drop (j*k))=some xs) (hm:rf ag xs=some r) (h:K r S):AF P F S K (.index k (some n) ag x y):=by
 refine AD.2 (AD.2 ?_);rw [hx,hy];exact ⟨j,rfl,hj,xs,ht,Lj hm h⟩
def dY:Bool->AA->Option Nat
 | true,.str s=>some s.length
 | false,.Ez n _=>some n
 | false,.sl _ _ _ n=>some n
 | false,.AL=>some 0
 | _,_=>none
theorem Ri {b:Bool} (hx:dY b (rd F x)=some n) (h:K (.int .i64 (n:Int)) S):AF P F S K (.len b x):=by
 refine AD.2 ?_;generalize rd F x=X at*;cases b<;>cases X<;>simp only [dY,Option.some.injEq] at hx<;>first | (cases hx;done) | (subst hx;exact h)
def DL (m:HM) (k:Nat) (x:AA) (n:Nat) (ys:List AA):Prop:=
 match x with
 | .AL=>n=0/\ys=[]
 | .Ez n' cs=>n=n'/\n*k<=cs.length/\ys=cs.take (n*k)
 | .sl l v off n'=>n=n'/\ ∃cs f o,At m l o f/\o= .row v k cs/\off+n*k<=cs.length/\ys=A6 cs off (n*k)
 | .str s=>k=1/\n=s.length/\ys=s.map fun c=>.int .u8 c.toNat
 | _=>False
theorem DL.ok {X:AA} (hS:Has S m) {K:Nat->List AA->Prop} (h:DL m k X n ys) (hk:K n ys):Nh S k X K:=by
 cases X<;>simp only [DL] at h<;>first | exact h.elim | skip
 ·obtain ⟨h1,rfl,rfl⟩:=h;exact ⟨h1,hk⟩
 ·obtain ⟨rfl,rfl⟩:=h;exact hk
 ·obtain ⟨rfl,cs,f,o,hi,ho,h1,rfl⟩:=h;exact hS.row ho ⟨h1,hk⟩
 ·obtain ⟨rfl,h1,rfl⟩:=h;exact ⟨h1,hk⟩
theorem TA {b:Nat} (hS:Has S m) (hx:rd F x= .AL) (hy:DL m k (rd F y) n ys) (hb:n*b<=140737488355328) (h: ∀v l S',Has S' (pt l (.row v k ys)+m)->K (.sl l v 0 n) S'):AF P F S K (.append k b x y):=by
 refine AD.2 (AD.2 (hy.ok hS ?_));rw [hx];exact ⟨hb,fun v=>hS.SG fun l S'=>h v l S'⟩
theorem WW {b len:Nat} (hS:Has S m) (hx:rd F x= .sl l v off len) (hy:DL m k (rd F y) n ys) [i:At m l o f] (ho:o= .row v k cs) (hle:off+len*k<=cs.length) (hb:(len+n)*b<=140737488355328) (h: ∀v' S',Has S' (f (.row v' k (A6 cs off (len*k)++ys)))->K (.sl l v' 0 (len+n)) S'):AF P F S K (.append k b x y):=by
 refine AD.2 (AD.2 (hy.ok hS ?_));rw [hx];exact hS.row ho ⟨rfl,hle,hb,fun v'=>hS.rZ fun S'=>h v' S'⟩
theorem ND {xs:List AO} {K:List AA->Prop} (h:K (xs.map (rd F))):Ng F xs K:=Ar.2 h
theorem qM {g:Fn} {a b:List AO} (h:K (.fn g (a.map (rd F)) (b.map (rd F))) S):AF P F S K (.HJ g a b):=ND (ND h)
theorem Yx (hx:rd F x= .DH xs) (hj:xs.drop j=r::ys) (h:K r S):AF P F S K (.extract x j):=by
 refine AD.2 ?_;rw [hx];refine Cn.2 ?_;rw [hj];exact h
theorem vD {g:FuncId} {yV:List AO} (h:AV P g (yV.map (rd F)) S K):AF P F S K (.call g yV):=ND h
theorem af {g:FuncId} {yV:List AO} {cap:List AA} (hx:rd F x= .fn (.func g) [] cap) (h:AV P g (yV.map (rd F)++cap) S K):AF P F S K (.GZ x yV):=by
 refine AD.2 ?_;rw [hx];exact ⟨trivial,ND h⟩
theorem qJ {neg:Bool} (hx:rd F x= .AL) (h:K (.bool (!neg)) S):AF P F S K (.HB neg x):=by refine AD.2 ?_;rw [hx];exact h
theorem tT {neg:Bool} (hx:rd F x= .sl l v off n) (h: ∀b:Bool,(b=true->n=0)->K (.bool (b != neg)) S):AF P F S K (.HB neg x):=by refine AD.2 ?_;rw [hx];exact h
end
section
variable {P : Program} {F : Frame} {S : AB} {K : Frame -> AB -> Prop} {d : Option Nat} {op : EL} {g : Bool} {Lg : List (Nat × Nat × Bool × AO)} {rest : List C9} {gd j : Nat} {w : Bool} {xs : List AA}
theorem uX (h:K F S):BK P K [] F S:=h
theorem AX (h:AF P F S (fun x S'=>Ao g x fun x=>BK P K rest (AK F d x) S') op):BK P K (⟨d,op,none,g,Lg⟩::rest) F S:=h
theorem tk (hg:F.get gd= .tt) (h:AF P F S (fun x S'=>Ao g x fun x=>BK P K rest (AK F d x) S') op):BK P K (⟨d,op,some (gd,true),g,Lg⟩::rest) F S:=by
 refine Bj.2 ?_;rw [hg];exact h
theorem tj (hg:F.get gd= .ff) (h:AF P F S (fun x S'=>Ao g x fun x=>BK P K rest (AK F d x) S') op):BK P K (⟨d,op,some (gd,false),g,Lg⟩::rest) F S:=by
 refine Bj.2 ?_;rw [hg];exact h
theorem xl (hg:F.get gd= .ff) (h:BK P K rest (AK F d (.DH [])) S):BK P K (⟨d,op,some (gd,true),g,Lg⟩::rest) F S:=by
 refine Bj.2 ?_;rw [hg];exact h
theorem xj (hg:F.get gd= .tt) (h:BK P K rest (AK F d (.DH [])) S):BK P K (⟨d,op,some (gd,false),g,Lg⟩::rest) F S:=by
 refine Bj.2 ?_;rw [hg];exact h
theorem xm (hg:F.get gd= .DH xs) (h:BK P K rest (AK F d (.DH [])) S):BK P K (⟨d,op,some (gd,w),g,Lg⟩::rest) F S:=by
 refine Bj.2 ?_;rw [hg];exact h
theorem uy {l:List C9} (h:BK P K l F S):Aj P K 0 l F S:=h
theorem wK (h:K F S):Aj P K (j+1) [] F S:=h
theorem o6 (h:DI P F S (fun x S'=>Ao g x fun x=>Aj P K j rest (AK F d x) S') op):Aj P K (j+1) (⟨d,op,none,g,Lg⟩::rest) F S:=h
theorem xN (hg:F.get gd= .tt) (h:DI P F S (fun x S'=>Ao g x fun x=>Aj P K j rest (AK F d x) S') op):Aj P K (j+1) (⟨d,op,some (gd,true),g,Lg⟩::rest) F S:=by
 refine Bj.2 ?_;rw [hg];exact h
theorem xJ (hg:F.get gd= .ff) (h:DI P F S (fun x S'=>Ao g x fun x=>Aj P K j rest (AK F d x) S') op):Aj P K (j+1) (⟨d,op,some (gd,false),g,Lg⟩::rest) F S:=by
 refine Bj.2 ?_;rw [hg];exact h
theorem xL (hg:F.get gd= .ff) (h:Aj P K j rest (AK F d (.DH [])) S):Aj P K (j+1) (⟨d,op,some (gd,true),g,Lg⟩::rest) F S:=by
 refine Bj.2 ?_;rw [hg];exact h
theorem xK (hg:F.get gd= .tt) (h:Aj P K j rest (AK F d (.DH [])) S):Aj P K (j+1) (⟨d,op,some (gd,false),g,Lg⟩::rest) F S:=by
 refine Bj.2 ?_;rw [hg];exact h
theorem xM (hg:F.get gd= .DH xs) (h:Aj P K j rest (AK F d (.DH [])) S):Aj P K (j+1) (⟨d,op,some (gd,w),g,Lg⟩::rest) F S:=by
 refine Bj.2 ?_;rw [hg];exact h
theorem Dj {x:AA} {K:AA->Prop} (h:K x):Ao false x K:=h
theorem BF {p:Prop} [Decidable p] {K:AA->Prop} (ht:p->K .tt) (hf: ¬p->K .ff):Ao true (.bool (decide p)) K:=⟨fun h=>ht (of_decide_eq_true h),fun h=>hf (of_decide_eq_false h)⟩
theorem EU {b:Bool} {K:AA->Prop} (ht:b=true->K .tt) (hf:b=false->K .ff):Ao true (.bool b) K:=⟨ht,hf⟩
end
section
variable {P : Program} {F : Frame} {S : AB} {K : AA -> AB -> Prop}
theorem qj {so:EL} (hq:so.Dd=false) (h:AF P F S K so):DI P F S K so:=by rw [Mk hq];exact h
theorem qi {g:FuncId} {yV:List AO} (r0:AA) (h:AV P g (yV.map (rd F)) S (fun r S'=>r=r0/\S'=S)) (hk:K r0 S):DI P F S K (.call g yV):=Ar.2 ⟨r0,h,hk⟩
end
section
variable {P : Program} {F : Frame} {S : AB} {Q : Be -> Frame -> AB -> Prop} {a b : Ag} {x : AO} {AW W : List Nat} {n id : Nat} {l : List C9}
theorem wF {ks:List Nat} (h:BK P (fun F' S'=>Kh ks F' fun F''=>Q .normal F'' S') l F S):vc P (.ops l none ks) Q F S:=h
theorem gS {d:Nat×Nat×List Nat} {ks:List Nat} (h:Aj P (fun F' S'=>Kh ks F' fun F''=>Q .normal F'' S') d.1 l F (S++List.replicate d.2.1 .dead)):vc P (.ops l (some d) ks) Q F S:=h
theorem Cw {m:HM} {j:Nat} {π ks:List Nat} (hS:Has S m) (h: ∀S',Has S' m->Aj P (fun F' S'=>Kh ks F' fun F''=>Q .normal F'' S') j l F S'):vc P (.ops l (some (j,0,π)) ks) Q F S:=gS (h _ (hS.cO _))
theorem wH (h:vc P a (Be.D_ (vc P b Q) Q) F S):vc P (.seq a b) Q F S:=h
theorem uw (h:Q .normal F S):vc P .skip Q F S:=h
theorem wG (h:Q .ret F S):vc P .ret Q F S:=h
theorem uv (h:Q (.exit id) F S):vc P (.exit id) Q F S:=h
theorem sH (h:vc P a (Be.Hr id Q) F S):vc P (.block id a) Q F S:=h
theorem Av {p:Prop} [Decidable p] (hx:rd F x= .bool (decide p)) (ht:p->vc P a Q F S) (hf: ¬p->vc P b Q F S):vc P (.cond x a b) Q F S:=by
 refine AD.2 ?_;rw [hx];exact ⟨fun h=>ht (of_decide_eq_true h),fun h=>hf (of_decide_eq_false h)⟩
theorem gR {p:Prop} [Decidable p] (hx:rd F x= .bool (!decide p)) (ht: ¬p->vc P a Q F S) (hf:p->vc P b Q F S):vc P (.cond x a b) Q F S:=by
 refine AD.2 ?_;rw [hx];exact ⟨fun h=>ht (by simpa using h),fun h=>hf (by simpa using h)⟩
theorem BS {c:Bool} (hx:rd F x= .bool c) (ht:c=true->vc P a Q F S) (hf:c=false->vc P b Q F S):vc P (.cond x a b) Q F S:=by
 refine AD.2 ?_;rw [hx];exact ⟨ht,hf⟩
theorem gQ {ks:List Nat} {K:Frame->Prop} (h:K (ks.map fun t=>(t,F.get t))):Kh ks F K:=Fh.2 h
theorem Hu (h: ∀K:List AA->AB->Prop,(∀xs os,xs.length=W.length->vc P b Q (Er W xs (AW.map fun t=>(t,F.get t))) os->K xs os)->vc P a (Be.D_ (fun F' S'=>K (W.map F'.get) S') Q) F S):vc P (.join AW W n a b) Q F S:=by
 intro K hK;have hK':=Fh.1 hK;have:=h K fun xs os hl hv=>(KX.1 hK') xs hl os hv;have e:(fun F' S'=>T_ W F' fun xs=>K xs S')=fun F' S'=>K (W.map F'.get) S':=by funext F' S';exact propext FY
 rw [e];exact this
theorem GY (I:Nat->List AA->AB->Prop) (k:Nat) (h0:I k (W.map F.get) S) (h: ∀k xs os,xs.length=W.length->I k xs os->vc P a (Be.D_ (fun F' S'=> ∃k',k'<k/\I k' (W.map F'.get) S') Q) (Er W xs (AW.map fun t=>(t,F.get t))) os):vc P (.loop AW W n a) Q F S:=by
 refine ⟨I,FY.2 ⟨k,h0⟩,Fh.2 (KX.2 fun xs hl k os hI=>?_)⟩;have:=h k xs os hl hI;have e:(fun F' S'=>T_ W F' fun ys=> ∃k',k'<k/\I k' ys S')=fun F' S'=> ∃k',k'<k/\I k' (W.map F'.get) S':=by funext F' S';exact propext FY
 rw [e];exact this
theorem xg {N:Frame->AB->Prop} (h:N F S):Be.D_ N Q .normal F S:=h
theorem xh {N:Frame->AB->Prop} (h:Q .ret F S):Be.D_ N Q .ret F S:=h
theorem xf {N:Frame->AB->Prop} (h:Q (.exit id) F S):Be.D_ N Q (.exit id) F S:=h
theorem xW (h:Q .normal F S):Be.Hr id Q .normal F S:=h
theorem xX (h:Q .ret F S):Be.Hr id Q .ret F S:=h
theorem xV (h:Q .normal F S):Be.Hr id Q (.exit id) F S:=by simp only [Be.Hr,Nat.beq_refl];exact h
theorem xY {j:Nat} (hn:Nat.beq j id=false) (h:Q (.exit j) F S):Be.Hr id Q (.exit j) F S:=by simp only [Be.Hr,hn];exact h
end
theorem w5 {F:Frame} {S:AB} {K:List AA->Prop} (h:K []):Ju F S K []:=h
theorem w6 {F:Frame} {S:AB} {K:List AA->Prop} {t:Nat} {rs:List LS} (h:Ju F S (fun xs=>K (F.get t::xs)) rs):Ju F S K (.tmp t::rs):=Bj.2 h
theorem vn {F:Frame} {S:AB} {K:List AA->Prop} {t n:Nat} {ag:Bool} {rs:List LS} {m:HM} {l v off k:Nat} {o:Ob} {f:Ob->HM} {cs xs:List AA} {r:AA} (hS:Has S m) (hx:F.get t= .ptr l v off) [i:At m l o f] (ho:o= .row v k cs) (ht:takeN n (cs.drop off)=some xs) (hm:rf ag xs=some r) (h:Ju F S (fun xs=>K (r::xs)) rs):Ju F S K (.cell t n ag::rs):=by
 refine Bj.2 ?_;rw [hx];refine hS.row ho ?_;cases k with
 | zero=>exact Cn.2 (Dz.2 ⟨xs,ht,Lj hm h⟩)
 | succ k=>exact ⟨xs,ht,Lj hm h⟩
end Go.Vc
end
section
namespace Go.Vc
open HM
theorem Has.wT {S:AB} {a b c:HM} (h:Has S (a+(b+c))):Has S (a+c):=(h.eq (m':=b+(a+c)) (by ac_rfl)).right
def Ed (k:Nat) (x:AA) (cells:List AA) (n:Nat) (m:HM):Prop:=
 (x= .AL/\n=0/\cells=[]/\m=HM.nil)\/ ∃p v off cs,x= .sl p v off n/\m=pt p (.row v k cs)/\off+n*k<=cs.length/\cells=A6 cs off (n*k)
section
variable {k n : Nat} {x : AA} {cells cs ys : List AA} {m : HM}
theorem Ed.nil:Ed k .AL [] 0 HM.nil:= .inl ⟨rfl,rfl,rfl,rfl⟩
theorem Ed.mk {p v off:Nat} (h:off+n*k<=cs.length):Ed k (.sl p v off n) (A6 cs off (n*k)) n (pt p (.row v k cs)):= .inr ⟨p,v,off,cs,rfl,rfl,h,rfl⟩
theorem Ed.whole {p v:Nat} (h:cs.length=n*k):Ed k (.sl p v 0 n) cs n (pt p (.row v k cs)):=
 .inr ⟨p,v,0,cs,rfl,rfl,by omega,by unfold A6;rw [List.drop_zero,List.take_of_length_le (by omega)]⟩
theorem Ed.len (h:Ed k x cells n m):dY false x=some n:=by
 rcases h with ⟨rfl,rfl,_,_⟩ | ⟨p,v,off,cs,rfl,_,_,_⟩<;>rfl
theorem Ed.cl (h:Ed k x cells n m):Mu x=some [x]:=by
 rcases h with ⟨rfl,rfl,_,_⟩ | ⟨p,v,off,cs,rfl,_,_,_⟩<;>rfl
theorem Ed.SM (h:Ed k x cells n m):cells.length=n*k:=by
 rcases h with ⟨rfl,rfl,rfl,_⟩ | ⟨p,v,off,cs,rfl,_,h1,rfl⟩
 ·simp
 ·simp [A6];omega
theorem Ed.pos (h:Ed k x cells n m) (hn:0<n): ∃p v off cs,x= .sl p v off n/\m=pt p (.row v k cs)/\off+n*k<=cs.length/\cells=A6 cs off (n*k):=by
 rcases h with ⟨rfl,rfl,rfl,_⟩ | h
 ·omega
 ·exact h
theorem nu {cs:List AA} {off a b:Nat} (h:b<=a):(A6 cs off a).take b=A6 cs off b:=by simp [A6,List.take_take,Nat.min_eq_left h]
theorem ZL {cs:List AA} {off a b:Nat}:(A6 cs off a).drop b=A6 cs (off+b) (a-b):=by simp [A6,List.drop_take,List.drop_drop]
theorem Ed.head {p v off:Nat} {o:Ob} (h:Ed k (.sl p v off n) cells n m) {j:Nat} (hj:j<=n):Ed k (.sl p v off j) (cells.take (j*k)) j m:=by
 rcases h with ⟨h,_⟩ | ⟨p',v',off',cs,e,rfl,h1,rfl⟩
 ·cases h
 ·cases e;have:=Nat.mul_le_mul_right k hj;exact .inr ⟨p,v,off,cs,rfl,rfl,by omega,nu this⟩
theorem Ed.tail {p v off:Nat} (h:Ed k (.sl p v off n) cells n m) {j:Nat} (hj:j<=n):Ed k (.sl p v (off+j*k) (n-j)) (cells.drop (j*k)) (n-j) m:=by
 rcases h with ⟨h,_⟩ | ⟨p',v',off',cs,e,rfl,h1,rfl⟩
 ·cases h
 ·cases e;have:=Nat.mul_le_mul_right k hj;refine .inr ⟨p,v,off+j*k,cs,rfl,rfl,by rw [Nat.sub_mul];omega,?_⟩;rw [ZL,Nat.sub_mul]
theorem Ed.elem {p v off:Nat} (h:Ed k (.sl p v off n) cells n (pt p (.row v k cs))):True:=trivial
theorem Ku {off j k n:Nat} (h:off+n*k<=cs.length) (hj:j<n):takeN k (cs.drop (off+j*k))=some ((A6 cs off (n*k)).drop (j*k) |>.take k):=by
 have h1:j*k+k<=n*k:=by have:=Nat.mul_le_mul_right k (show j+1<=n by omega);rw [Nat.add_mul] at this;omega
 rw [FJ _ _ (by rw [List.length_drop];omega),ZL];unfold A6;rw [List.take_take,Nat.min_eq_left (by omega)]
end
theorem sm {S:AB} {p q:Nat} {o o':Ob} {X:HM} (h:Has S (pt p o+(pt q o'+X))):Sub (fun i=>if i=0 then p else q) [o,o'] S:=by
 have hpq:p≠q:=by
  obtain ⟨x,rfl⟩:=X.ex;have h:Mm S ((p,o)::(q,o')::x):=h;intro e;have:=(List.nodup_cons.1 h.nd).1;exact this (by simp [e])
 refine ⟨fun l l' h1 h2 e=>?_,fun l o'' hl=>?_⟩
 ·simp only [List.length_cons,List.length_nil] at h1 h2;rcases l with _ | _ | l<;>rcases l' with _ | _ | l'<;>first | rfl | (simp at e;exact absurd e hpq) | (simp at e;exact absurd e.symm hpq) | omega
 ·rcases l with _ | _ | l
  ·simp at hl;subst hl;exact ⟨_,h.get,.refl _⟩
  ·simp at hl;subst hl;exact ⟨_,h.right.get,.refl _⟩
  ·simp at hl
theorem V6 {S:AB}:Sub id [] S:=⟨fun l l' h=>by simp at h,fun l o h=>by simp at h⟩
theorem HC.th {P:Program} {f:FuncId} {args:List AA} {R:AA->HM->Prop} {K:AA->AB->Prop} (h:HC P f args HM.nil R) (hR: ∀r m' S',R r m'->Has S' m'-> ∃r' φ S'',PS r r'/\Sub φ S'' S'/\K r' S''):AV P f args [] K:=
 (h [] HM.nil (by rw [HM.add_nil];exact ⟨.nil,fun p h=>by simp at h⟩)).bh fun r S' ⟨m',h1,h2⟩=>hR r m' S' h1 h2.left
section
variable {P : Program} {F : Frame} {S : AB} {K : AA -> AB -> Prop} {m a : HM} {g : HM -> HM} {x y : AO} {X : AA} {cells ys : List AA} {k n n' b : Nat}
theorem DL.one (h:ys.length=k):DL m k (.Ez 1 ys) 1 ys:=⟨rfl,by omega,by rw [List.take_of_length_le (by omega)]⟩
theorem DL.own {p v off:Nat} {cs:List AA} {o:Ob} {f:Ob->HM} [i:At m p o f] (ho:o= .row v k cs) (hle:off+n*k<=cs.length):DL m k (.sl p v off n) n (A6 cs off (n*k)):=⟨rfl,cs,f,o,i,ho,hle,rfl⟩
theorem G3 (hS:Has S m) (hx:rd F x=X) (hs:Ed k X cells n a) [i:Part m a g] (hy:DL m k (rd F y) n' ys) (hl:ys.length=n'*k) (hb:(n+n')*b<=140737488355328) (h: ∀X' a' S',Ed k X' (cells++ys) (n+n') a'->Has S' (g a')->K X' S'):AF P F S K (.append k b x y):=by
 obtain ⟨R,hR⟩:=i.split;have hS':Has S (a+R):=by have:=i.eq▸hS;rwa [hR] at this
 rcases hs with ⟨rfl,rfl,rfl,rfl⟩ | ⟨p,v,off,cs,rfl,rfl,h1,rfl⟩
 ·refine TA hS hx hy (by simpa using hb) fun v l S' hS'=>?_;have hE:m=R:=by rw [i.eq,hR];exact HM.nil_add _
  have:=h (.sl l v 0 n') (pt l (.row v k ys)) S' (by rw [List.nil_append,Nat.zero_add];exact Ed.whole hl) (by rw [hR,<-hE];exact hS');exact this
 ·have hy':DL (pt p (.row v k cs)+R) k (rd F y) n' ys:=by
   have e:m=pt p (.row v k cs)+R:=by rw [i.eq,hR]
   rw [<-e];exact hy
  refine WW hS' hx hy' (i:=inferInstance) rfl h1 hb fun v' S'' hS''=>?_;refine h (.sl p v' 0 (n+n')) (pt p (.row v' k (A6 cs off (n*k)++ys))) S'' ?_ (by rw [hR];exact hS'');have hc:(A6 cs off (n*k)).length=n*k:=by simp [A6];omega
  exact Ed.whole (by rw [List.length_append,hc,hl,Nat.add_mul])
theorem EX {p v:Nat} {f:Ob->HM} {o:Ob} {cs:List AA} (hS:Has S m) (hx:rd F x= .sl p v 0 n) (hy:DL m k (rd F y) n' ys) [i:At m p o f] (ho:o= .row v k cs) (hl:cs.length=n*k) (hb:(n+n')*b<=140737488355328) (h: ∀v' S',Has S' (f (.row v' k (cs++ys)))->K (.sl p v' 0 (n+n')) S'):AF P F S K (.append k b x y):=by
 refine WW hS hx hy ho (by omega) hb fun v' S' hS'=>h v' S' ?_;have e:A6 cs 0 (n*k)=cs:=by unfold A6;rw [List.drop_zero,List.take_of_length_le (by omega)]
 rw [e] at hS';exact hS'
theorem tY {c:AO} (hc:rd F c= .tt) (h:K (rd F x) S):AF P F S K (.pick c x y):=by refine AD.2 ?_;rw [hc];exact AD.2 h
theorem tX {c:AO} (hc:rd F c= .ff) (h:K (rd F y) S):AF P F S K (.pick c x y):=by refine AD.2 ?_;rw [hc];exact AD.2 h
end
end Go.Vc
end
section
namespace Go.Vc
open HM
def RC (P:Program) (f:FuncId) (args:List AA) (r0:AA):Prop:=AV P f args [] fun r _=>r=r0
section
variable {P : Program} {f : FuncId} {args : List AA} {r0 : AA} {S : AB} {m a : HM} {K : AA -> AB -> Prop} {R : AA -> HM -> Prop}
theorem RC.use (h:RC P f args r0) (hk:K r0 S):AV P f args S K:=AV.use (Q:=fun r=>r=r0) h fun r e=>e▸hk
theorem RC.of (n:Nat) (h:HC P f args HM.nil R) (hR: ∀r m' S',R r m'->Has S' m'->deref S' n r=r0):RC P f args r0:=
 AV.freeze n ((h [] HM.nil (by rw [HM.add_nil];exact Has.nil)).mono fun r S' ⟨m',h1,h2⟩=>hR r m' S' h1 h2.left)
theorem RC.val (h:HC P f args HM.nil fun r _=>r=r0):RC P f args r0:=RC.of 0 h fun r m' S' e _=>e
theorem Has.rest (h:Has S m): ∃mf,Has S (m+mf)/\ ∀S',Has S' (m+mf)-> ∀(l:Nat) o,S[l]?=some o->S'[l]?=some o:=by
 obtain ⟨H,rfl⟩:=m.ex;have h:Mm S H:=h
 let G:Hp:=((List.range S.length).filter fun l=> !(H.map (·.1)).contains l).map fun l=>(l,S.getD l .dead)
 have gk:G.map (·.1)=(List.range S.length).filter fun l=> !(H.map (·.1)).contains l:=by
  simp only [G,List.map_map];exact List.map_id' _
 have hG:Mm S (H++G):=by
  refine ⟨?_,fun p hp=>?_⟩
  ·rw [List.map_append,gk];refine List.nodup_append.2 ⟨h.nd,(List.nodup_range).sublist (List.filter_sublist),fun x hx y hy=>?_⟩;rintro rfl;have:=(List.mem_filter.1 hy).2;simp only [Bool.not_eq_true',List.contains_eq_mem,decide_eq_false_iff_not] at this;exact this hx
  ·rcases List.mem_append.1 hp with hp | hp
   ·exact h.at_ p hp
   ·obtain ⟨l,hl,rfl⟩:=List.mem_map.1 hp;have:=List.mem_range.1 (List.mem_filter.1 hl).1;simp [List.getD,List.getElem?_eq_getElem this]
 refine ⟨of G,hG,fun S' h' l o hl=>?_⟩;have h':Mm S' (H++G):=h';by_cases c:l∈H.map (·.1)
 ·obtain ⟨p,hp,e⟩:=List.mem_map.1 c;have h1:=h.at_ p hp;have h2:=h'.at_ p (List.mem_append_left _ hp);rw [e] at h1 h2;rw [h2,<-h1,hl]
 ·have hlt:=(List.getElem?_eq_some_iff.1 hl).1;have:=h'.at_ (l,S.getD l .dead) (List.mem_append_right _ (List.mem_map.2 ⟨l,List.mem_filter.2 ⟨List.mem_range.2 hlt,by simpa using c⟩,rfl⟩));rw [show S.getD l .dead=o by simp [List.getD,hl]] at this;exact this
theorem HC.quiet {g:HM->HM} [i:Part m a g] (hc:HC P f args a R) (hR: ∀r m',R r m'->r=r0/\ ∃X,m'=a+X) (h:Has S m) (hk:K r0 S):AV P f args S K:=by
 obtain ⟨R0,hm⟩:=i.split;have h:=i.eq▸h;rw [hm] at h;obtain ⟨mf,h1,h2⟩:=h.rest;refine (hc S (R0+mf) (h1.eq (by ac_rfl))).bh fun r S' ⟨m',g1,g2⟩=>?_;obtain ⟨rfl,X,rfl⟩:=hR r m' g1;have g3:=(g2.eq (m':=(a+R0+mf)+X) (by ac_rfl)).left;exact ⟨_,id,S,PS.refl _,⟨fun l l' _ _ e=>e,fun l o hl=>⟨o,h2 S' g3 l o hl,.refl o⟩⟩,hk⟩
theorem wY {F:Frame} {x y:AO} {ik:IntKind} {a b:Int} (hx:rd F x= .int ik a) (hy:rd F y= .int ik b) (h:K (.int ik (max a b)) S):AF P F S K (.max [x,y]):=by
 refine ND ?_;simp only [List.map_cons,List.map_nil,hx,hy];exact ⟨rfl,h⟩
end
end Go.Vc
end
section
namespace Go.Vc
open HM
def Bc (S:AB):Nat->AA->AA
 | 0,x=>x
 | n+1,.sl l v off len=>match S[l]? with
  | some (.row v' k cs)=>if v'=v then .Ez len (((cs.drop off).take (len*k)).map (Bc S n)) else .sl l v off len
  | _=>.sl l v off len
 | n+1,.ptr l v off=>match S[l]? with
  | some (.row v' _ cs)=>if v'=v then .GX ((cs.drop off).map (Bc S n)) else .ptr l v off
  | _=>.ptr l v off
 | n+1,.agg cs=>.agg (cs.map (Bc S n))
 | n+1,.DH cs=>.DH (cs.map (Bc S n))
 | _+1,.AL=>.Ez 0 []
 | _+1,x=>x
theorem QA {E:Env} {fz:Nat->Prop} {S:AB} {w:World} (st:St E fz S w): ∀(n:Nat) (x:AA) (v:Value),Rel E fz w x v->Rel E (frozen E fz S) w (Bc S n x) v:=by
 have up: ∀(x:AA) (v:Value),Rel E fz w x v->Rel E (frozen E fz S) w x v:=fun x v h=>Rel.mono (fun _ _ h=>h) (fun _ h=>.inl h) (fun _ _=>rfl) x h;intro n
 induction n with
 | zero=>intro x v h;exact up x v h
 | succ n ih=>
  intro x v h;have row: ∀ {l ver k:Nat} {cs:List AA} {b base cap k0:Nat},S[l]?=some (.row ver k cs)->E ver=some (.real b base cap k0)->frozen E fz S b/\Ck E fz w b base cs:=fun {l ver k cs b base cap k0} hl hv=>by
   rcases st.ok l _ hl with ⟨h1,_⟩ | ⟨b',base',cap',arr,T,lo,hi,h1,_,_,_,_,h6,_⟩
   ·rw [h1] at hv;cases hv
   ·rw [h1] at hv;cases hv;exact ⟨.inr ⟨l,_,hl,by simp [AU,h1]⟩,h6⟩
  cases x
  case sl l ver off len=>
   simp only [Bc];split
   ·rename_i v' k cs hl;split
    ·rename_i he;subst he;simp only [Rel] at h |-;rcases h with ⟨h1,a,h2⟩ | ⟨b,base,cap,k0,c,h1,h2,h3,h4⟩
     ·exact .inl ⟨h1,a,0,h2⟩
     ·obtain ⟨g1,g2⟩:=row hl h1;exact .inr ⟨b,base+off,c,g1,h2,h4,OK ih _ _ ((g2.drop off).take _)⟩
    ·exact up _ _ h
   ·exact up _ _ h
  case ptr l ver off=>
   simp only [Bc];split
   ·rename_i v' k cs hl;split
    ·rename_i he;subst he;simp only [Rel] at h |-;obtain ⟨b,base,cap,k0,h1,h2⟩:=h;obtain ⟨g1,g2⟩:=row hl h1;exact ⟨b,base+off,g1,h2,OK ih _ _ (g2.drop off)⟩
    ·exact up _ _ h
   ·exact up _ _ h
  case agg cs=>
   simp only [Bc,Rel] at h |-;obtain ⟨vs,h1,h2,h3⟩:=h;exact ⟨vs,h1,OL ih cs vs h2,h3⟩
  case DH cs=>
   simp only [Bc,Rel] at h |-;obtain ⟨vs,h1,h2⟩:=h;exact ⟨vs,h1,OL ih cs vs h2⟩
  case AL=>
   simp only [Bc,Rel] at h |-;exact .inl ⟨by simp,none,0,h⟩
  all_goals exact up _ _ h
theorem AV.kO {P:Program} {f:FuncId} {args:List AA} {R:AA->AB->Prop} (n:Nat) (h:AV P f args [] (fun r S'=>R (Bc S' n r) [])):AV P f args [] R:=
 ⟨fun E fz w vals st hrel=>(h.out E fz w vals st hrel).mono fun e w' ⟨r,S',v,E',fz',h1,h2,h3,h4,h5⟩=>
  ⟨_,[],v,E',frozen E' fz' S',h1,⟨h2.env,fun b hb=>.inl (h2.Yf b hb),fun b hb=>hb.elim (h2.IE b) fun ho=>.inr (h2.own b ho),h2.AW,fun b ⟨l,o,hl,_⟩=>by simp at hl,h2.size,h2.os,h2.output,h2.tape⟩,
   h3.freeze,QA h3 n r v h4,h5⟩⟩
section
variable {P : Program} {f : FuncId} {args : List AA} {r0 : AA} {S : AB} {m mf : HM} {R : AA -> HM -> Prop} {k n : Nat} {x : AA} {cells : List AA}
theorem RC.yC (n:Nat) (h:HC P f args HM.nil R) (hR: ∀r m' S',R r m'->Has S' m'->Bc S' n r=r0):RC P f args r0:=
 AV.kO n ((h [] HM.nil (by rw [HM.add_nil];exact Has.nil)).mono fun r S' ⟨m',h1,h2⟩=>hR r m' S' h1 h2.left)
theorem Gc {p v off len k:Nat} {cs:List AA} (hS:Has S (pt p (.row v k cs)+m)) (d:Nat):Bc S (d+1) (.sl p v off len)= .Ez len ((A6 cs off (len*k)).map (Bc S d)):=by
 simp only [Bc];rw [hS.get];simp [A6]
theorem Ed.Bc (h:Ed k x cells n m) (hS:Has S (m+mf)) (d:Nat):Go.Vc.Bc S (d+1) x= .Ez n (cells.map (Go.Vc.Bc S d)):=by
 rcases h with ⟨rfl,rfl,rfl,rfl⟩ | ⟨p,v,off,cs,rfl,rfl,h1,rfl⟩
 ·rfl
 ·exact Gc hS d
theorem Jf (h: ∀c∈cells,Go.Vc.Bc S n c=c):cells.map (Go.Vc.Bc S n)=cells:=(List.map_congr_left h).trans (List.map_id' _)
theorem iC (s:List UInt8):Bc S n (.str s)= .str s:=by cases n<;>rfl
theorem kX {F:Frame} {K:AA->AB->Prop} {t l v k n off:Nat} {ag:Bool} {x:AO} {o:Ob} {g:Ob->HM} {cs xs:List AA} {r:AA} (hS:Has S m) (hx:rd F x= .ptr l v off) [i:At m l o g] (ho:o= .row v k cs) (ht:takeN n (cs.drop off)=some xs) (hm:rf ag xs=some r) (hr:rd F (.t t)=r) (h:K .C3 S):AF P F S K (.again t n ag x):=by
 refine AD.2 (AD.2 ?_);rw [hx,hr];refine hS.row ho ?_;cases k with
 | zero=>exact Cn.2 (Dz.2 ⟨xs,ht,Lj hm ⟨rfl,h⟩⟩)
 | succ k=>exact ⟨xs,ht,Lj hm ⟨rfl,h⟩⟩
theorem eA {F:Frame} {K:AA->AB->Prop} {t n:Nat} {ag:Bool} {x:AO} {cs xs:List AA} {r:AA} (hx:rd F x= .GX cs) (ht:takeN n cs=some xs) (hm:rf ag xs=some r) (hr:rd F (.t t)=r) (h:K .C3 S):AF P F S K (.again t n ag x):=by
 refine AD.2 (AD.2 ?_);rw [hx,hr];exact Dz.2 ⟨xs,ht,Lj hm ⟨rfl,h⟩⟩
theorem wZ {F:Frame} {K:AA->AB->Prop} {x y:AO} {ik:IntKind} {a b:Int} (hx:rd F x= .int ik a) (hy:rd F y= .int ik b) (h:K (.int ik (min a b)) S):AF P F S K (.min [x,y]):=by
 refine ND ?_;simp only [List.map_cons,List.map_nil,hx,hy];exact ⟨rfl,h⟩
theorem DL.Ez {cs:List AA} (h:cs.length=n*k):DL m k (.Ez n cs) n cs:=⟨rfl,by omega,(List.take_of_length_le (by omega)).symm⟩
theorem BV.kP {args:Ky} {t u:Ty} {pre:Ts args->Prop} {fn:Ts args->List (T t)×T u} (h:BV P f ⟨args,[.own t,.val u],pre,fn⟩) (x:Ts args) (hx:pre x) (hu: ∀S v,Bc S 1 (DV u v)=DV u v):RC P f (F5 args x) (.DH [DV (.sl t) (fn x).1,DV u (fn x).2]):=by
 refine AV.kO 2 (DM (h.2 x hx) fun r S' hr=>?_);obtain ⟨ys,h1,rfl⟩:=hr;rcases h1 with ⟨v,ys',S1,rfl,rfl,h2⟩ | ⟨h0,ys',rfl,h2⟩
 ·obtain ⟨ys2,rfl,rfl,rfl⟩:=h2;show AA.DH [Bc _ 1 _,Bc _ 1 _]=_;have hl: ∀l:List (T t),(l.flatMap (BP t)).length=l.length*G9 t:=fun l=>by
   induction l with
   | nil=>simp
   | cons a l ih=>rw [List.flatMap_cons,List.length_append,ih,A7,List.length_cons,Nat.add_mul];omega
  have e:=hl (fn x).1;congr 1;congr 1
  ·simp only [Bc,List.getElem?_cons_zero,if_pos,List.drop_zero];show AA.Ez (fn x).1.length ((((fn x).1.flatMap (BP t)).take ((fn x).1.length*G9 t)).map (fun y=>y))=_;rw [List.map_id',List.take_of_length_le (by omega)];rfl
  ·congr 1;exact hu _ _
 ·obtain ⟨ys2,rfl,rfl,rfl⟩:=h2;show AA.DH [Bc _ 1 _,Bc _ 1 _]=_;have h0:(fn x).1=[]:=h0;congr 1;congr 1
  ·rw [h0];rfl
  ·congr 1;exact hu _ _
end
end Go.Vc
end
