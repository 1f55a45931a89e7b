/- Part of the proof of enginePlays_holds: the whole is true of every input. Conditions: none. -/
import Derived.Test.YtlibocgedgdmlaaGreatP12
import Derived.Shelf.Spec.SlicesInsertGrow
import Derived.Ground.Names2Prog
import Derived.Shelf.SlGeneric
import Derived.Ground.SlgmProg
import Derived.Lib.SliceRun
set_option linter.all false
section
set_option maxRecDepth 100000
namespace Go.Proofs.YtlibocgedgdmlaaGreat.E
open Go.Vc Go.Fu
variable {lg vg lh vh lm vm : Nat} {s : Bytes} {D : List Span} {xc : AA} {sc : List AA}
theorem eT (hP:BV Tryz.prog Df Ek) {l:Bytes} (hl:l.length<=1000000) {S:AB} {K:AA->AB->Prop} (h:K (.agg [.int .i64 (BJ l).1,.int .i64 (BJ l).2]) S):AV Tryz.prog Df [.str l] S K:=
 hP.plain l (by show l.length<=_;omega) rfl h
theorem mJ {p v off:Nat} {cs:List AA} {L:List Bytes} {K:List Bool} (hK:K.length=L.length) (hle:off+K.length*2<=cs.length) (hcs:cellsOf L K=A6 cs off (K.length*2)) (hl:K.length<=140737488351232):
  HC Tryz.prog Co [.ptr lg vg 0] (pt lg (.row vg 0 (gC lh vh s lm vm D (.sl p v off K.length) sc))+pt p (.row v 2 cs)) fun r m'=>m'=pt lg (.row vg 0 (gC lh vh s lm vm D (.sl p v off K.length) sc))+pt p (.row v 2 cs)/\ ∃b:Bool,r= .bool b/\(b=true↔D=[]/\ ∀k∈K,k=true):=by
 intro S mf hS;refine JU LY ?_;by_cases c:D=[]
 ·subst c;refine ju ?_;refine AX ?_;refine Am (BF (fun hg=>?_) (fun hg=>by exfalso;exact hg rfl));dsimp only [AK,rd,Frame.get];refine Z5 ?_;refine HC.use (XT hK hle hcs hl) hS ?_;rintro r m' S ⟨rfl,b,rfl,hb⟩ hS;refine Nn ?_;refine ⟨_,⟨rfl,_,rfl,?_⟩,hS⟩;rw [<-hb];cases b<;>simp
 ·have hD:D.length≠0:=fun e=>c (List.length_eq_zero_iff.1 e);refine ju ?_;refine AX ?_;refine Am (BF (fun hg=>by exfalso;omega) (fun hg=>?_));dsimp only [AK,rd,Frame.get];refine gJ ?_;exact ⟨_,⟨rfl,_,rfl,⟨(fun q=>nomatch q),fun q=>absurd q.1 c⟩⟩,hS⟩
theorem oz {off:Nat} {cs:List AA} {L:List Bytes} {K:List Bool} (hK:K.length=L.length) (hle:off+K.length*2<=cs.length) (hcs:cellsOf L K=A6 cs off (K.length*2)) {i:Nat} {l:Bytes} {b:Bool} (h1:L[i]?=some l) (h2:K[i]?=some b):
  takeN 1 (List.drop (off+i*2) cs)=some [.int .i64 (if b=true then (BJ l).1 else 0)]/\takeN 1 (List.drop (off+i*2+1) cs)=some [.bool b]:=by
 have hi:=(List.getElem?_eq_some_iff.1 h2).1;have ht:takeN 2 (List.drop (off+i*2) cs)=some [.int .i64 (if b=true then (BJ l).1 else 0),.bool b]:=by
  rw [Ku hle hi,<-hcs];have:=P8 h1 h2;rw [FJ _ _ (by rw [List.length_drop,Jc hK];omega)] at this;exact this
 rw [FJ _ _ (by rw [List.length_drop];omega)] at ht;have ht:=Option.some.inj ht;have e2:List.drop (off+i*2+1) cs=(List.drop (off+i*2) cs).drop 1:=by rw [List.drop_drop]
 rw [e2];generalize List.drop (off+i*2) cs=X at*
 match X,ht with
 | a::b::X,ht=>simp at ht;obtain ⟨rfl,rfl⟩:=ht;exact ⟨rfl,rfl⟩
theorem dI (hP:BV Tryz.prog Df Ek) (hs:s.length<=1000000) {p v off:Nat} {cs:List AA} {K:List Bool} (hK:K.length=(AH s).length) (hle:off+K.length*2<=cs.length) (hcs:cellsOf (AH s) K=A6 cs off (K.length*2)) (n:Int):
  HC Tryz.prog CL [.ptr lg vg 0,.int .i64 n] (pt lg (.row vg 0 (gC lh vh s lm vm D (.sl p v off K.length) sc))+pt p (.row v 2 cs)) fun r m'=>m'=pt lg (.row vg 0 (gC lh vh s lm vm D (.sl p v off K.length) sc))+pt p (.row v 2 cs)/\D0 (C6 s n) r HM.nil:=by
 intro S mf hS;have hcl:=DY s;refine JU KT ?_;by_cases c1:n<0
 ·have e:C6 s n=(2,0,0,[],[]):=by unfold C6;rw [if_pos (.inl c1)];rfl
  refine Z3 fun v4 l4 S hS=>?_;refine Z8 ?_;refine AX ?_;refine Am (BF (fun hg=>?_) (fun hg=>by exfalso;omega));dsimp only [AK,rd,Frame.get];refine SI ?_;refine BS rfl (fun _=>?_) (fun hb=>by cases hb);refine Z3 ?_;refine (Kg 2).use ?_;refine Z2 fun S hS=>?_;refine Z8 ?_;rw [e];exact ⟨_,⟨rfl,D0.plain⟩,hS.right⟩
 by_cases c2:(K.length:Int)<=n
 ·have e:C6 s n=(2,0,0,[],[]):=by unfold C6;rw [if_pos (.inr (by omega))];rfl
  refine Z3 fun v4 l4 S hS=>?_;refine Z8 ?_;refine AX ?_;refine Am (BF (fun hg=>by exfalso;omega) (fun hg=>?_));dsimp only [AK,rd,Frame.get];refine SI ?_;refine Av rfl (fun _=>?_) (fun hb=>by exfalso;omega);refine Z3 ?_;refine (Kg 2).use ?_;refine Z2 fun S hS=>?_;refine Z8 ?_;rw [e];exact ⟨_,⟨rfl,D0.plain⟩,hS.right⟩
 obtain ⟨i,rfl⟩: ∃i:Nat,n=(i:Int):=⟨n.toNat,by omega⟩
 have hi:i<K.length:=by omega
 obtain ⟨l,h1⟩: ∃l,(AH s)[i]?=some l:=⟨_,List.getElem?_eq_getElem (by omega)⟩
 obtain ⟨b,h2⟩: ∃b,K[i]?=some b:=⟨_,List.getElem?_eq_getElem hi⟩
 have hll:=hcl.2 l (List.mem_of_getElem? h1);have e:C6 s (i:Int)=(0,(BJ l).1,0,[],[]):=by
  have hg:gt (AH s) (i:Int)=l:=by
   have:=Ig (l:=AH s) (i:=(i:Int)) (by omega) (by omega);rw [Int.toNat_natCast,h1] at this;exact (Option.some.inj this).symm
  unfold C6;rw [if_neg (by omega),hg]
 obtain ⟨t1,t2⟩:=oz hK hle hcs h1 h2;refine Z3 fun v4 l4 S hS=>?_;refine Z8 ?_;refine AX ?_;refine Am (BF (fun hg=>by exfalso;omega) (fun hg=>?_));dsimp only [AK,rd,Frame.get];refine SI ?_;refine Av rfl (fun hb=>by exfalso;omega) (fun _=>?_);refine ju ?_;refine BS rfl (fun hb=>?_) (fun hb=>?_)
 ·rw [if_pos hb] at t1;refine ra fun S hS=>?_;refine Z8 ?_;rw [e];exact ⟨_,⟨rfl,D0.plain⟩,hS.right⟩
 ·refine Z8 ?_;refine HC.use (WI (lg:=lg) (vg:=vg) (lh:=lh) (vh:=vh) (lm:=lm) (vm:=vm) (D:=D) (xc:= .sl p v off K.length) (sc:=sc) h1 hs) hS ?_;rintro r m' S ⟨rfl,rfl⟩ hS;refine Z2 ?_;refine eT hP (by omega) ?_;refine Z4 fun S hS=>?_;refine Z6 ?_;rw [e];exact ⟨_,⟨rfl,D0.plain⟩,hS.right⟩
theorem FH: ∀ {cs:List AA} {j:Nat} {x:AA},j<cs.length->setCells cs j [x]=cs.set j x
 | [],j,x,h=>by simp at h
 | a::cs,0,x,h=>by cases cs<;>rfl
 | a::cs,j+1,x,h=>by show a::setCells cs j [x]=_;rw [FH (by simpa using h)];rfl
theorem N4 (j:Nat):(gC lh vh s lm vm D xc sc).drop (6+j)=sc.drop j:=by rw [Nat.add_comm];rfl
theorem pU {j:Nat} {x:AA} (h:j<sc.length):setCells (gC lh vh s lm vm D xc sc) (6+j) [x]=gC lh vh s lm vm D xc (sc.set j x):=by
 rw [FH (by simp;omega),Nat.add_comm];rfl
theorem take_one {cs:List AA} {j:Nat} {x:AA} (h:cs[j]?=some x):takeN 1 (cs.drop j)=some [x]:=by
 have hj:=(List.getElem?_eq_some_iff.1 h).1;rw [List.drop_eq_getElem_cons hj,(List.getElem?_eq_some_iff.1 h).2];rfl
theorem M0: ∀ {l:List (Option Bytes)} {j:Nat},(∀i,i<j-> ∃t,l[i]?=some (some t))->l[j]?=some none->EH l=j
 | [],j,_,h=>by simp at h
 | none::l,0,_,_=>rfl
 | none::l,j+1,h,_=>by obtain ⟨t,h⟩:=h 0 (by omega);simp at h
 | some t::l,0,_,h=>by simp at h
 | some t::l,j+1,h,h'=>by
  show EH l+1=_;rw [M0 (l:=l) (j:=j) (fun i hi=>by have:=h (i+1) (by omega);simpa using this) (by simpa using h')]
theorem LC: ∀ {l:List (Option Bytes)},(∀i,i<l.length-> ∃t,l[i]?=some (some t))->EH l=l.length
 | [],_=>rfl
 | none::l,h=>by obtain ⟨t,h⟩:=h 0 (by simp);simp at h
 | some t::l,h=>by
  show EH l+1=_;rw [LC (l:=l) (fun i hi=>by have:=h (i+1) (by simpa using hi);simpa using this)];rfl
theorem UD {Sn:List (Option Bytes)} {ms:HM} (hs:GJ Sn sc ms) (h4:Sn.length=4):
  HC Tryz.prog BM [.sl lg vg 6 4,.B4] (pt lg (.row vg 0 (gC lh vh s lm vm D xc sc))) fun r m'=>m'=pt lg (.row vg 0 (gC lh vh s lm vm D xc sc))/\r= .int .i64 (if Sn.length<=EH Sn then-1 else (EH Sn:Int)):=by
 intro S mf hS;have hl:=hs.len;refine JU H9 ?_;refine gJ ?_;refine GY (fun k xs S=> ∃j:Nat,xs=[.int .i64 (j:Int)]/\j<=4/\k=4-j/\(∀i,i<j-> ∃t,Sn[i]?=some (some t))/\Has S (pt lg (.row vg 0 (gC lh vh s lm vm D xc sc))+mf)) 4 ⟨0,rfl,Nat.zero_le _,rfl,fun s hs=>by omega,hS⟩ ?_;clear hS;rintro k xs S hl' ⟨j,rfl,hj,rfl,he,hS⟩;dsimp only [Er,List.map,Frame.get];refine Z6 ?_;refine Av rfl (fun hlt=>?_) (fun hlt=>?_)
 ·have hjl:j<Sn.length:=by omega
  rcases hs.at_ hjl with ⟨g1,g2,_⟩ | ⟨t,p,v,R,g1,g2,_,_⟩
  ·have ht:=take_one g2;refine YI ?_;refine AX ?_;refine Lm hS rfl rfl (by rw [N4];exact ht) rfl ?_;refine Z4 ?_;refine BS (c:= !false) rfl (fun _=>?_) (fun hb=>by cases hb);refine rz ?_;have e:=M0 he g1;refine ⟨_,⟨rfl,?_⟩,hS⟩;rw [if_neg (by omega),e]
  ·have ht:=take_one g2;refine YI ?_;refine AX ?_;refine Lm hS rfl rfl (by rw [N4];exact ht) rfl ?_;refine Z4 ?_;refine BS (c:=false) rfl (fun hb=>by cases hb) (fun _=>?_);refine Z8 ?_;refine ⟨4-(j+1),by omega,j+1,rfl,by omega,rfl,fun i hi=>?_,hS⟩;by_cases q:i<j
   ·exact he i q
   ·obtain rfl:i=j:=by omega
    exact ⟨t,g1⟩
 ·obtain rfl:j=4:=by omega
  refine gJ ?_;have e:=LC (l:=Sn) (fun i hi=>he i (by omega));refine ⟨_,⟨rfl,?_⟩,hS⟩;rw [if_pos (by omega)]
def OW (s:Bytes) (Sn:List (Option Bytes)):List (Option Bytes)×P4:=if Sn.length<=EH Sn then (Sn,Rh 8) else (Sn.set (EH Sn) (some s),(0,(EH Sn:Int),0,[],[]))
theorem nr {Sn:List (Option Bytes)} {ms:HM} (hs:GJ Sn sc ms) (h4:Sn.length=4):
  HC Tryz.prog Cp [.ptr lg vg 0] (pt lg (.row vg 0 (gC lh vh s lm vm D xc sc))+ms) fun r m'=>D0 (OW s Sn).2 r HM.nil/\ ∃sc' ms',GJ (OW s Sn).1 sc' ms'/\m'=pt lg (.row vg 0 (gC lh vh s lm vm D xc sc'))+ms':=by
 intro S mf hS;have hl:=hs.len;refine JU La ?_;unfold OW;refine Z3 fun v2 l2 S hS=>?_;refine Z3 ?_;by_cases c:Sn.length<=EH Sn
 ·rw [if_pos c];refine Z4 ?_;refine AX ?_;refine WX hS rfl rfl (by simp;omega) ?_;refine Z2 ?_;refine HC.use (UD (lg:=lg) (vg:=vg) (lh:=lh) (vh:=vh) (lm:=lm) (vm:=vm) (s:=s) (D:=D) (xc:=xc) hs h4) hS ?_;rintro r m' S ⟨rfl,rfl⟩ hS;rw [if_pos c];refine SI ?_;refine Av rfl (fun _=>?_) (fun hb=>by exfalso;omega);refine Z3 ?_;refine (Kg 8).use ?_;refine Z2 fun S hS=>?_;refine Z7 ?_;exact ⟨_,⟨D0.plain,sc,ms,hs,rfl⟩,hS.right⟩
 ·rw [if_neg c];have hj:EH Sn<Sn.length:=by omega
  generalize hJ:EH Sn=j at*;rcases hs.at_ hj with ⟨g1,g2,g3⟩ | ⟨t,p,v,R,g1,g2,_,_⟩
  rotate_left
  ·exfalso;have: ∀ {l:List (Option Bytes)} {j:Nat} {t:Bytes},EH l=j->l[j]?=some (some t)->False:=fun {l}=>by
    induction l with
    | nil=>intro j t h h';simp at h'
    | cons a l ih=>
     intro j t h h';cases a with
     | none=>subst h;simp [EH] at h'
     | some u=>subst h;exact ih rfl (by simpa [EH] using h')
   exact this hJ g1
  refine Z4 ?_;refine AX ?_;refine WX hS rfl rfl (by simp;omega) ?_;refine Z2 ?_;refine HC.use (UD (lg:=lg) (vg:=vg) (lh:=lh) (vh:=vh) (lm:=lm) (vm:=vm) (s:=s) (D:=D) (xc:=xc) hs h4) hS ?_;rintro r m' S ⟨rfl,rfl⟩ hS;rw [hJ,if_neg c];refine SI ?_;refine Av rfl (fun hb=>by exfalso;omega) (fun _=>?_);refine Z9 fun v4 l4 S hS=>?_;refine Z1 fun S hS=>?_;refine Z9 ?_;refine AX ?_;refine G4 hS rfl rfl rfl rfl (by simp;omega) fun S hS=>?_;(try dsimp only [AK,rd,Frame.get] at hS);rw [pU (by omega)] at hS;refine Z8 fun S hS=>?_;refine Z6 ?_;refine ⟨pt lg (.row vg 0 (gC lh vh s lm vm D xc (sc.set j (.ptr l4 v4 0))))+(pt l4 (.row v4 0 [.str s])+ms),⟨D0.plain,_,_,g3 s l4 v4,rfl⟩,?_⟩;exact (hS.eq (m':=_+pt l2 _) (by ac_rfl)).left
abbrev Bt (r:Rq):List AA:=[.int .i64 r.1,.int .i64 r.2.1.1,.int .i64 r.2.1.2.1,.int .i64 r.2.1.2.2.1,.str r.2.1.2.2.2,.int .i64 r.2.2.1,.int .i64 r.2.2.2.1,.str r.2.2.2.2]
def OJ (Sn:List (Option Bytes)) (k n:Int):List (Option Bytes)×P4:=match (if n<0 then none else Sn.getD n.toNat none) with
 | none=>(Sn,Rh 7)
 | some t=>if k=8 then (Sn,(0,0,0,[],t)) else (Sn.set n.toNat none,Rh 0)
theorem Pv {Sn:List (Option Bytes)} {ms:HM} (hs:GJ Sn sc ms) (h4:Sn.length=4) (r:Rq):
  HC Tryz.prog B3 [.ptr lg vg 0,.agg (Bt r)] (pt lg (.row vg 0 (gC lh vh s lm vm D xc sc))+ms) fun x m'=>D0 (OJ Sn r.1 r.2.2.1).2 x HM.nil/\ ∃sc' ms',GJ (OJ Sn r.1 r.2.2.1).1 sc' ms'/\m'=pt lg (.row vg 0 (gC lh vh s lm vm D xc sc'))+ms':=by
 intro S mf hS;have hl:=hs.len;obtain ⟨k,⟨dk,a,b,u⟩,n,z,w⟩:=r;refine JU Jx ?_;unfold OJ;try dsimp only
 by_cases c1:n<0
 ·rw [if_pos c1];refine Z3 fun v3 l3 S hS=>?_;refine Z1 fun v4 l4 S hS=>?_;refine Z4 ?_;refine Cw hS fun S hS=>?_;refine Z4 ?_;refine AX ?_;refine Am (BF (fun hg=>?_) (fun hg=>by exfalso;omega));dsimp only [AK,rd,Frame.get];refine Z4 ?_;refine AX ?_;refine Am (EU (fun hg=>?_) (fun hb=>by cases hb));dsimp only [AK,rd,Frame.get];refine SI ?_;refine BS rfl (fun _=>?_) (fun hb=>by cases hb);refine Z3 ?_;refine (Kg 7).use ?_;refine Z2 fun S hS=>?_;refine Z7 ?_;exact ⟨_,⟨D0.plain,sc,ms,hs,rfl⟩,hS.right.right⟩
 rw [if_neg c1];by_cases c2:4<=n
 ·have e:Sn.getD n.toNat none=none:=by rw [List.getD_eq_getElem?_getD,List.getElem?_eq_none (by omega)];rfl
  rw [e];refine Z3 fun v3 l3 S hS=>?_;refine Z1 fun v4 l4 S hS=>?_;refine Z4 ?_;refine Cw hS fun S hS=>?_;refine Z4 ?_;refine AX ?_;refine Am (BF (fun hg=>by exfalso;omega) (fun hg=>?_));dsimp only [AK,rd,Frame.get];refine Z4 ?_;refine AX ?_;refine Am (BF (fun hg=>?_) (fun hg=>by exfalso;omega));dsimp only [AK,rd,Frame.get];refine SI ?_;refine BS rfl (fun _=>?_) (fun hb=>by cases hb);refine Z3 ?_;refine (Kg 7).use ?_;refine Z2 fun S hS=>?_;refine Z7 ?_;exact ⟨_,⟨D0.plain,sc,ms,hs,rfl⟩,hS.right.right⟩
 obtain ⟨i,rfl⟩: ∃i:Nat,n=(i:Int):=⟨n.toNat,by omega⟩
 have hi:i<4:=by omega
 rw [Int.toNat_natCast,List.getD_eq_getElem?_getD];rcases hs.at_ (j:=i) (by omega) with ⟨g1,g2,_⟩ | ⟨t,p,v,R,g1,g2,rfl,g3⟩
 ·rw [g1];have ht:=take_one g2;refine Z3 fun v3 l3 S hS=>?_;refine Z1 fun v4 l4 S hS=>?_;refine Z4 ?_;refine Cw hS fun S hS=>?_;refine Z4 ?_;refine AX ?_;refine Am (BF (fun hg=>by exfalso;omega) (fun hg=>?_));dsimp only [AK,rd,Frame.get];refine Z4 ?_;refine AX ?_;refine Am (BF (fun hg=>by exfalso;omega) (fun hg=>?_));dsimp only [AK,rd,Frame.get];refine Z6 ?_;refine tj rfl ?_;refine Lm hS rfl rfl (by rw [N4];exact ht) rfl ?_;refine Z5 ?_;refine BS rfl (fun _=>?_) (fun hb=>by cases hb);refine Z3 ?_;refine (Kg 7).use ?_;refine Z2 fun S hS=>?_;refine Z7 ?_;exact ⟨_,⟨D0.plain,sc,_,hs,rfl⟩,hS.right.right⟩
 ·rw [g1];dsimp only [Option.getD];have ht:=take_one g2;refine Z3 fun v3 l3 S hS=>?_;refine Z1 fun v4 l4 S hS=>?_;refine Z4 ?_;refine Cw hS fun S hS=>?_;refine Z4 ?_;refine AX ?_;refine Am (BF (fun hg=>by exfalso;omega) (fun hg=>?_));dsimp only [AK,rd,Frame.get];refine Z4 ?_;refine AX ?_;refine Am (BF (fun hg=>by exfalso;omega) (fun hg=>?_));dsimp only [AK,rd,Frame.get];refine Z6 ?_;refine tj rfl ?_;refine Lm hS rfl rfl (by rw [N4];exact ht) rfl ?_;refine Z5 ?_;refine BS rfl (fun hb=>by cases hb) (fun _=>?_);refine Nn ?_;refine Av rfl (fun hk=>?_) (fun hk=>?_)
  ·rw [if_pos hk];refine Z1 ?_;refine Cw hS fun S hS=>?_;refine Z7 ?_;refine AX ?_;refine Lm hS rfl rfl (by rw [N4];exact ht) rfl ?_;refine Z5 fun S hS=>?_;refine Z7 ?_;exact ⟨_,⟨D0.plain,sc,_,hs,rfl⟩,hS.right.right⟩
  ·rw [if_neg hk];refine Z3 ?_;refine Cw hS fun S hS=>?_;refine Z7 ?_;refine AX ?_;refine G4 hS rfl rfl rfl rfl (by simp;omega) fun S hS=>?_;(try dsimp only [AK,rd,Frame.get] at hS);rw [pU (by omega)] at hS;refine Z7 fun S hS=>?_;refine Z6 ?_;refine ⟨_,⟨D0.plain,_,R,g3,rfl⟩,?_⟩;exact (hS.right.right.eq (m':=pt p (.row v 0 [.str t])+_) (by ac_rfl)).right
end Go.Proofs.YtlibocgedgdmlaaGreat.E
end
section
namespace Go.Vc
open Go.Sort Go.Shelf Go.Proofs
theorem Ay (b:Nat): ∀(vs:List Value) (o:Nat) (w:World) {arr:Array Value} {T:TypeId} {m:Nat×Nat},w.heap[b]?=some (.cells arr T m)-> ∃arr',(w.setCells b o vs).heap[b]?=some (.cells arr' T m)/\arr'.size=arr.size/\ ∀i:Nat,arr'[i]?=if o<=i/\i<o+vs.length/\i<arr.size then vs[i-o]? else arr[i]?
 | [],o,w,arr,T,m,h=>⟨arr,h,rfl,fun i=>by rw [if_neg (by simp;omega)]⟩
 | v::vs,o,w,arr,T,m,h=>by
  have h1:(w.setCell ⟨b,o,none⟩ v).heap[b]?=some (.cells (arr.setIfInBounds o v) T m):=by
   unfold World.setCell;simp [Array.getElem?_modify,h]
  obtain ⟨arr',g1,g2,g3⟩:=Ay b vs (o+1) _ h1;refine ⟨arr',g1,by rw [g2,Array.size_setIfInBounds],fun i=>?_⟩;rw [g3,Array.size_setIfInBounds];by_cases c:i=o
  ·subst c;rw [if_neg (by omega),Array.getElem?_setIfInBounds_self];by_cases d:i<arr.size
   ·rw [if_pos d,if_pos ⟨Nat.le_refl _,by simp,d⟩];simp
   ·rw [if_neg d,if_neg (by omega),Array.getElem?_eq_none (by omega)]
  ·rw [Array.getElem?_setIfInBounds_ne (Ne.symm c)];by_cases d:o<=i/\i<o+(v::vs).length/\i<arr.size
   ·rw [if_pos d,if_pos (by simp only [List.length_cons] at d;omega)];obtain ⟨j,hj⟩: ∃j,i-o=j+1:=⟨i-o-1,by omega⟩
    rw [hj,show i-(o+1)=j by omega];rfl
   ·rw [if_neg d,if_neg (by simp only [List.length_cons] at d;omega)]
theorem B2 (b:Nat): ∀(vs:List Value) (o:Nat) (w:World),(w.setCells b o vs).os=w.os/\(w.setCells b o vs).output=w.output/\(w.setCells b o vs).tape=w.tape/\(w.setCells b o vs).drawn=w.drawn/\(w.setCells b o vs).heap.size=w.heap.size/\ ∀b':Nat,b'≠b->(w.setCells b o vs).heap[b']?=w.heap[b']?
 | [],o,w=>⟨rfl,rfl,rfl,rfl,rfl,fun _ _=>rfl⟩
 | v::vs,o,w=>by
  obtain ⟨h1,h2,h3,h4,h5,h6⟩:=B2 b vs (o+1) (w.setCell ⟨b,o,none⟩ v);refine ⟨h1,h2,h3,h4,h5.trans ?_,fun b' hb=>(h6 b' hb).trans ?_⟩
  ·unfold World.setCell;simp
  ·unfold World.setCell;simp [Array.getElem?_modify,Ne.symm hb]
theorem Zb (w:World) (o:Obj):(w.heap.push o)[w.heap.size]?=some o:=Array.getElem?_push_size
theorem VG (w:World) (o:Obj):(w.heap.push o).size=w.heap.size+1:=Array.size_push ..
theorem Zc (w:World) (o:Obj) {b:Nat} (h:b<w.heap.size):(w.heap.push o)[b]?=w.heap[b]?:=by rw [Array.getElem?_push,if_neg (by omega)]
section
variable {P : Program} {E : Env} {fz : Nat -> Prop} {S : AB} {w w' : World}
theorem St.rewrite (st:St E fz S w) {p ver k off:Nat} {cs ys:List AA} {us:List Value} {b base cap:Nat} {arr arr':Array Value} {T:TypeId} {m:Nat×Nat} (hl:S[p]?=some (.row ver k cs)) (hE:E ver=some (.real b base cap k)) (g:w.heap[b]?=some (.cells arr T m)) (g':w'.heap[b]?=some (.cells arr' T m)) (hsz:arr'.size=arr.size)
  (hoth: ∀b':Nat,b'≠b->w'.heap[b']?=w.heap[b']?) (hs:w'.heap.size=w.heap.size) (hoff:off<=cs.length) (hcap:off+ys.length<=cap) (hpre: ∀t,t<off->arr'[base+t]?=arr[base+t]?) (hnew: ∀(j:Nat) v,us[j]?=some v->arr'[base+off+j]?=some v) (hr:AZ E fz w ys us) (h1: ∀c∈us,c.oneCell'=true)
  (o1:w'.os=w.os) (o2:w'.output=w.output) (o3:Tp w w'):St E fz (S.set p (.row ver k (cs.take off++ys))) w'/\Ext E fz S w E fz (S.set p (.row ver k (cs.take off++ys))) w':=by
 have hlt:p<S.length:=(List.getElem?_eq_some_iff.1 hl).1;rcases st.ok p _ hl with ⟨e1,_⟩ | ⟨b',base',cap',arr0,T0,lo,hi,e1,e2,e3,e4,e5,e6,e7⟩
 ·rw [hE] at e1;cases e1
 rw [hE] at e1;cases e1;rw [g] at e2;cases e2;have hk: ∀bb,fz bb->w'.heap[bb]?=w.heap[bb]?:=fun bb hb=>hoth bb fun e=>e7 (e▸hb);have ht:(cs.take off).length=off:=by rw [List.length_take];omega
 refine st.fy p (.row ver k (cs.take off++ys)) (fun _ _ h=>h) st.fresh (fun l' hl'=>by rw [List.getElem?_set_ne (Ne.symm hl')]) (by rw [List.getElem?_set_self hlt]) (by omega) (fun bb _ hno=>hoth bb fun e=>hno ?_) (fun bb hb=>.inl ?_)
  (.inr ⟨b,base,cap,arr',T,lo,hi,hE,g',by omega,by simp only [List.length_append,ht];omega,by rw [hsz];exact e5,Ck.mk fun i x hx=>?_,e7⟩) o1 o2 o3
 ·subst e;exact ⟨_,hl,by simp [AU,hE]⟩
 ·simp [AU,hE] at hb;subst hb;exact ⟨_,hl,by simp [AU,hE]⟩
 ·rw [Ce g'];by_cases c:i<off
  ·rw [List.getElem?_append_left (by omega),List.getElem?_take,if_pos c] at hx;obtain ⟨v,hv,hone,hrel⟩:=e6.get hx;rw [Ce g] at hv;exact ⟨v,by rw [hpre i c];exact hv,hone,hrel.mono (fun _ _ h=>h) (fun _ h=>h) hk⟩
  ·rw [List.getElem?_append_right (by omega),ht] at hx;obtain ⟨v,hv,hrel⟩:=hr.get hx;refine ⟨v,?_,h1 v (List.mem_of_getElem? hv),hrel.mono (fun _ _ h=>h) (fun _ h=>h) hk⟩;have:=hnew _ v hv;rwa [show base+off+(i-off)=base+i by omega] at this
theorem St.qC (st:St E fz S w) {k:Nat} {ys:List AA} {us:List Value} {arr:Array Value} {T:TypeId} (g:w'.heap[w.heap.size]?=some (.cells arr T (0,0))) (hs:w'.heap.size=w.heap.size+1) (hoth: ∀b:Nat,b<w.heap.size->w'.heap[b]?=w.heap[b]?) (hnew: ∀(j:Nat) v,us[j]?=some v->arr[j]?=some v) (hr:AZ E fz w ys us) (h1: ∀c∈us,c.oneCell'=true)
  (o1:w'.os=w.os) (o2:w'.output=w.output) (o3:Tp w w'): ∃ver E',E' ver=some (.real w.heap.size 0 arr.size k)/\St E' fz (S++[.row ver k ys]) w'/\Ext E fz S w E' fz (S++[.row ver k ys]) w':=by
 have hle:us.length<=arr.size:=by
  rcases Nat.lt_or_ge arr.size us.length with h | h
  ·have:=hnew arr.size us[arr.size] (List.getElem?_eq_getElem h);simp at this
  ·exact h
 have harr:(us++arr.toList.drop us.length).toArray=arr:=by
  apply Array.ext';have e:arr.toList.take us.length=us:=by
   apply List.ext_getElem?
   intro i;by_cases c:i<us.length
   ·rw [List.getElem?_take,if_pos c,List.getElem?_eq_getElem c,Array.getElem?_toList];exact hnew i _ (List.getElem?_eq_getElem c)
   ·rw [List.getElem?_eq_none (l:=us) (by omega),List.getElem?_take,if_neg c]
  have e2:=List.take_append_drop us.length arr.toList;rw [e] at e2;exact e2
 have hw:w'.heap=w.heap.push (.cells (us++arr.toList.drop us.length).toArray T (0,0)):=by
  rw [harr];apply Array.ext_getElem?
  intro i;rw [Array.getElem?_push];by_cases c:i=w.heap.size
  ·subst c;rw [if_pos rfl];exact g
  ·rw [if_neg c];by_cases d:i<w.heap.size
   ·exact hoth i d
   ·rw [Array.getElem?_eq_none (by omega),Array.getElem?_eq_none (by omega)]
 obtain ⟨ver,E',p1,p2,p3⟩:=LM (w':=w') st (rest:=arr.toList.drop us.length) (T:=T) k hr h1 hw o1 o2 o3;refine ⟨ver,E',?_,p2,p3⟩;rw [p1];have:=congrArg Array.size harr;simp only [List.size_toArray] at this;rw [this]
end
def Ih (l:List Int) (i:Nat) (a:Int):List Int:=l.take i++a::l.drop i
theorem Si {l:List Int} {i:Nat} {a:Int} (h:i<=l.length):(Ih l i a).length=l.length+1:=by unfold Ih;simp;omega
def gF (S:AB) (x:AA) (k n:Nat) (ys:List AA) (r:AA) (S':AB):Prop:=
 (∃v',r= .sl S.length v' 0 n/\S'=S++[.row v' k ys])\/ ∃p ver off len cs,x= .sl p ver off len/\S[p]?=some (.row ver k cs)/\off<=cs.length/\r= .sl p ver off n/\S'=S.set p (.row ver k (cs.take off++ys))
abbrev Dk (l:List Int):List Value:=l.map (Value.int .i64)
theorem XF {E:Env} {fz:Nat->Prop} {w:World}: ∀l:List Int,AZ E fz w (Hz l) (Dk l)
 | []=>rfl
 | a::l=>⟨_,_,rfl,rfl,XF l⟩
theorem SE {l:List Int}: ∀c∈Dk l,c.oneCell'=true:=fun c hc=>by
 obtain ⟨a,_,rfl⟩:=List.mem_map.1 hc;rfl
theorem V_ (l:List Int) (i:Nat) (a:Int):Dk (Ih l i a)=(Dk l).take i++Value.int .i64 a::(Dk l).drop i:=by
 unfold Ih Dk;rw [List.map_append,List.map_cons,List.map_take,List.map_drop]
theorem O2 {l:List Int} {i:Nat} {a:Int} (hi:i<=l.length) {j:Nat} {v:Value} (h:(Dk (Ih l i a))[j]?=some v):(j<i/\(Dk l)[j]?=some v)\/(j=i/\v= .int .i64 a)\/(i<j/\(Dk l)[j-1]?=some v):=by
 rw [V_] at h;have ht:((Dk l).take i).length=i:=by rw [List.length_take,List.length_map];omega
 by_cases c:j<i
 ·rw [List.getElem?_append_left (by omega),List.getElem?_take,if_pos c] at h;exact .inl ⟨c,h⟩
 ·rw [List.getElem?_append_right (by omega),ht] at h;by_cases d:j=i
  ·subst d;rw [Nat.sub_self] at h;simp at h;exact .inr (.inl ⟨rfl,h.symm⟩)
  ·obtain ⟨q,hq⟩: ∃q,j-i=q+1:=⟨j-i-1,by omega⟩
   rw [hq,List.getElem?_cons_succ,List.getElem?_drop] at h;exact .inr (.inr ⟨by omega,by rwa [show i+q=j-1 by omega] at h⟩)
structure js (P:Program) (f:FuncId):Prop where
 shift: ∀(b off n c i vb voff vc:Nat) (cs vs:List Value) (w:World),i<n->n+1<=c->vb≠b->cs.length=n->vs.length=1->n<=1000000->
  (∀j v,cs[j]?=some v->w.cell? ⟨b,off+j,none⟩=some v)->(∀j,j<n+1->(w.cell? ⟨b,off+j,none⟩).isSome=true)->(∀j,j<n+1->w.frozen? ⟨b,off+j,none⟩=false)->
  (∀j v,vs[j]?=some v->w.cell? ⟨vb,voff+j,none⟩=some v)->(∀v∈cs,v.oneCell'=true)->(∀v∈vs,v.oneCell'=true)->
  ∀(tA tB:TypeId) (kA kB:Nat),w.shape? vb=some (tA,kA)->w.shape? b=some (tB,kB)->kB≠0->w.frozen? ⟨vb,voff,none⟩=false->w.frozen? ⟨vb,kA,none⟩=false->
  Calls P f #[.slice (some ⟨b,off,none⟩) n c,.int .i64 i,.slice (some ⟨vb,voff,none⟩) 1 vc] w fun e w'=>
   e= .returned (.slice (some ⟨b,off,none⟩) (n+1) c)/\w'=(w.drew.setCells b (off+(i+1)) (cs.drop i)).setCells b (off+i) vs
 room: ∀(b off n c vb voff vc:Nat) (vs:List Value) (w:World),n+1<=c->vs.length=1->n<=1000000->
  (∀j,j<1->(w.cell? ⟨b,off+n+j,none⟩).isSome=true)->(∀j,j<1->w.frozen? ⟨b,off+n+j,none⟩=false)->
  (∀j v,vs[j]?=some v->w.cell? ⟨vb,voff+j,none⟩=some v)->(∀v∈vs,v.oneCell'=true)->
  Calls P f #[.slice (some ⟨b,off,none⟩) n c,.int .i64 n,.slice (some ⟨vb,voff,none⟩) 1 vc] w fun e w'=>
   e= .returned (.slice (some ⟨b,off,none⟩) (n+1) c)/\w'=w.setCells b (off+n) vs
set_option maxHeartbeats 1000000 in
theorem aK {P:Program} {ρ:Ren} (L:Lays2.n21 P ρ) (R:js P (ρ.f 21)) (ha:DC P (ρ.f 21)=true) {S:AB} {q vq:Nat} {l:List Int} {i:Nat} {a:Int} {x:AA} (hq:S[q]?=some (.row vq 0 [.int .i64 a])) (hi:i<=l.length) (hn:l.length<=1000000)
  (hx:(x= .AL/\l=[])\/ ∃p ver off cs,x= .sl p ver off l.length/\S[p]?=some (.row ver 1 cs)/\off+l.length<=cs.length/\A6 cs off l.length=Hz l):
  AV P (ρ.f 21) [x,.int .i64 (i:Int),.sl q vq 0 1] S (gF S x 1 (l.length+1) (Hz (Ih l i a))):=by
 refine ⟨fun E fz w vals st hrel=>?_⟩;simp only [AZ] at hrel;obtain ⟨v1,_,rfl,r1,v2,_,rfl,r2,v3,_,rfl,r3,rfl⟩:=hrel;simp only [Rel] at r2 r3;subst r2;rcases r3 with ⟨h0,_⟩ | ⟨vb,qbase,qcap,qk,qc,q1,q2,q3,rfl⟩
 ·cases h0
 rcases st.ok q _ hq with ⟨g1,g2⟩ | ⟨vb',qbase',qcap',qarr,qT,qlo,qhi,g1,g2,g3,g4,g5,g6,g7⟩
 ·rw [q1] at g1;cases g1
 rw [q1] at g1;cases g1;have g5:qlo=qhi:=g5.resolve_right (by simp);subst g5;obtain ⟨c0,hc0,_,hr0⟩:=g6.get (i:=0) rfl;simp only [Rel] at hr0;subst hr0;have hvs: ∀(j:Nat) v,[Value.int .i64 a][j]?=some v->w.cell? ⟨vb,qbase+0+j,none⟩=some v:=fun j v hj=>by
  cases j with
  | zero=>simp at hj;subst hj;simpa using hc0
  | succ j=>simp at hj
 have hfr: ∀o,w.frozen? ⟨vb,o,none⟩=false:=fun o=>by rw [Gz g2];by_cases c:qlo<=o<;>simp [c]<;>omega
 have hva:w.shape? vb=some (qT,qarr.size):=by unfold World.shape?;rw [g2]
 have il:=Si (a:=a) hi;have fin: ∀ {e:Ending} {w':World} {arr:Array Value} {T:TypeId} {c:Nat},e= .returned (.slice (some ⟨w.heap.size,0,none⟩) (l.length+1) c)->l.length+1<=c->c<=arr.size->w'.heap[w.heap.size]?=some (.cells arr T (0,0))->w'.heap.size=w.heap.size+1->(∀b:Nat,b<w.heap.size->w'.heap[b]?=w.heap[b]?)->
   (∀(j:Nat) v,(Dk (Ih l i a))[j]?=some v->arr[j]?=some v)->w'.os=w.os->w'.output=w.output->Tp w w'->
   ∃r S' v E' fz',e= .returned v/\Ext E fz S w E' fz' S' w'/\St E' fz' S' w'/\Rel E' fz' w' r v/\gF S x 1 (l.length+1) (Hz (Ih l i a)) r S':=fun {e w' arr T c} he hc1 hc2 k1 k2 k3 k4 o1 o2 o3=>by
  obtain ⟨ver,E',p1,p2,p3⟩:=st.qC (k:=1) k1 k2 k3 k4 (XF _) SE o1 o2 o3;exact ⟨.sl S.length ver 0 (l.length+1),_,_,E',fz,he,p3,p2,by
   simp only [Rel];exact .inr ⟨_,_,_,_,c,p1,hc1,by omega,rfl⟩,.inl ⟨ver,rfl,rfl⟩⟩
 have grow0: ∀ {ao:Option Addr},l=[]->v1= .slice ao 0 0->Nl P (ρ.f 21) [v1,.int .i64 (i:Int),.slice (some ⟨vb,qbase+0,none⟩) 1 qc].toArray w fun e w'=> ∃r S' v E' fz',e= .returned v/\Ext E fz S w E' fz' S' w'/\St E' fz' S' w'/\Rel E' fz' w' r v/\gF S x 1 (l.length+1) (Hz (Ih l i a)) r S':=fun {ao} hl0 hv=>by
  subst hl0;subst hv;obtain rfl:i=0:=by simpa using hi
  refine .inl ⟨ha,(Any2.slices_Insert_int_end_grow (P:=P) (ρ:=ρ) L ao 0 0 vb (qbase+0) 1 qc [] [.int .i64 a] w (by omega) (Nat.le_refl _) (by omega) (by omega) rfl rfl (fun _=>rfl) (fun _ _ j v hj=>by simp at hj) hvs (fun v hv=>by simp at hv;subst hv;rfl)).mono ?_⟩;rintro e w' ⟨rfl,rfl⟩;have hg:=grownCap_ge w (0+1) 0 (ρ.t 3);generalize hG:grownCap w (0+1) 0 (ρ.t 3)=cap at*;refine fin (arr:=([]++[Value.int .i64 a]).toArray++Builtin.zeroCells (Value.int .i64 0).cells (cap-(0+1))) (T:=ρ.t 3) (c:=cap) rfl hg (by simp [Builtin.zeroCells,Value.cells];omega) (Zb _ _) (VG _ _) (fun b hb=>Zc _ _ hb) (fun j v hj=>?_) rfl rfl (Tp.of rfl (by show w.drawn<=w.drawn+1;omega));rcases O2 hi hj with ⟨h,_⟩ | ⟨rfl,rfl⟩ | ⟨_,h⟩
  ·omega
  ·rw [Array.getElem?_append_left (by simp)];rfl
  ·simp at h
 rcases hx with ⟨rfl,rfl⟩ | ⟨p,ver,off,cs,rfl,hp,hfit,hcs⟩
 ·simp only [Rel] at r1;exact grow0 rfl r1
 simp only [Rel] at r1;rcases r1 with ⟨hl0,ao,hv⟩ | ⟨b,base,cap,kk,cc,hE,hle,hcap,rfl⟩
 ·exact grow0 (List.length_eq_zero_iff.1 hl0) hv
 rcases st.ok p _ hp with ⟨e1,e2⟩ | ⟨b',base',cap',arr,T,lo,hi',e1,e2,e3,e4,e5,e6,e7⟩
 ·rw [hE] at e1;cases e1
 rw [hE] at e1;cases e1;have hvb:vb≠b:=fun e=>by
  subst e;have:=st.sep q p vb ⟨_,hq,by simp [AU,q1]⟩ ⟨_,hp,by simp [AU,hE]⟩;subst this;rw [hq] at hp;cases hp
 have hbl:b<w.heap.size:=(Array.getElem?_eq_some_iff.1 e2).1;have hcell: ∀(j:Nat) v,(Dk l)[j]?=some v->w.cell? ⟨b,base+off+j,none⟩=some v:=fun j v hj=>by
  have hjl:j<l.length:=by simpa using (List.getElem?_eq_some_iff.1 hj).1
  have h1:cs[off+j]?=some (.int .i64 l[j]):=by
   have h2:(A6 cs off l.length)[j]?=some (.int .i64 l[j]):=by rw [hcs,List.getElem?_map,List.getElem?_eq_getElem hjl];rfl
   unfold A6 at h2;rw [List.getElem?_take,if_pos hjl,List.getElem?_drop] at h2;exact h2
  obtain ⟨c',hc',_,hrel⟩:=e6.get h1;simp only [Rel] at hrel;subst hrel;rw [List.getElem?_map,List.getElem?_eq_getElem hjl] at hj;cases hj;rw [show base+off+j=base+(off+j) by omega];exact hc'
 have hsp: ∀j,off+j<cap->(w.cell? ⟨b,base+off+j,none⟩).isSome=true:=fun j hj=>by
  rw [Ce e2,Array.getElem?_eq_getElem (by omega)];rfl
 have hfz: ∀j,off+j<cap->w.frozen? ⟨b,base+off+j,none⟩=false:=fun j hj=>by
  rw [Gz e2];rcases e5 with e5 | e5
  ·subst e5;by_cases c:lo<=base+off+j<;>simp [c]<;>omega
  ·have: ¬lo<=base+off+j:=by omega
   simp [this]
 have hsb:w.shape? b=some (T,arr.size):=by unfold World.shape?;rw [e2]
 have hmk: ∀ {e:Ending} {w':World} {arr':Array Value},e= .returned (.slice (some ⟨b,base+off,none⟩) (l.length+1) cc)->l.length+1<=cc->w'.heap[b]?=some (.cells arr' T (lo,hi'))->arr'.size=arr.size->(∀b':Nat,b'≠b->w'.heap[b']?=w.heap[b']?)->w'.heap.size=w.heap.size->(∀t,t<off->arr'[base+t]?=arr[base+t]?)->
   (∀(j:Nat) v,(Dk (Ih l i a))[j]?=some v->arr'[base+off+j]?=some v)->w'.os=w.os->w'.output=w.output->Tp w w'->
   ∃r S' v E' fz',e= .returned v/\Ext E fz S w E' fz' S' w'/\St E' fz' S' w'/\Rel E' fz' w' r v/\gF S (.sl p ver off l.length) 1 (l.length+1) (Hz (Ih l i a)) r S':=fun {e w' arr'} he hc k1 k2 k3 k4 k5 k6 o1 o2 o3=>by
  obtain ⟨p1,p2⟩:=st.rewrite hp hE e2 k1 k2 k3 k4 (off:=off) (by omega) (by simp only [List.length_map,il];omega) k5 k6 (XF _) SE o1 o2 o3;exact ⟨.sl p ver off (l.length+1),_,_,E,fz,he,p2,p1,by
   simp only [Rel];exact .inr ⟨b,base,cap,1,cc,hE,hc,hcap,rfl⟩,.inr ⟨p,ver,off,_,cs,rfl,hp,by omega,rfl,rfl⟩⟩
 have hvl:(Dk l).length=l.length:=by simp
 by_cases hroom:l.length+1<=cc
 ·by_cases hin:i<l.length
  ·refine .inl ⟨ha,(R.shift b (base+off) l.length cc i vb (qbase+0) qc (Dk l) [.int .i64 a] w hin hroom hvb hvl rfl hn hcell (fun j hj=>hsp j (by omega)) (fun j hj=>hfz j (by omega)) hvs (fun v hv=>SE v hv) (fun v hv=>by simp at hv;subst hv;rfl)
    qT T qarr.size arr.size hva hsb (by omega) (hfr _) (hfr _)).mono ?_⟩
   rintro e w' ⟨rfl,rfl⟩;obtain ⟨s1,s2,s3,s4,s5,s6⟩:=B2 b ((Dk l).drop i) (base+off+(i+1)) w.drew;obtain ⟨t1,t2,t3,t4,t5,t6⟩:=B2 b [.int .i64 a] (base+off+i) (w.drew.setCells b (base+off+(i+1)) ((Dk l).drop i));obtain ⟨arr1,k1,k2,k3⟩:=Ay b ((Dk l).drop i) (base+off+(i+1)) w.drew (arr:=arr) (T:=T) (m:=(lo,hi')) e2;obtain ⟨arr2,m1,m2,m3⟩:=Ay b [.int .i64 a] (base+off+i) _ k1;have hdl:((Dk l).drop i).length=l.length-i:=by rw [List.length_drop,hvl]
   refine hmk rfl hroom m1 (by rw [m2,k2]) (fun b' hb=>(t6 b' hb).trans (s6 b' hb)) (t5.trans s5) (fun t ht=>?_) (fun j v hj=>?_) (t1.trans s1) (t2.trans s2) (Tp.of (t3.trans s3) (by rw [t4,s4];show w.drawn<=w.drawn+1;omega))
   ·rw [m3,if_neg (by omega),k3,if_neg (by omega)]
   ·have hjl:j<l.length+1:=by have:=(List.getElem?_eq_some_iff.1 hj).1;simp only [List.length_map,il] at this;exact this
    rcases O2 hi hj with ⟨h,h'⟩ | ⟨rfl,rfl⟩ | ⟨h,h'⟩
    ·rw [m3,if_neg (by simp;omega),k3,if_neg (by omega)];have:=hcell j v h';rwa [Ce e2] at this
    ·rw [m3,if_pos ⟨Nat.le_refl _,by simp,by omega⟩];simp
    ·rw [m3,if_neg (by simp;omega),k3,if_pos ⟨by omega,by rw [hdl];omega,by omega⟩,List.getElem?_drop];rw [show i+(base+off+j-(base+off+(i+1)))=j-1 by omega];exact h'
  ·obtain rfl:i=l.length:=by omega
   refine .inl ⟨ha,(R.room b (base+off) l.length cc vb (qbase+0) qc [.int .i64 a] w hroom rfl hn (fun j hj=>by rw [show base+off+l.length+j=base+off+(l.length+j) by omega];exact hsp _ (by omega)) (fun j hj=>by rw [show base+off+l.length+j=base+off+(l.length+j) by omega];exact hfz _ (by omega)) hvs (fun v hv=>by simp at hv;subst hv;rfl)).mono ?_⟩;rintro e w' ⟨rfl,rfl⟩;obtain ⟨s1,s2,s3,s4,s5,s6⟩:=B2 b [.int .i64 a] (base+off+l.length) w;obtain ⟨arr1,k1,k2,k3⟩:=Ay b [.int .i64 a] (base+off+l.length) w e2;refine hmk rfl hroom k1 k2 (fun b' hb=>s6 b' hb) s5 (fun t ht=>?_) (fun j v hj=>?_) s1 s2 (Tp.of s3 (by rw [s4];exact Nat.le_refl _))
   ·rw [k3,if_neg (by omega)]
   ·rcases O2 hi hj with ⟨h,h'⟩ | ⟨rfl,rfl⟩ | ⟨h,h'⟩
    ·rw [k3,if_neg (by simp;omega)];have:=hcell j v h';rwa [Ce e2] at this
    ·rw [k3,if_pos ⟨Nat.le_refl _,by simp,by omega⟩];simp
    ·have:=(List.getElem?_eq_some_iff.1 h').1;simp at this;omega
 ·by_cases hin:i<l.length
  ·refine .inl ⟨ha,(Any2.slices_Insert_int_grow (P:=P) (ρ:=ρ) L b (base+off) l.length cc i vb (qbase+0) 1 qc (Dk l) [.int .i64 a] w hin (by omega) hle (by omega) (by omega) hvl rfl hcell hvs (fun v hv=>SE v hv) (fun v hv=>by simp at hv;subst hv;rfl)).mono ?_⟩;rintro e w' ⟨rfl,rfl⟩;have hg:=grownCap_ge w (l.length+1) cc (ρ.t 3);generalize hG:grownCap w (l.length+1) cc (ρ.t 3)=gcap at*;generalize hrow:((Dk l).take i).toArray++Builtin.zeroCells (Value.int .i64 0).cells (l.length+1-i)++Builtin.zeroCells (Value.int .i64 0).cells (gcap-(l.length+1))=row;have hrs:row.size=gcap:=by rw [<-hrow];simp [Builtin.zeroCells,Value.cells];omega
   have hA:(w.alloc (.cells row (ρ.t 3))).drew.heap[w.heap.size]?=some (.cells row (ρ.t 3) (0,0)):=Zb _ _;obtain ⟨s1,s2,s3,s4,s5,s6⟩:=B2 w.heap.size [.int .i64 a] i (w.alloc (.cells row (ρ.t 3))).drew;obtain ⟨arr1,k1,k2,k3⟩:=Ay w.heap.size [.int .i64 a] i _ hA;obtain ⟨t1,t2,t3,t4,t5,t6⟩:=B2 w.heap.size ((Dk l).drop i) (i+1) ((w.alloc (.cells row (ρ.t 3))).drew.setCells w.heap.size i [.int .i64 a]).drew;obtain ⟨arr2,m1,m2,m3⟩:=Ay w.heap.size ((Dk l).drop i) (i+1) ((w.alloc (.cells row (ρ.t 3))).drew.setCells w.heap.size i [.int .i64 a]).drew (arr:=arr1) (T:=ρ.t 3) (m:=(0,0)) k1;have hdl:((Dk l).drop i).length=l.length-i:=by rw [List.length_drop,hvl]
   refine fin (arr:=arr2) (T:=ρ.t 3) (c:=gcap) rfl hg (by omega) m1 (t5.trans (s5.trans (VG _ _))) (fun b' hb=>(t6 b' (by omega)).trans ((s6 b' (by omega)).trans (Zc _ _ hb))) (fun j v hj=>?_) (t1.trans s1) (t2.trans s2) (Tp.of (t3.trans s3) (by rw [t4];show w.drawn<=(World.setCells _ _ _ _).drawn+1;rw [s4];show w.drawn<=w.drawn+1+1;omega));have hjl:j<l.length+1:=by have:=(List.getElem?_eq_some_iff.1 hj).1;simp only [List.length_map,il] at this;exact this
   rcases O2 hi hj with ⟨h,h'⟩ | ⟨rfl,rfl⟩ | ⟨h,h'⟩
   ·rw [m3,if_neg (by omega),k3,if_neg (by simp;omega),<-hrow,Array.getElem?_append_left (by simp [Builtin.zeroCells,Value.cells];omega),Array.getElem?_append_left (by simp;omega)];rw [List.getElem?_toArray,List.getElem?_take,if_pos h];exact h'
   ·rw [m3,if_neg (by omega),k3,if_pos ⟨Nat.le_refl _,by simp,by omega⟩];simp
   ·rw [m3,if_pos ⟨by omega,by rw [hdl];omega,by omega⟩,List.getElem?_drop];rw [show i+(j-(i+1))=j-1 by omega];exact h'
  ·obtain rfl:i=l.length:=by omega
   refine .inl ⟨ha,(Any2.slices_Insert_int_end_grow (P:=P) (ρ:=ρ) L (some ⟨b,base+off,none⟩) l.length cc vb (qbase+0) 1 qc (Dk l) [.int .i64 a] w (by omega) hle (by omega) (by omega) hvl rfl (fun h=>by cases h) (fun a' ha' j v hj=>by cases ha';rw [Addr.add_lit];exact hcell j v hj) hvs (fun v hv=>by simp at hv;subst hv;rfl)).mono ?_⟩;rintro e w' ⟨rfl,rfl⟩;have hg:=grownCap_ge w (l.length+1) cc (ρ.t 3);generalize hG:grownCap w (l.length+1) cc (ρ.t 3)=gcap at*;refine fin (arr:=(Dk l++[Value.int .i64 a]).toArray++Builtin.zeroCells (Value.int .i64 0).cells (gcap-(l.length+1))) (T:=ρ.t 3) (c:=gcap) rfl hg (by simp [Builtin.zeroCells,Value.cells];omega) (Zb _ _) (VG _ _) (fun b' hb=>Zc _ _ hb) (fun j v hj=>?_) rfl rfl (Tp.of rfl (by show w.drawn<=w.drawn+1;omega));have hjl:j<l.length+1:=by have:=(List.getElem?_eq_some_iff.1 hj).1;simp only [List.length_map,il] at this;exact this
   rw [Array.getElem?_append_left (by simp;omega),List.getElem?_toArray];rwa [show Dk (Ih l l.length a)=Dk l++[.int .i64 a] by rw [V_,List.take_of_length_le (by simp),List.drop_of_length_le (by simp)]] at hj
end Go.Vc
end
section
namespace Go.Proofs
open Go.RowKit Go.Shelf Go.Vc
set_option maxHeartbeats 4000000 in
set_option maxRecDepth 100000 in
theorem iU (b off n c i vb voff vc:Nat) (cs vs:List Value) (w:World) (hi:i<n) (hroom:n+1<=c) (hn6:n<=1000000) (hvb:vb≠b)
    (hcl:cs.length=n) (hvl:vs.length=1)
    (hcs: ∀j v,cs[j]?=some v->w.cell? ⟨b,off+j,none⟩=some v) (hsp: ∀j,j<(n+1)->(w.cell? ⟨b,off+j,none⟩).isSome=true) (hfz: ∀j,j<(n+1)->w.frozen? ⟨b,off+j,none⟩=false)
    (hvs: ∀j v,vs[j]?=some v->w.cell? ⟨vb,voff+j,none⟩=some v) (h1c: ∀v∈cs,v.oneCell'=true) (h1v: ∀v∈vs,v.oneCell'=true)
    (tA tB:TypeId) (kA kB:Nat) (hsa:w.shape? vb=some (tA,kA)) (hsb:w.shape? b=some (tB,kB)) (hkB:kB≠0) (hfa:w.frozen? ⟨vb,voff,none⟩=false) (hfe:w.frozen? ⟨vb,kA,none⟩=false):
    Calls Tryz.prog 78 #[.slice (some ⟨b,off,none⟩) n c,.int .i64 i,.slice (some ⟨vb,voff,none⟩) 1 vc] w fun e w'=>
      e= .returned (.slice (some ⟨b,off,none⟩) (n+1) c)/\w'=(w.drew.setCells b (off+(i+1)) (cs.drop (i))).setCells b (off+i) vs:=by
  have hz2: ¬((i:Int)=(n:Int)):=by omega
  obtain ⟨i0,hi0,hz0,hz1⟩: ∃i0,Tryz.prog.info? 3=some i0/\i0.size=1/\True:=⟨(Tryz.prog.info? 3).get (by kernel_rfl),by kernel_rfl,by kernel_rfl,trivial⟩
  have hov: ∀lb cb,(callFunc 100 #[.slice (some ⟨vb,voff,none⟩) 1 vc,.slice (some ⟨b,off+(i+1),none⟩) lb cb]).run Tryz.prog w= .ok (.value (.bool false)) w:=fun lb cb=>by
    rw [run_callFunc_extern Tryz.func100 (by kernel_rfl) (by kernel_rfl) (by kernel_rfl) (e:=Extern.SlicesOverlaps.overlaps #[32,32] #[4]) (by kernel_rfl),
      Lib.run_overlaps_apart w 32 4 3 Tryz.underlying32 1 Tryz.sizeOf3 ⟨vb,voff,none⟩ ⟨b,off+(i+1),none⟩ 1 vc lb cb hvb tA tB kA kB hsa hsb hkB hfa hfe]
    rfl
  have hdl:(cs.drop (i)).length=(n-i):=by rw [List.length_drop,hcl]
  have hw1:IntKind.i64.wrap ((i:Int)+1)=(i:Int)+1:=by rw [IntKind.wrap_i64];omega
  have hin:i<=n:=by omega
  have hmin:Nat.min (n+1-i) (n-i)=n-i:=by simp only [Nat.min_def];split<;>omega
  have hmin2: ∀d,1<=d->Nat.min 1 d=1:=fun d hd=>by simp only [Nat.min_def];split<;>omega
  have hcp1: ∀ty dc sc,(Builtin.copy_ #[32,32] ty #[.slice (some ⟨b,off+(i+1),none⟩) (n-i) dc,.slice (some ⟨b,off+i,none⟩) (n+1-i) sc]).run Tryz.prog w.drew= .ok (goInt ((n-i:Nat):Int)) (w.drew.setCells b (off+(i+1)) (cs.drop (i))):=fun ty dc sc=>by
    rw [EK (P:=Tryz.prog) w.drew 32 32 ty 3 i0 b (off+(i+1)) (n-i) dc ⟨b,off+i,none⟩ (n+1-i) sc (cs.drop (i)) Tryz.underlying32 hi0 (by rw [hdl,hmin,hz0,Nat.mul_one])
      (fun j v hj=>by rw [Addr.add_lit,Nat.add_assoc];exact hcs (i+j) v (by rwa [List.getElem?_drop] at hj))
      (fun j hj=>by rw [Nat.add_assoc];exact hsp _ (by omega)) (fun j hj=>by rw [Nat.add_assoc];exact hfz _ (by omega)) (fun v hv=>h1c v (List.mem_of_mem_drop hv)),hmin]
  obtain ⟨W1,hW1⟩: ∃W1,W1=w.drew.setCells b (off+(i+1)) (cs.drop (i)):=⟨_,rfl⟩
  have hsp1: ∀k,k<(n+1)->(W1.cell? ⟨b,off+k,none⟩).isSome=true:=fun k hk=>by
    rw [hW1];exact isSome_setCells b _ _ _ (fun j hj=>by rw [Nat.add_assoc];exact hsp _ (by omega)) _ (hsp k hk)
  have hcp2: ∀(W:World),(∀x,W.cell? x=W1.cell? x)->(∀x,W.frozen? x=W1.frozen? x)-> ∀ty dc,(Builtin.copy_ #[32,32] ty #[.slice (some ⟨b,off+i,none⟩) (n+1-i) dc,.slice (some ⟨vb,voff,none⟩) 1 vc]).run Tryz.prog W= .ok (goInt ((1:Nat):Int)) (W.setCells b (off+i) vs):=fun W hWc hWf ty dc=>by
    rw [EK (P:=Tryz.prog) W 32 32 ty 3 i0 b (off+i) (n+1-i) dc ⟨vb,voff,none⟩ 1 vc vs Tryz.underlying32 hi0 (by rw [hvl,hz0,hmin2 _ (by omega)])
      (fun j v hj=>by
        rw [Addr.add_lit,hWc,hW1,World.cell?_setCells_out b _ _ _ _ (fun h _=>absurd h hvb)];exact hvs j v hj)
      (fun j hj=>by rw [hWc,Nat.add_assoc];exact hsp1 _ (by omega)) (fun j hj=>by rw [hWf,hW1,World.frozen?_setCells,Nat.add_assoc];exact hfz _ (by omega)) h1v,hmin2 _ (by omega)]
  rw [<-hW1] at hcp1;have mixed:Tryz.prog.follows .mixedOrders=true:=by kernel_rfl
  have u22:=run_underlying Tryz.underlying32;have z24:=Tryz.sizeOf3;have hb1:(0:Int)<=(i:Int)+1:=by omega
  have htn:((i:Int)+1).toNat=i+1:=by omega
  have hb2: ¬(c=i+1):=by omega
  have hb3:(i:Int)<=(n:Int)+1:=by omega
  have hb4: ¬(c=i):=by omega
  have hb5:(i:Int)+1<=(n:Int)+1:=by omega
  go_enter Tryz.func78,Tryz.ntmps78
  go_wp2_with (simp only [hov])
  go_region_law_o (refine step_copy_runI rfl _ _ 32 32 rfl _ _ (by simp [Act.eval,Act.put]) (by simp [Act.eval,Act.put]) (hcp1 _ _ _) ?_)
  go_wp2_with (at_builtin;refine wpList_copy_runI _ rfl _ _ 32 32 rfl _ _ rfl rfl (hcp2 _ (fun _=>rfl) (fun _=>rfl) _ _) ?_)
  go_ret
  first | exact ⟨rfl,rfl⟩ | exact ⟨rfl,by rw [hW1]⟩
theorem pe: ∃i0,Tryz.prog.info? 3=some i0/\i0.size=1/\True:=⟨(Tryz.prog.info? 3).get (by kernel_rfl),by kernel_rfl,by kernel_rfl,trivial⟩
set_option maxHeartbeats 4000000 in
set_option maxRecDepth 100000 in
theorem mQ (b off n c vb voff vc:Nat) (vs:List Value) (w:World) (hroom:n+1<=c) (hn6:n<=1000000) (hvl:vs.length=1)
    (hsp: ∀j,j<1->(w.cell? ⟨b,off+n+j,none⟩).isSome=true) (hfz: ∀j,j<1->w.frozen? ⟨b,off+n+j,none⟩=false)
    (hvs: ∀j v,vs[j]?=some v->w.cell? ⟨vb,voff+j,none⟩=some v) (h1v: ∀v∈vs,v.oneCell'=true):
    Calls Tryz.prog 78 #[.slice (some ⟨b,off,none⟩) n c,.int .i64 n,.slice (some ⟨vb,voff,none⟩) 1 vc] w fun e w'=>
      e= .returned (.slice (some ⟨b,off,none⟩) (n+1) c)/\w'=w.setCells b (off+n) vs:=by
  obtain ⟨i0,hi0,hz0,_⟩:=pe;have hst:=run_storeCells_cells (P:=Tryz.prog) b (off+n) vs 0 w (fun j hj=>by simpa using hsp j (by omega)) (fun j hj=>by simpa using hfz j (by omega)) h1v;have hrun: ∀ty,(Builtin.append_ #[32,32] ty #[.slice (some ⟨b,off,none⟩) n c,.slice (some ⟨vb,voff,none⟩) 1 vc]).run Tryz.prog w= .ok (.slice (some ⟨b,off,none⟩) (n+1) c) (w.setCells b (off+n) vs):=fun ty=>by
    rw [D6 (P:=Tryz.prog) (w:=w) (base:=some ⟨b,off,none⟩) (sLen:=n) (sCap:=c) (n:=1) (news:=vs) (i:=i0) (t:=32) (u:=32) rfl rfl rfl rfl Tryz.underlying32 Tryz.underlying32 (.inl ⟨_,rfl⟩) hi0 (by simp [Builtin.lenOf])
      (run_firstCells_some (P:=Tryz.prog) w i0.size 1 ⟨vb,voff,none⟩ 1 vc vs (by rw [hvl,hz0]) fun j v hj=>by rw [Addr.add_lit];exact hvs j v hj) hroom]
    simp only [Addr.add_lit,hz0,Nat.mul_one];simp only [Nat.add_zero] at hst;rw [hst];rfl
  go_enter Tryz.func78,Tryz.ntmps78
  go_wp2_with (at_builtin;refine Lib.wpList_append_run _ rfl _ _ _ _ rfl _ _ rfl rfl _ _ (hrun _) ?_)
  go_ret
  exact ⟨rfl,rfl⟩
theorem sz:js Tryz.prog 78:=
  ⟨fun b off n c i vb voff vc cs vs w h1 h2 h3 h4 h5 h6 h7 h8 h9 h10 h11 h12 tA tB kA kB h13 h14 h15 h16 h17=>iU b off n c i vb voff vc cs vs w h1 h2 h6 h3 h4 h5 h7 h8 h9 h10 h11 h12 tA tB kA kB h13 h14 h15 h16 h17,
   fun b off n c vb voff vc vs w h1 h2 h3 h4 h5 h6 h7=>mQ b off n c vb voff vc vs w h1 h3 h2 h4 h5 h6 h7⟩
end Go.Proofs
end
section
namespace Go.Proofs
open Go.Shelf
def Tryz.yX:Go.Shelf.Ren:=⟨fun | 5=>56 | 8=>85 | 7=>84 | 19=>110 | 20=>111 | 10=>102 | 11=>103 | 12=>104 | 13=>105 | 14=>106 | 15=>107 | 16=>98 | 17=>108 | 18=>109 | 30=>122 | 31=>123 | 32=>124 | 33=>125 | 34=>126 | 35=>120 | 40=>130 | n=>n,fun | 23=>32 | 25=>3 | 3=>3 | 32=>141 | 22=>32 | 0=>0 | 44=>179 | 46=>181 | 4=>4 | 36=>173 | 35=>172 | 41=>112 | 5=>5 | 9=>9 | 53=>186 | 57=>190 | 63=>193 | 64=>144 | n=>n,fun | n=>n⟩
theorem Tryz.yZ:Go.Proofs.SlLaysM.n5 Tryz.prog Tryz.yX:={
 mixed:=by kernel_rfl
 f5:=⟨Tryz.f56.name,by decide,Tryz.func56.trans (congrArg some (by kernel_rfl))⟩
 f7:=⟨Tryz.f84.name,by decide,Tryz.func84.trans (congrArg some (by kernel_rfl))⟩
 f8:=Tryz.func85.trans (congrArg some (by kernel_rfl))
 f10:=⟨Tryz.f102.name,by decide,Tryz.func102.trans (congrArg some (by kernel_rfl))⟩
 f11:=⟨Tryz.f103.name,by decide,Tryz.func103.trans (congrArg some (by kernel_rfl))⟩
 f12:=⟨Tryz.f104.name,by decide,Tryz.func104.trans (congrArg some (by kernel_rfl))⟩
 f13:=⟨Tryz.f105.name,by decide,Tryz.func105.trans (congrArg some (by kernel_rfl))⟩
 f14:=⟨Tryz.f106.name,by decide,Tryz.func106.trans (congrArg some (by kernel_rfl))⟩
 f15:=⟨Tryz.f107.name,by decide,Tryz.func107.trans (congrArg some (by kernel_rfl))⟩
 f16:=⟨Tryz.f98.name,by decide,Tryz.func98.trans (congrArg some (by kernel_rfl))⟩
 f17:=⟨Tryz.f108.name,by decide,Tryz.func108.trans (congrArg some (by kernel_rfl))⟩
 f18:=⟨Tryz.f109.name,by decide,Tryz.func109.trans (congrArg some (by kernel_rfl))⟩
 f19:=Tryz.func110.trans (congrArg some (by kernel_rfl))
 f20:=Tryz.func111.trans (congrArg some (by kernel_rfl))
 f30:=⟨Tryz.f122.name,by decide,Tryz.func122.trans (congrArg some (by kernel_rfl))⟩
 f31:=Tryz.func123.trans (congrArg some (by kernel_rfl))
 f32:=Tryz.func124.trans (congrArg some (by kernel_rfl))
 f33:=⟨Tryz.f125.name,by decide,Tryz.func125.trans (congrArg some (by kernel_rfl))⟩
 f34:=⟨Tryz.f126.name,by decide,Tryz.func126.trans (congrArg some (by kernel_rfl))⟩
 f35:=⟨Tryz.f120.name,by decide,Tryz.func120.trans (congrArg some (by kernel_rfl))⟩
 f40:=⟨Tryz.f130.name,by decide,Tryz.func130.trans (congrArg some (by kernel_rfl))⟩
 t0:=Tryz.underlying0
 a0:=Tryz.isAgg0
 z0:=Tryz.sizeOf0
 v0:=Tryz.zeroValue0
 t3:=Tryz.underlying3
 a3:=Tryz.isAgg3
 z3:=Tryz.sizeOf3
 v3:=Tryz.zeroValue3
 t4:=Tryz.underlying4
 a4:=Tryz.isAgg4
 z4:=Tryz.sizeOf4
 v4:=Tryz.zeroValue4
 t5:=Tryz.underlying5
 a5:=Tryz.isAgg5
 z5:=Tryz.sizeOf5
 v5:=Tryz.zeroValue5
 t9:=Tryz.underlying9
 a9:=Tryz.isAgg9
 z9:=Tryz.sizeOf9
 v9:=Tryz.zeroValue9
 t22:=Tryz.underlying32
 a22:=Tryz.isAgg32
 z22:=Tryz.sizeOf32
 v22:=Tryz.zeroValue32
 t23:=Tryz.underlying32
 a23:=Tryz.isAgg32
 z23:=Tryz.sizeOf32
 v23:=Tryz.zeroValue32
 t25:=Tryz.underlying3
 a25:=Tryz.isAgg3
 z25:=Tryz.sizeOf3
 v25:=Tryz.zeroValue3
 t32:=Tryz.underlying141
 a32:=Tryz.isAgg141
 z32:=Tryz.sizeOf141
 v32:=Tryz.zeroValue141
 t35:=Tryz.underlying172
 a35:=Tryz.isAgg172
 z35:=Tryz.sizeOf172
 v35:=Tryz.zeroValue172
 t36:=Tryz.underlying173
 a36:=Tryz.isAgg173
 z36:=Tryz.sizeOf173
 v36:=Tryz.zeroValue173
 t41:=Tryz.underlying112
 a41:=Tryz.isAgg112
 z41:=Tryz.sizeOf112
 v41:=Tryz.zeroValue112
 t44:=Tryz.underlying179
 a44:=Tryz.isAgg179
 z44:=Tryz.sizeOf179
 v44:=Tryz.zeroValue179
 t46:=Tryz.underlying181
 a46:=Tryz.isAgg181
 z46:=Tryz.sizeOf181
 v46:=Tryz.zeroValue181
 t53:=Tryz.underlying186
 a53:=Tryz.isAgg186
 z53:=Tryz.sizeOf186
 v53:=Tryz.zeroValue186
 t57:=Tryz.underlying190
 a57:=Tryz.isAgg190
 z57:=Tryz.sizeOf190
 v57:=Tryz.zeroValue190
 t63:=Tryz.underlying193
 a63:=Tryz.isAgg193
 z63:=Tryz.sizeOf193
 v63:=Tryz.zeroValue193
 t64:=Tryz.underlying144
 a64:=Tryz.isAgg144
 z64:=Tryz.sizeOf144
 v64:=Tryz.zeroValue144}
def Tryz.yY:Go.Shelf.Ren:=⟨fun | 21=>78 | 27=>100 | 28=>101 | 35=>121 | 39=>129 | n=>n,fun | 22=>32 | 3=>3 | 4=>4 | 0=>0 | n=>n,fun | n=>n⟩
theorem Tryz.yc:Go.Proofs.Lays2.n21 Tryz.prog Tryz.yY:={
 mixed:=by kernel_rfl
 f21:=Tryz.func78.trans (congrArg some (by kernel_rfl))
 f27:=Tryz.func100.trans (congrArg some (by kernel_rfl))
 f28:=Tryz.func101.trans (congrArg some (by kernel_rfl))
 f35:=Tryz.func121.trans (congrArg some (by kernel_rfl))
 f39:=Tryz.func129.trans (congrArg some (by kernel_rfl))
 t0:=Tryz.underlying0
 a0:=Tryz.isAgg0
 z0:=Tryz.sizeOf0
 v0:=Tryz.zeroValue0
 t3:=Tryz.underlying3
 a3:=Tryz.isAgg3
 z3:=Tryz.sizeOf3
 v3:=Tryz.zeroValue3
 t4:=Tryz.underlying4
 a4:=Tryz.isAgg4
 z4:=Tryz.sizeOf4
 v4:=Tryz.zeroValue4
 t22:=Tryz.underlying32
 a22:=Tryz.isAgg32
 z22:=Tryz.sizeOf32
 v22:=Tryz.zeroValue32
 i3:=by kernel_rfl}
end Go.Proofs
end
section
set_option maxRecDepth 100000
namespace Go.Proofs.YtlibocgedgdmlaaGreat.E
open Go.Vc Go.Fu
def LV:Nk->List (AA×AA)->HM->Prop
 | [],es,m=>es=[]/\m=HM.nil
 | (w,l)::T,es,m=> ∃x es' m1 m2,es=(.str w,x)::es'/\m=m1+m2/\Ed 1 x (ints l) l.length m1/\LV T es' m2
theorem LV.keys: ∀ {T:Nk} {es:List (AA×AA)} {m:HM},LV T es m->Keys .str es
 | [],es,m,h=>by rw [h.1];exact Keys.nil
 | (w,l)::T,es,m,⟨x,es',m1,m2,h1,_,_,h⟩=>by
  subst h1;intro e he;rcases List.mem_cons.1 he with rfl | he
  ·rfl
  ·exact LV.keys h e he
theorem LV.len: ∀ {T:Nk} {es:List (AA×AA)} {m:HM},LV T es m->es.length=T.length
 | [],es,m,h=>by rw [h.1];rfl
 | (w,l)::T,es,m,⟨x,es',m1,m2,h1,_,_,h⟩=>by rw [h1,List.length_cons,LV.len h];rfl
theorem LV.at_: ∀ {T:Nk} {es:List (AA×AA)} {m:HM},LV T es m-> ∀ {i:Nat} {w:Bytes} {l:List Int},T[i]?=some (w,l)-> ∃x m1 R,es[i]?=some (.str w,x)/\m=m1+R/\Ed 1 x (ints l) l.length m1/\
  ∀x' l' m1',Ed 1 x' (ints l') l'.length m1'->LV (T.set i (w,l')) (es.set i (.str w,x')) (m1'+R)
 | [],es,m,h,i,w,l,hi=>by simp at hi
 | (u,a)::T,es,m,⟨x,es',m1,m2,h1,h2,h3,h⟩,0,w,l,hi=>by
  simp at hi;obtain ⟨rfl,rfl⟩:=hi;subst h1;exact ⟨x,m1,m2,rfl,h2,h3,fun x' l' m1' h'=>⟨x',es',m1',m2,rfl,rfl,h',h⟩⟩
 | (u,a)::T,es,m,⟨x,es',m1,m2,h1,h2,h3,h⟩,i+1,w,l,hi=>by
  subst h1;obtain ⟨y,n1,R,g1,g2,g3,g4⟩:=LV.at_ h (i:=i) (w:=w) (l:=l) (by simpa using hi);refine ⟨y,n1,m1+R,by simpa using g1,by rw [h2,g2];ac_rfl,g3,fun x' l' m1' h'=>⟨x,_,m1,m1'+R,rfl,by ac_rfl,h3,g4 x' l' m1' h'⟩⟩
theorem LV.app: ∀ {T:Nk} {es:List (AA×AA)} {m:HM},LV T es m-> ∀ {w:Bytes} {l:List Int} {x:AA} {m1:HM},Ed 1 x (ints l) l.length m1->LV (T++[(w,l)]) (es++[(.str w,x)]) (m1+m)
 | [],es,m,h,w,l,x,m1,h'=>by rw [h.1,h.2];exact ⟨x,[],m1,HM.nil,rfl,rfl,h',rfl,rfl⟩
 | (u,a)::T,es,m,⟨y,es',n1,n2,h1,h2,h3,h⟩,w,l,x,m1,h'=>by
  subst h1;exact ⟨y,_,n1,m1+n2,rfl,by rw [h2];ac_rfl,h3,LV.app h h'⟩
theorem LV.key (w:Bytes): ∀ {T:Nk} {es:List (AA×AA)} {m:HM},LV T es m->(IF (.str w) es=none/\w ∉ T.map (·.1))\/ ∃i l x,IF (.str w) es=some (i,x)/\T[i]?=some (w,l)/\es[i]?=some (.str w,x)
 | [],es,m,h=>by rw [h.1];exact .inl ⟨rfl,by simp⟩
 | (u,a)::T,es,m,⟨x,es',m1,m2,h1,h2,h3,h⟩=>by
  subst h1;by_cases e:u=w
  ·subst e;exact .inr ⟨0,a,x,by simp [IF,LJ],rfl,rfl⟩
  ·have k1:LJ (.str w) (.str u)=false:=by simp only [LJ,beq_eq_false_iff_ne];exact fun q=>e q.symm
   rcases LV.key w h with ⟨g1,g2⟩ | ⟨i,l,y,g1,g2,g3⟩
   ·exact .inl ⟨by unfold IF;rw [k1,g1],by simp only [List.map_cons,List.mem_cons,not_or];exact ⟨fun q=>e q.symm,g2⟩⟩
   ·exact .inr ⟨i+1,l,y,by unfold IF;rw [k1,g1],by simpa using g2,by simpa using g3⟩
theorem rK: ∀ {T:Nk} {w:Bytes},w ∉ T.map (·.1)->Gq T w=[]
 | [],_,_=>rfl
 | (u,a)::T,w,h=>by
  simp only [List.map_cons,List.mem_cons,not_or] at h;simp only [Gq];rw [if_neg (fun e=>h.1 e.symm)];exact rK h.2
theorem lC: ∀ {T:Nk} {i:Nat} {w:Bytes} {l l':List Int} (u:Bytes),(T.map (·.1)).Nodup->T[i]?=some (w,l)->Gq (T.set i (w,l')) u=if u=w then l' else Gq T u
 | [],i,w,l,l',u,_,h=>by simp at h
 | (v,a)::T,0,w,l,l',u,hn,h=>by
  simp at h;obtain ⟨rfl,rfl⟩:=h;simp only [List.set_cons_zero,Gq];by_cases e:v=u
  ·rw [if_pos e,if_pos e.symm]
  ·rw [if_neg e,if_neg (Ne.symm e),if_neg e]
 | (v,a)::T,i+1,w,l,l',u,hn,h=>by
  simp only [List.map_cons,List.nodup_cons] at hn;have h:T[i]?=some (w,l):=by simpa using h
  have ih:=lC (l':=l') u hn.2 h;simp only [List.set_cons_succ,Gq];by_cases e:v=u
  ·rw [if_pos e,if_pos e,if_neg];intro q;exact hn.1 (e.trans q▸List.mem_map_of_mem (f:=(·.1)) (List.mem_of_getElem? h))
  ·rw [if_neg e,if_neg e,ih]
theorem lA {w:Bytes} {l:List Int} (u:Bytes): ∀ {T:Nk},w ∉ T.map (·.1)->Gq (T++[(w,l)]) u=if u=w then l else Gq T u
 | [],_=>by
  simp only [List.nil_append,Gq];by_cases e:w=u
  ·rw [if_pos e,if_pos e.symm]
  ·rw [if_neg e,if_neg (Ne.symm e)]
 | (v,a)::T,h=>by
  simp only [List.map_cons,List.mem_cons,not_or] at h;simp only [List.cons_append,Gq];by_cases e:v=u
  ·rw [if_pos e,if_pos e,if_neg (fun q=>h.1 (e.trans q).symm)]
  ·rw [if_neg e,if_neg e,lA u h.2]
theorem rA {T:Nk} {i:Nat} {w:Bytes} {l l':List Int} (h:T[i]?=some (w,l)):(T.set i (w,l')).map (·.1)=T.map (·.1):=by
 apply List.ext_getElem?
 intro j;rw [List.map_set];by_cases c:i=j
 ·subst c;have hi:=(List.getElem?_eq_some_iff.1 h).1;rw [List.getElem?_set_self (by simpa using hi),List.getElem?_map,h];rfl
 ·rw [List.getElem?_set_ne c]
def Lw (f:Bytes->List Int) (es:List (AA×AA)) (m:HM):Prop:= ∃T,LV T es m/\(T.map (·.1)).Nodup/\ ∀w,Gq T w=f w
theorem Lw.keys {f:Bytes->List Int} {es:List (AA×AA)} {m:HM} (h:Lw f es m):Keys .str es:=by obtain ⟨T,h,_⟩:=h;exact h.keys
theorem Lw.nil:Lw (fun _=>[]) [] HM.nil:=⟨[],⟨rfl,rfl⟩,List.nodup_nil,fun _=>rfl⟩
theorem Lw.look {f:Bytes->List Int} {es:List (AA×AA)} {m:HM} (h:Lw f es m) (w:Bytes): ∃y m1 R,Yp false .AL (.str w) es=y/\m=m1+R/\Ed 1 y (ints (f w)) (f w).length m1/\
  ∀y' l' m1',Ed 1 y' (ints l') l'.length m1'->Lw (fun u=>if u=w then l' else f u) (H8 (.str w) y' es) (m1'+R):=by
 obtain ⟨T,h1,h2,h3⟩:=h;rcases h1.key w with ⟨g1,g2⟩ | ⟨i,l,x,g1,g2,g3⟩
 ·have e:=h3 w;rw [rK g2] at e;refine ⟨.AL,HM.nil,m,iw g1,(HM.nil_add _).symm,by rw [<-e];exact Ed.nil,fun y' l' m1' h'=>?_⟩;rw [dR g1];refine ⟨_,h1.app h',by rw [List.map_append];exact List.nodup_append.2 ⟨h2,by simp,fun a ha b hb=>by simp at hb;subst hb;exact fun e=>g2 (e▸ha)⟩,fun u=>?_⟩;rw [lA u g2,h3]
 ·obtain ⟨x',m1,R,q1,q2,q3,q4⟩:=h1.at_ g2;rw [g3] at q1;cases q1;have e:l=f w:=by rw [<-h3];exact (lB h2 (List.mem_of_getElem? g2)).symm
  subst e;refine ⟨x,m1,R,ix g1,q2,q3,fun y' l' m1' h'=>?_⟩;rw [UF g1];refine ⟨_,q4 y' l' m1' h',by rw [rA g2];exact h2,fun u=>?_⟩;rw [lC u h2 g2,h3]
variable {lo hi b : Int}
theorem dj {T:Nk} {seen:List Nat} {i:Nat} {w:Bytes} {l:List Int} (hi':T[i]?=some (w,l)):
  (T.mapIdx fun j x=>if j∈seen then (x.1,x.2.filterMap (Ew lo hi b)) else x).set i (w,l.filterMap (Ew lo hi b))=T.mapIdx fun j x=>if j∈seen++[i] then (x.1,x.2.filterMap (Ew lo hi b)) else x:=by
 apply List.ext_getElem?
 intro j;by_cases c:i=j
 ·subst c;have hl:=(List.getElem?_eq_some_iff.1 hi').1;rw [List.getElem?_set_self (by simpa using hl),List.getElem?_mapIdx,hi'];simp
 ·rw [List.getElem?_set_ne c,List.getElem?_mapIdx,List.getElem?_mapIdx];cases T[j]? with
  | none=>rfl
  | some x=>
   have:j∈seen++[i]↔j∈seen:=by simp [Ne.symm c]
   simp only [Option.map_some,this]
theorem di (T:Nk):(T.mapIdx fun j x=>if j∈([]:List Nat) then (x.1,x.2.filterMap (Ew lo hi b)) else x)=T:=by
 apply List.ext_getElem?
 intro j;rw [List.getElem?_mapIdx];cases T[j]?<;>simp
theorem iz {T:Nk} {seen:List Nat} (h: ∀j,j<T.length->j∈seen):(T.mapIdx fun j x=>if j∈seen then (x.1,x.2.filterMap (Ew lo hi b)) else x)=T.map fun x=>(x.1,x.2.filterMap (Ew lo hi b)):=by
 apply List.ext_getElem?
 intro j;rw [List.getElem?_mapIdx,List.getElem?_map];cases hj:T[j]? with
 | none=>rfl
 | some x=>simp only [Option.map_some];rw [if_pos (h j (List.getElem?_eq_some_iff.1 hj).1)]
theorem dh (T:Nk) (seen:List Nat):((T.mapIdx fun j x=>if j∈seen then (x.1,x.2.filterMap (Ew lo hi b)) else x)).map (·.1)=T.map (·.1):=by
 apply List.ext_getElem?
 intro j;rw [List.getElem?_map,List.getElem?_mapIdx,List.getElem?_map];cases T[j]? with
 | none=>rfl
 | some x=>simp only [Option.map_some];split<;>rfl
theorem ZN (q:Int->Option Int) (w:Bytes): ∀T:Nk,Gq (T.map fun x=>(x.1,x.2.filterMap q)) w=(Gq T w).filterMap q
 | []=>rfl
 | (u,a)::T=>by
  simp only [List.map_cons,Gq];split
  ·rfl
  ·exact ZN q w T
theorem u_ {T:Nk} {es:List (AA×AA)} {m:HM} (h:LV T es m) (hn:(T.map (·.1)).Nodup) {i:Nat} {w:Bytes} {l:List Int} (hi:T[i]?=some (w,l)): ∃x,IF (.str w) es=some (i,x):=by
 rcases h.key w with ⟨_,g⟩ | ⟨i',l',x,g1,g2,_⟩
 ·exact absurd (List.mem_map_of_mem (f:=(·.1)) (List.mem_of_getElem? hi)) g
 ·have e:(T.map (·.1))[i]?=(T.map (·.1))[i']?:=by rw [List.getElem?_map,List.getElem?_map,hi,g2];rfl
  have hl:=(List.getElem?_eq_some_iff.1 hi).1;have:=(List.getElem?_inj (by simpa using hl) hn).1 e;subst this;exact ⟨x,g1⟩
variable {lg vg lh vh lm vm : Nat} {s : Bytes} {D : List Span} {xc : AA} {sc : List AA}
theorem dC {f:Bytes->List Int} {es:List (AA×AA)} {mt:HM} (h:Lw f es mt) (hb: -1000000<=b/\b<=1000000) (hf: ∀w,(f w).length<=1000000/\ ∀a∈f w,0<=a/\a<=1000000):
  HC Tryz.prog CK [.ptr lg vg 0,.int .i64 lo,.int .i64 hi,.int .i64 b] (pt lg (.row vg 0 (gC lh vh s lm vm D xc sc))+(pt lm (.DA vm es)+mt)) fun r m'=> ∃es' mt' X,Lw (fun w=>(f w).filterMap (Ew lo hi b)) es' mt'/\m'=pt lg (.row vg 0 (gC lh vh s lm vm D xc sc))+(pt lm (.DA vm es')+(mt'+X)):=by
 intro S mf hS;obtain ⟨T,h1,h2,h3⟩:=h;have hT: ∀(i:Nat) w l,T[i]?=some (w,l)->l.length<=1000000/\ ∀a∈l,0<=a/\a<=1000000:=fun i w l hi=>by
  have e:l=f w:=by rw [<-h3];exact (lB h2 (List.mem_of_getElem? hi)).symm
  rw [e];exact hf w
 refine JU KS ?_;refine Z6 ?_;refine AX (qN hS rfl rfl fun v17 l17 S hS=>Dj ?_);dsimp only [AK,rd,Frame.get];refine Z3 ?_;refine GY (fun n xs S=> ∃(seen:List Nat) (last:Nat) (es':List (AA×AA)) (mt' X:HM),xs=[]/\seen.Nodup/\(∀j∈seen,j<T.length)/\n=T.length-seen.length/\LV (T.mapIdx fun j x=>if j∈seen then (x.1,x.2.filterMap (Ew lo hi b)) else x) es' mt'/\
  Has S (pt l17 (.FO v17 vm T.length last seen)+(pt lg (.row vg 0 (gC lh vh s lm vm D xc sc))+(pt lm (.DA vm es')+(mt'+(X+mf)))))) T.length ⟨[],T.length,es,mt,HM.nil,rfl,List.nodup_nil,fun j h=>by simp at h,rfl,by rw [di];exact h1,hS.eq (by rw [h1.len,HM.nil_add];ac_rfl)⟩ ?_
 clear hS;rintro n xs S hl' ⟨seen,last,es',mt',X,rfl,hnd,hlt,rfl,ht,hS⟩;dsimp only [Er,List.map,Frame.get];have hel:es'.length=T.length:=by rw [ht.len];simp
 have hsl:seen.length<=T.length:=by
  have:=hnd.length_le_of_subset (l₂:=List.range T.length) (fun j hj=>List.mem_range.2 (hlt j hj));simpa using this
 refine Z2 ?_;refine AX ?_;refine tW (lm:=lm) hS rfl rfl rfl hel (fun hall=>Dj ?_) (fun i e S hie hns hS=>Dj ?_);all_goals refine Z2 ?_
 ·refine Z2 ?_;refine BS (c:=false) rfl (fun hb=>by cases hb) (fun _=>?_);refine Z6 ?_;rw [iz fun j hj=>hall j (by omega)] at ht;refine ⟨_,⟨es',mt',pt l17 (.FO v17 vm T.length last seen)+X,⟨_,ht,?_,fun w=>?_⟩,rfl⟩,hS.eq (by ac_rfl)⟩
  ·rw [List.map_map];exact h2
  ·rw [ZN,h3]
 ·refine Z2 ?_;refine BS (c:=true) rfl (fun _=>?_) (fun hb=>by cases hb);have hil:i<T.length:=by have:=(List.getElem?_eq_some_iff.1 hie).1;omega
  obtain ⟨⟨w,l⟩,hTi⟩: ∃p:Bytes×List Int,T[i]?=some p:=⟨_,List.getElem?_eq_getElem hil⟩
  have hTi':(T.mapIdx fun j x=>if j∈seen then (x.1,x.2.filterMap (Ew lo hi b)) else x)[i]?=some (w,l):=by
   rw [List.getElem?_mapIdx,hTi];simp [hns]
  obtain ⟨x,m1,R,q1,rfl,q3,q4⟩:=ht.at_ hTi';rw [hie] at q1;cases q1;obtain ⟨xk,hkey⟩:=u_ ht (by rw [dh];exact h2) hTi';have hks:=ht.keys;obtain ⟨hll,hla⟩:=hT i w l hTi;refine Z5 ?_;refine AX ?_;refine qL (lm:=lm) hS rfl rfl rfl hie ?_;refine Nn fun v10 l10 S hS=>?_;refine Z6 ?_;refine AX ?_;refine Ri q3.len ?_;refine Z5 ?_;refine GY (fun n xs S=> ∃(j:Nat) (xo:AA) (mo:HM),xs=[xo,.int .i64 (j:Int)]/\j<=l.length/\n=l.length-j/\((l.take j).filterMap (Ew lo hi b)).length<=j/\Ed 1 xo (ints ((l.take j).filterMap (Ew lo hi b))) ((l.take j).filterMap (Ew lo hi b)).length mo/\
   Has S (mo+(pt l17 (.FO v17 vm T.length es'.length (seen++[i]))+(pt lg (.row vg 0 (gC lh vh s lm vm D xc sc))+(pt lm (.DA vm es')+(m1+R+(X+mf))))))) l.length ⟨0,_,_,rfl,Nat.zero_le _,rfl,by simp,by show Ed 1 (.sl l10 v10 0 0) [] 0 _;exact Ed.whole rfl,hS⟩ ?_
  clear hS;rintro n xs S hl2 ⟨j,xo,mo,rfl,hj,rfl,hoj,so,hS⟩;dsimp only [Er,List.map,Frame.get];refine Z6 ?_;refine Av rfl (fun hlt2=>?_) (fun hlt2=>?_)
  ·have hjl:j<l.length:=by omega
   obtain ⟨a,ha⟩: ∃a,l[j]?=some a:=⟨_,List.getElem?_eq_getElem hjl⟩
   have hab:=hla a (List.mem_of_getElem? ha);have htk:(l.take (j+1)).filterMap (Ew lo hi b)=(l.take j).filterMap (Ew lo hi b)++(Ew lo hi b a).toList:=by
    rw [List.take_add_one,ha,List.filterMap_append];cases h:Ew lo hi b a<;>simp [h]
   obtain ⟨p,v,off,cs,rfl,rfl,hle,hcs⟩:=q3.pos (by omega);rw [Nat.mul_one] at hle hcs;have ht1:takeN 1 (List.drop (off+j) cs)=some [.int .i64 a]:=by
    have h0:=ints_at ha;rw [Nat.mul_one] at h0;have h1:=Ku (k:=1) (cs:=cs) (off:=off) (n:=l.length) (j:=j) (by omega) hjl;rw [Nat.mul_one,Nat.mul_one] at h1;rw [h1,<-hcs];rw [FJ _ _ (by rw [List.length_drop,List.length_map];omega)] at h0;exact h0
   refine Z2 ?_;refine Hu fun K1 hK1=>?_;have back: ∀(xo:AA) (mo:HM) (S:AB),((l.take (j+1)).filterMap (Ew lo hi b)).length<=j+1->Ed 1 xo (ints ((l.take (j+1)).filterMap (Ew lo hi b))) ((l.take (j+1)).filterMap (Ew lo hi b)).length mo->
     Has S (mo+(pt l17 (.FO v17 vm T.length es'.length (seen++[i]))+(pt lg (.row vg 0 (gC lh vh s lm vm D xc sc))+(pt lm (.DA vm es')+(pt p (.row v 1 cs)+R+(X+mf))))))->K1 [xo] S:=by
    intro xo mo S ho so hS;refine hK1 _ _ rfl ?_;dsimp only [Er,List.map,Frame.get];refine Z5 ?_;exact ⟨l.length-(j+1),by omega,j+1,xo,mo,rfl,by omega,rfl,ho,so,hS⟩
   refine w7 ?_;refine Av rfl (fun c1=>?_) (fun c1=>?_)
   ·have e:Ew lo hi b a=some a:=by unfold Ew;rw [if_pos c1]
    rw [e] at htk;refine Z4 ?_;refine AX ?_;refine G3 hS rfl so (DL.one rfl) rfl (by omega) fun xo' mo' S so' hS=>?_;refine Z6 ?_;refine back xo' mo' _ (by rw [htk];simp;omega) ?_ hS;rw [htk];simpa using so'
   refine Z8 ?_;refine Av rfl (fun c2=>?_) (fun c2=>?_)
   ·have e:Ew lo hi b a=some (a+b):=by unfold Ew;rw [if_neg c1,if_pos c2]
    rw [e] at htk;refine Z6 ?_;refine AX ?_;refine G3 hS rfl so (DL.one rfl) rfl (by omega) fun xo' mo' S so' hS=>?_;refine Z6 ?_;refine back xo' mo' _ (by rw [htk];simp;omega) ?_ hS;rw [htk];simpa using so'
   ·have e:Ew lo hi b a=none:=by unfold Ew;rw [if_neg c1,if_neg c2]
    rw [e] at htk;refine Z4 ?_;refine back xo mo _ (by rw [htk];simp;omega) ?_ hS;rw [htk];simpa using so
  ·obtain rfl:j=l.length:=by omega
   rw [List.take_of_length_le (Nat.le_refl _)] at so;refine ra ?_;refine AX ?_;refine qP hS rfl rfl rfl hks fun S hS=>?_;(try dsimp only [AK,rd,Frame.get] at hS);rw [UF hkey] at hS;refine Z4 ?_;have ht2:=q4 xo _ mo so;rw [dj hTi] at ht2;have hnd2:(seen++[i]).Nodup:=List.nodup_append.2 ⟨hnd,by simp,fun a ha c hc=>by simp at hc;subst hc;exact fun e=>hns (e▸ha)⟩;have hlt2: ∀j∈seen++[i],j<T.length:=fun j hj=>by
    rcases List.mem_append.1 hj with hj | hj
    ·exact hlt j hj
    ·simp at hj;omega
   have hsl2:(seen++[i]).length<=T.length:=by
    have:=hnd2.length_le_of_subset (l₂:=List.range T.length) (fun j hj=>List.mem_range.2 (hlt2 j hj));simpa using this
   have hs1:(seen++[i]).length=seen.length+1:=by simp
   exact ⟨T.length-(seen++[i]).length,by omega,seen++[i],_,_,_,m1+X,by trivial,hnd2,hlt2,rfl,ht2,hS.eq (by ac_rfl)⟩
end Go.Proofs.YtlibocgedgdmlaaGreat.E
end
section
set_option maxRecDepth 100000
namespace Go.Proofs.YtlibocgedgdmlaaGreat.E
open Go.Vc Go.Fu
theorem qX (hP:BV Tryz.prog BB Bi) {c:UInt8} {S:AB} {K:AA->AB->Prop} (h:K (.bool (N6 c)) S):AV Tryz.prog BB [.int .u8 (c.toNat:Int)] S K:=hP.plain (c.toNat:Int) trivial rfl (by
 have e:bo (HZ (c.toNat:Int))=N6 c:=by rw [Bool.eq_iff_iff,Gu,MK]
 show K (.bool (bo (HZ (c.toNat:Int)))) S;rw [e];exact h)
theorem j8 {s u:Bytes} {lo hi k n:Nat} (hu:u=(s.take hi).drop lo) (h:lo+k+n<=hi):(s.take (lo+k+n)).drop (lo+k)=(u.drop k).take n:=by
 rw [hu,List.drop_drop,List.drop_take,List.drop_take,List.take_take];congr 1;omega
theorem YQ (hP:BV Tryz.prog BB Bi) {s u:Bytes} {lo hi:Nat} (hu:u=(s.take hi).drop lo) (hlo:lo<=hi) (hhi:hi<=s.length) (hs:s.length<=1000000) (g:FuncId) (cap:List AA) (C:Nat->HM->Prop)
  (hdo: ∀i e c,(B6 u 0)[i]?=some e->C i c->HC Tryz.prog g (.str e.1:: .int .i64 ((lo+e.2:Nat):Int)::cap) c fun r m'=> ∃c' X,C (i+1) c'/\m'=c'+X) (c:HM) (h0:C 0 c):
  HC Tryz.prog Fq [.str s,.int .i64 (lo:Int),.int .i64 (hi:Int),.fn (.func g) [] cap] c fun r m'=> ∃c' X,C (B6 u 0).length c'/\m'=c'+X:=by
 intro S mf hS;have hul:u.length=hi-lo:=by rw [hu,List.length_drop,List.length_take];omega
 refine JU YA ?_;refine Z7 ?_;refine GY (fun n xs S=> ∃(k i:Nat) (c X:HM),xs=[.int .i64 ((lo+k:Nat):Int)]/\n=u.length+1-k/\k<=u.length+1/\(k<u.length->opens u k)/\B6 u 0=(B6 u 0).take i++B6 u k/\i+(B6 u k).length=(B6 u 0).length/\C i c/\Has S (c+(X+mf))) (u.length+1) ⟨0,0,c,HM.nil,rfl,rfl,Nat.zero_le _,fun _=>.inl rfl,by simp,by simp,h0,hS.eq (by rw [HM.nil_add])⟩ ?_;clear hS h0 c;rintro n xs S hl' ⟨k,i,c,X,rfl,rfl,hk,ho,hcut,hlen,hC,hS⟩;dsimp only [Er,List.map,Frame.get];refine Z8 ?_;refine Av rfl (fun hlt=>?_) (fun hlt=>?_);rotate_left
 ·refine Z6 ?_;rw [Se (by omega)] at hlen;refine ⟨_,⟨c,X,?_,rfl⟩,hS.eq (by ac_rfl)⟩;rw [<-hlen];exact hC
 have hlt:k<u.length:=by omega
 have ho:=ho hlt;have hnext:=iR hlt ho;have hrl:=Ir u k;refine Z2 ?_;refine Hu fun K1 hK1=>?_;have rest1: ∀(i:Nat) (c X:HM) (S:AB),B6 u 0=(B6 u 0).take i++B6 u (k+CC u k+1)->i+(B6 u (k+CC u k+1)).length=(B6 u 0).length->C i c->Has S (c+(X+mf))->K1 [.int .i64 ((lo+k+CC u k:Nat):Int)] S:=by
  intro i c X S hcut hlen hC hS;refine hK1 _ _ rfl ?_;dsimp only [Er,List.map,Frame.get];refine Z6 ?_;refine ⟨u.length+1-(k+CC u k+1),by omega,k+CC u k+1,i,c,X,by rw [show lo+(k+CC u k+1)=lo+k+CC u k+1 by omega];rfl,rfl,by omega,fun h=>jH (by omega),hcut,hlen,hC,hS⟩
 refine Z9 ?_;refine GY (fun n xs S=> ∃j:Nat,xs=[.int .i64 ((lo+k+j:Nat):Int)]/\j<=CC u k/\n=CC u k-j/\Has S (c+(X+mf))) (CC u k) ⟨0,rfl,Nat.zero_le _,rfl,hS⟩ ?_;clear hS;rintro n xs S hl2 ⟨j,rfl,hj,rfl,hS⟩;dsimp only [Er,List.map,Frame.get];by_cases h:k+j<u.length
 ·obtain ⟨ch,hch⟩: ∃ch,u[k+j]?=some ch:=⟨_,List.getElem?_eq_getElem h⟩
  have hcs:s[lo+k+j]?=some ch:=by
   rw [<-hch,hu,List.getElem?_drop,List.getElem?_take,if_pos (by omega)];congr 1;omega
  have hgt:gt u ((k+j:Nat):Int)=ch:=by
   have:=Ig (l:=u) (i:=((k+j:Nat):Int)) (by omega) (by omega);rw [Int.toNat_natCast,hch] at this;exact (Option.some.inj this).symm
  refine Z6 ?_;refine AX ?_;refine Am (BF (fun hg=>?_) (fun hg=>by exfalso;omega));dsimp only [AK,rd,Frame.get];refine Z4 ?_;refine qX hP (c:=ch) ?_;refine Z3 ?_;by_cases q:j<CC u k
  ·have hp:N6 ch=true:=by rw [<-hgt];exact QT q
   rw [hp];refine Z1 ?_;refine BS rfl (fun _=>?_) (fun hb=>by cases hb);refine Nn ?_;exact ⟨CC u k-(j+1),by omega,j+1,rfl,by omega,rfl,hS⟩
  ·obtain rfl:j=CC u k:=by omega
   have hp:N6 ch=false:=by rw [<-hgt];exact Rx h
   rw [hp];refine Z1 ?_;refine BS rfl (fun hb=>by cases hb) (fun _=>?_);refine Z6 ?_;by_cases z:0<CC u k/\CC u k<=12
   ·rw [if_pos z] at hnext;have he:(B6 u 0)[i]?=some ((u.drop k).take (CC u k),k):=by
     rw [hcut,List.getElem?_append_right (by rw [List.length_take];omega),hnext];have:i-((B6 u 0).take i).length=0:=by rw [List.length_take];omega
     rw [this];rfl
    have hsl:(s.take (lo+k+CC u k)).drop (lo+k)=(u.drop k).take (CC u k):=j8 hu (by omega);refine Z4 ?_;refine AX ?_;refine Am (BF (fun hg=>?_) (fun hg=>by exfalso;omega));dsimp only [AK,rd,Frame.get];refine Z7 ?_;refine Av rfl (fun hc=>?_) (fun hc=>by exfalso;omega);refine Z5 ?_;refine AX (WZ rfl ⟨_,rfl⟩ ⟨_,rfl⟩ (by omega) (by omega) (Dj ?_));dsimp only [AK,rd,Frame.get];refine Z1 ?_;refine AX (af rfl ?_);dsimp only [List.map,AK,rd,Frame.get];rw [hsl];refine HC.use (hdo i _ c he hC) hS ?_;rintro r m' S ⟨c',X',hC',rfl⟩ hS;refine Z4 ?_;exact rest1 (i+1) c' (X'+X) _ (by rw [hnext] at hcut;(conv=>lhs;rw [hcut]);rw [show (B6 u 0).take (i+1)=(B6 u 0).take i++[((u.drop k).take (CC u k),k)] from by rw [List.take_add_one,he];rfl];simp) (by rw [hnext] at hlen;simp at hlen;omega) hC' (hS.eq (by ac_rfl))
   ·rw [if_neg z,List.nil_append] at hnext;rw [hnext] at hcut hlen;by_cases z0:0<CC u k
    ·refine Z4 ?_;refine AX ?_;refine Am (BF (fun hg=>?_) (fun hg=>by exfalso;omega));dsimp only [AK,rd,Frame.get];refine Z7 ?_;refine Av rfl (fun hc=>by exfalso;omega) (fun hc=>?_);refine Z3 ?_;exact rest1 i c X _ hcut hlen hC hS
    ·refine Z4 ?_;refine AX ?_;refine Am (BF (fun hg=>by exfalso;omega) (fun hg=>?_));dsimp only [AK,rd,Frame.get];refine Z7 ?_;refine BS rfl (fun hb=>by cases hb) (fun _=>?_);refine Z3 ?_;exact rest1 i c X _ hcut hlen hC hS
 ·obtain rfl:j=CC u k:=by omega
  refine Z6 ?_;refine AX ?_;refine Am (BF (fun hg=>by exfalso;omega) (fun hg=>?_));dsimp only [AK,rd,Frame.get];refine Z7 ?_;refine BS rfl (fun hb=>by cases hb) (fun _=>?_);refine Z6 ?_;by_cases z:0<CC u k/\CC u k<=12
  ·rw [if_pos z] at hnext;have he:(B6 u 0)[i]?=some ((u.drop k).take (CC u k),k):=by
    rw [hcut,List.getElem?_append_right (by rw [List.length_take];omega),hnext];have:i-((B6 u 0).take i).length=0:=by rw [List.length_take];omega
    rw [this];rfl
   have hsl:(s.take (lo+k+CC u k)).drop (lo+k)=(u.drop k).take (CC u k):=j8 hu (by omega);refine Z4 ?_;refine AX ?_;refine Am (BF (fun hg=>?_) (fun hg=>by exfalso;omega));dsimp only [AK,rd,Frame.get];refine Z7 ?_;refine Av rfl (fun hc=>?_) (fun hc=>by exfalso;omega);refine Z5 ?_;refine AX (WZ rfl ⟨_,rfl⟩ ⟨_,rfl⟩ (by omega) (by omega) (Dj ?_));dsimp only [AK,rd,Frame.get];refine Z1 ?_;refine AX (af rfl ?_);dsimp only [List.map,AK,rd,Frame.get];rw [hsl];refine HC.use (hdo i _ c he hC) hS ?_;rintro r m' S ⟨c',X',hC',rfl⟩ hS;refine Z4 ?_;exact rest1 (i+1) c' (X'+X) _ (by rw [hnext] at hcut;(conv=>lhs;rw [hcut]);rw [show (B6 u 0).take (i+1)=(B6 u 0).take i++[((u.drop k).take (CC u k),k)] from by rw [List.take_add_one,he];rfl];simp) (by rw [hnext] at hlen;simp at hlen;omega) hC' (hS.eq (by ac_rfl))
  ·rw [if_neg z,List.nil_append] at hnext;rw [hnext] at hcut hlen;by_cases z0:0<CC u k
   ·refine Z4 ?_;refine AX ?_;refine Am (BF (fun hg=>?_) (fun hg=>by exfalso;omega));dsimp only [AK,rd,Frame.get];refine Z7 ?_;refine Av rfl (fun hc=>by exfalso;omega) (fun hc=>?_);refine Z3 ?_;exact rest1 i c X _ hcut hlen hC hS
   ·refine Z4 ?_;refine AX ?_;refine Am (BF (fun hg=>by exfalso;omega) (fun hg=>?_));dsimp only [AK,rd,Frame.get];refine Z7 ?_;refine BS rfl (fun hb=>by cases hb) (fun _=>?_);refine Z3 ?_;exact rest1 i c X _ hcut hlen hC hS
theorem cM {S:AB} {m a:HM} {g:HM->HM} {x:AA} {l:List Int} [Part m a g] (hs:Ed 1 x (ints l) l.length a) (hl:l.length<=1000000) (hS:Has S m):
  AV Tryz.prog CO [x] S fun r S'=> ∃v,r= .sl S.length v 0 l.length/\S'=S++[.row v 1 (ints l)]:=by
 refine HC.wg (a:=a) ?_ hS;clear hS;intro S mf hS;refine JU Ko ?_;rcases hs with ⟨rfl,h0,h1,rfl⟩ | ⟨p,v,off,cs,rfl,rfl,hle,hcs⟩
 ·have hl0:l=[]:=List.length_eq_zero_iff.1 h0;subst hl0;refine ra ?_;refine BS (c:= !false) rfl (fun _=>?_) (fun hb=>by cases hb);refine Nn ?_;exact ⟨_,.inl ⟨rfl,rfl,rfl,rfl⟩,hS⟩
 ·refine Z9 ?_;refine AX (tT rfl fun b hb=>Dj ?_);dsimp only [AK,rd,Frame.get];refine Z2 ?_;refine BS rfl (fun hb2=>?_) (fun _=>?_)
  ·have hl0:l=[]:=List.length_eq_zero_iff.1 (hb (by cases b<;>simp_all));subst hl0;refine Nn ?_;exact ⟨_,.inl ⟨rfl,rfl,rfl,rfl⟩,hS⟩
  ·refine Z5 fun v5 l5 S hS=>?_;refine Z1 ?_;refine AX ?_;refine EX (cs:=[]) hS rfl (DL.own rfl hle) rfl rfl (by omega) fun v7 S hS=>?_;refine Z8 ?_;rw [<-hcs] at hS;refine ⟨_,.inr ⟨l5,v7,by simp,rfl⟩,hS.eq ?_⟩;simp only [List.nil_append];ac_rfl
theorem vB (a:Int):RC Tryz.prog Dv [.int .i64 a] (.bool false):=by
 refine RC.val ?_;intro S mf hS;refine JU Qz ?_;refine w7 ?_;exact ⟨_,by simp,hS⟩
theorem tL (a:Int):RC Tryz.prog C8 [.int .i64 a] (.bool false):=by
 refine RC.val ?_;intro S mf hS;refine JU OV ?_;refine w7 ?_;exact ⟨_,by simp,hS⟩
theorem tD (a b:Int):RC Tryz.prog E5 [.int .i64 a,.int .i64 b] (.bool (decide (a<b))):=by
 refine RC.val ?_;intro S mf hS;refine JU SN ?_;refine Z9 ?_;refine (vB a).use ?_;refine Z1 ?_;refine AX ?_;refine Am (EU (fun hb=>by cases hb) (fun hg=>?_));dsimp only [AK,rd,Frame.get];refine Z4 ?_;refine AX ?_;refine Am (EU (fun hb=>by cases hb) (fun hg=>?_));dsimp only [AK,rd,Frame.get];refine SI ?_;exact ⟨_,rfl,hS⟩
theorem wz {l:List Int} {t:Int} (hs:l.Pairwise fun a b=>a<b) {j:Nat} {a:Int} (h:l[j]?=some a):a<t↔j<(l.takeWhile fun x=>decide (x<t)).length:=by
 induction l generalizing j with
 | nil=>simp at h
 | cons c l ih=>
  obtain ⟨h1,h2⟩:=List.pairwise_cons.1 hs;rw [List.takeWhile_cons];cases j with
  | zero=>
   simp at h;subst h;by_cases q:c<t
   ·simp [q]
   ·simp [q]
  | succ j=>
   have h:l[j]?=some a:=by simpa using h
   have hca:=h1 a (List.mem_of_getElem? h);by_cases q:c<t
   ·simp only [q,decide_true,if_true,List.length_cons];rw [ih h2 h];omega
   ·simp only [q,decide_false,Bool.false_eq_true,if_false,List.length_nil];omega
theorem dN {l:List Int} {off:Nat} {cs:List AA} (hle:off+l.length*1<=cs.length) (hcs:ints l=A6 cs off (l.length*1)) {j:Nat} {a:Int} (h:l[j]?=some a):takeN 1 (List.drop (off+j) cs)=some [.int .i64 a]:=by
 have hj:=(List.getElem?_eq_some_iff.1 h).1;have h1:=Ku (k:=1) (cs:=cs) (off:=off) (n:=l.length) (j:=j) hle hj;rw [<-hcs,Nat.mul_one] at h1;rw [h1];have h2:=ints_at h;rw [FJ _ _ (by rw [List.length_drop,List.length_map];omega),Nat.mul_one] at h2;exact h2
theorem fG {x:AA} {l:List Int} {a:HM} (hs:Ed 1 x (ints l) l.length a) (hl:l.length<=1000000) (ha:l.Pairwise fun a b=>a<b) (t:Int):
  HC Tryz.prog BQ [x,.int .i64 t] a fun r m'=>m'=a/\ ∃b,r= .DH [.int .i64 ((l.takeWhile fun x=>decide (x<t)).length:Int),.bool b]:=by
 intro S mf hS;have hN:(l.takeWhile fun x=>decide (x<t)).length<=l.length:=(List.takeWhile_sublist _).length_le;refine JU IV ?_;refine Z9 ?_;refine AX ?_;refine Ri hs.len ?_;refine ju ?_;refine GY (fun n xs S=> ∃i j:Nat,xs=[.int .i64 (i:Int),.int .i64 (j:Int)]/\i<=(l.takeWhile fun x=>decide (x<t)).length/\(l.takeWhile fun x=>decide (x<t)).length<=j/\j<=l.length/\n=j-i/\Has S (a+mf)) l.length ⟨0,l.length,rfl,Nat.zero_le _,hN,Nat.le_refl _,by omega,hS⟩ ?_;clear hS;rintro n xs S hl' ⟨i,j,rfl,h1,h2,h3,rfl,hS⟩;dsimp only [Er,List.map,Frame.get];refine Z8 ?_;refine Av rfl (fun hlt=>?_) (fun hlt=>?_)
 ·obtain ⟨h,hh⟩: ∃h:Nat,h=(i+j)/2:=⟨_,rfl⟩
  obtain ⟨b,hb⟩: ∃b,l[h]?=some b:=⟨_,List.getElem?_eq_getElem (by omega)⟩
  have htw:=wz (t:=t) ha hb;obtain ⟨p,v,off,cs,rfl,rfl,hle,hcs⟩:=hs.pos (by omega);have ht:=dN hle hcs hb;have he:((i:Int)+(j:Int))/2=(h:Int):=by omega
  refine Z9 ?_;refine AX ?_;refine wc rfl rfl (by decide) ?_;rw [V5 (by omega) (by omega),he];refine ju ?_;refine (tD b t).use ?_;refine Z3 ?_;refine Av rfl (fun hd=>?_) (fun hd=>?_)
  ·skip
   refine Z7 ?_;exact ⟨j-(h+1),by omega,h+1,j,rfl,by have:=htw.1 hd;omega,h2,h3,rfl,hS⟩
  ·skip
   refine Z6 ?_;exact ⟨h-i,by omega,i,h,rfl,h1,by have: ¬_:=fun q=>hd (htw.2 q);omega,by omega,rfl,hS⟩
 ·have hi:i=(l.takeWhile fun x=>decide (x<t)).length:=by omega
  refine Z6 ?_;by_cases hn:i<l.length
  ·obtain ⟨b,hb⟩: ∃b,l[i]?=some b:=⟨_,List.getElem?_eq_getElem hn⟩
   obtain ⟨p,v,off,cs,rfl,rfl,hle,hcs⟩:=hs.pos (by omega);have ht:=dN hle hcs hb;by_cases hbt:b=t
   ·refine Z5 ?_;refine AX ?_;refine Am (BF (fun hg=>?_) (fun hg=>by exfalso;omega));dsimp only [AK,rd,Frame.get];refine Z6 ?_;refine tk rfl ?_;refine Am (BF (fun hg=>?_) (fun hg=>by exfalso;exact hg hbt));dsimp only [AK,rd,Frame.get];refine x7 ?_;rw [<-hi];exact ⟨_,⟨rfl,_,rfl⟩,hS⟩
   ·refine Z5 ?_;refine AX ?_;refine Am (BF (fun hg=>?_) (fun hg=>by exfalso;omega));dsimp only [AK,rd,Frame.get];refine Z6 ?_;refine tk rfl ?_;refine Am (BF (fun hg=>by exfalso;exact hbt hg) (fun hg=>?_));dsimp only [AK,rd,Frame.get];refine Z5 ?_;refine (tL b).use ?_;refine Z1 ?_;refine tj rfl ?_;refine Am (EU (fun hb=>by cases hb) (fun hg=>?_));dsimp only [AK,rd,Frame.get];refine gJ ?_;rw [<-hi];exact ⟨_,⟨rfl,_,rfl⟩,hS⟩
  ·refine Z5 ?_;refine AX ?_;refine Am (BF (fun hg=>by exfalso;omega) (fun hg=>?_));dsimp only [AK,rd,Frame.get];refine yL ?_;rw [<-hi];exact ⟨_,⟨rfl,_,rfl⟩,hS⟩
end Go.Proofs.YtlibocgedgdmlaaGreat.E
end
section
set_option maxRecDepth 100000
namespace Go.Proofs.YtlibocgedgdmlaaGreat.E
open Go.Vc Go.Fu
theorem s7 (l:List Int) (a:Int):dL l a=Ih l (l.takeWhile fun x=>decide (x<a)).length a:=by
 unfold dL Ih;have h:=List.takeWhile_append_dropWhile (p:=fun x=>decide (x<a)) (l:=l);generalize l.takeWhile (fun x=>decide (x<a))=A at*;generalize l.dropWhile (fun x=>decide (x<a))=B at*;subst h;rw [List.take_left',List.drop_left']<;>rfl
theorem mT {x:AA} {l:List Int} {a:HM} {i q vq:Nat} {t:Int} (hs:Ed 1 x (ints l) l.length a) (hi:i<=l.length) (hn:l.length<=1000000):
  HC Tryz.prog Cy [x,.int .i64 (i:Int),.sl q vq 0 1] (a+pt q (.row vq 0 [.int .i64 t])) fun r m'=> ∃a' X,Ed 1 r (ints (Ih l i t)) (l.length+1) a'/\m'=a'+X:=by
 intro S mf hS;have hq:S[q]?=some (.row vq 0 [.int .i64 t]):=Has.here (l:=q) hS;have hx:(x= .AL/\l=[])\/ ∃p ver off cs,x= .sl p ver off l.length/\S[p]?=some (.row ver 1 cs)/\off+l.length<=cs.length/\A6 cs off l.length=ints l:=by
  rcases hs with ⟨h1,h2,_,_⟩ | ⟨p,v,off,cs,rfl,rfl,hle,hcs⟩
  ·exact .inl ⟨h1,List.length_eq_zero_iff.1 h2⟩
  ·rw [Nat.mul_one] at hle hcs;exact .inr ⟨p,v,off,cs,rfl,Has.here (l:=p) hS,hle,hcs.symm⟩
 have hc:=aK Tryz.yc sz (by kernel_rfl) hq hi hn hx;refine DM hc ?_;have hil:=Si (a:=t) hi;rintro r S' (⟨v',rfl,rfl⟩ | ⟨p,ver,off,len,cs,rfl,hp,hoff,rfl,rfl⟩)
 ·exact ⟨_,⟨pt S.length (.row v' 1 (ints (Ih l i t))),a+pt q (.row vq 0 [.int .i64 t]),Ed.whole (by rw [List.length_map,hil];omega),rfl⟩,(hS.more _).eq (by ac_rfl)⟩
 ·rcases hs with ⟨h1,_⟩ | ⟨p',v,off',cs',e,rfl,hle,hcs⟩
  ·cases h1
  cases e;have hp':=Has.here (l:=p) hS;rw [hp] at hp';cases hp';have hS':=hS.fq (l:=p) (o':= .row ver 1 (cs.take off++ints (Ih l i t)));have ht:(cs.take off).length=off:=by rw [List.length_take];omega
  refine ⟨_,⟨pt p (.row ver 1 (cs.take off++ints (Ih l i t))),pt q (.row vq 0 [.int .i64 t]),.inr ⟨p,ver,off,_,rfl,rfl,by rw [List.length_append,ht,List.length_map,hil];omega,?_⟩,rfl⟩,hS'⟩;unfold A6;rw [List.drop_left' ht,List.take_of_length_le (by rw [List.length_map,hil];omega)]
variable {lg vg lh vh lm vm : Nat} {s : Bytes} {D : List Span} {xc : AA} {sc : List AA}
theorem Lw.congr {f f':Bytes->List Int} {es:List (AA×AA)} {m:HM} (h:Lw f es m) (e:f=f'):Lw f' es m:=e▸h
theorem qh {l2 v2:Nat} {f:Bytes->List Int} {es:List (AA×AA)} {mt:HM} (h:Lw f es mt) (e:Bytes×Nat) (ha:(f e.1).Pairwise fun a b=>a<b) (hn:(f e.1).length<=1000000):
  HC Tryz.prog BI [.str e.1,.int .i64 (e.2:Int),.ptr l2 v2 0] (pt l2 (.row v2 0 [.ptr lg vg 0])+(pt lg (.row vg 0 (gC lh vh s lm vm D xc sc))+(pt lm (.DA vm es)+mt))) fun r m'=> ∃es' mt' X,Lw (HQ f e) es' mt'/\m'=(pt l2 (.row v2 0 [.ptr lg vg 0])+(pt lg (.row vg 0 (gC lh vh s lm vm D xc sc))+(pt lm (.DA vm es')+mt')))+X:=by
 intro S mf hS;obtain ⟨w,at_⟩:=e;have hk:=h.keys;obtain ⟨y,m1,R,g1,rfl,g3,g4⟩:=h.look w;have hN:((f w).takeWhile fun x=>decide (x<(at_:Int))).length<=(f w).length:=(List.takeWhile_sublist _).length_le;dsimp only at ha hn;refine JU Iz ?_;refine Z7 ?_;refine AX ?_;refine aj hS rfl rfl rfl hk ?_;dsimp only [AK,rd,Frame.get];rw [g1];refine Z9 ?_;refine HC.use (fG g3 hn ha at_) hS ?_;rintro r m2 S ⟨hm2,b,rfl⟩ hS;rw [hm2] at hS;refine Z8 ?_;refine Cw hS fun S hS=>?_;refine Nn fun v28 l28 S hS=>?_;refine Z3 ?_;have hS:=hS.eq (m':=(m1+pt l28 (.row v28 0 [.int .i64 (at_:Int)]))+(pt l2 (.row v2 0 [.ptr lg vg 0])+(pt lg (.row vg 0 (gC lh vh s lm vm D xc sc))+(pt lm (.DA vm es)+(R+mf))))) (by ac_rfl);refine HC.use (mT (t:=(at_:Int)) g3 hN hn) hS ?_;rintro r m' S ⟨a',X,ha',rfl⟩ hS;refine Z3 ?_;refine AX (qP hS rfl rfl rfl (by assumption) fun S hS=>Dj ?_);dsimp only [AK,rd,Frame.get];dsimp only [AK,rd,Frame.get,setCells,over] at hS;refine Z3 ?_;have ht:=g4 r (Ih (f w) ((f w).takeWhile fun x=>decide (x<(at_:Int))).length (at_:Int)) a' (by rw [Si hN];exact ha');refine ⟨_,⟨_,_,X,ht.congr (funext fun u=>?_),rfl⟩,hS.eq (by ac_rfl)⟩;unfold HQ;by_cases c:w=u
 ·subst c;rw [if_pos rfl,if_pos rfl,s7]
 ·rw [if_neg (Ne.symm c),if_neg c]
theorem jq (hW:BV Tryz.prog A9 Ci) {D:List Span} {x:Span} (h1:EO D) (h2:Fw x):RC Tryz.prog A9 [rC D,.agg [.int .i64 x.1,.int .i64 x.2]] (rC (Aq D x)):=
 hW.plain (S:=[]) (K:=fun r _=>r=rC (Aq D x)) (D,x) ⟨h1,h2⟩ rfl rfl
theorem VY (hA:BV Tryz.prog BN CV) {s:Bytes} {lo hi:Int} (h:ot s lo hi) {S:AB} {K:AA->AB->Prop} (hk:K (.DH [.int .i64 (Mr s lo.toNat:Int),.int .i64 (Le s hi.toNat:Int)]) S):AV Tryz.prog BN [.str s,.int .i64 lo,.int .i64 hi] S K:=
 hA.plain (s,lo,hi) h rfl hk
theorem Wi (s w:Bytes) (Q:Int->Prop):(Jq s w Q).length<=s.length:=Nat.le_trans (List.length_filter_le _ _) (YY s w)
abbrev GM (lg vg lh vh:Nat) (s:Bytes) (lm vm:Nat) (D:List Span) (xc:AA) (sc:List AA) (es:List (AA×AA)) (mt:HM):HM:=pt lg (.row vg 0 (gC lh vh s lm vm D xc sc))+(pt lm (.DA vm es)+mt)
noncomputable abbrev ij (s:Bytes) (D:List Span):Bytes->List Int:=fun w=>Jq s w fun p=> ¬Bd D p
theorem mi (hP:BV Tryz.prog BB Bi) (hA:BV Tryz.prog BN CV) (hW:BV Tryz.prog A9 Ci) {es:List (AA×AA)} {mt:HM} (h:Lw (ij s D) es mt)
  (hs:s.length<=600) (hD:AR s.length (-1) D) (hw:Whole s (Bd D)) {many:Int} (hm:0<many/\many<=50):
  HC Tryz.prog Bq [.ptr lg vg 0,.int .i64 many] (GM lg vg lh vh s lm vm D xc sc es mt) fun r m'=> ∃es' mt' X,Lw (ij s (LK s D many)) es' mt'/\m'=GM lg vg lh vh s lm vm (LK s D many) xc sc es' mt'+X:=by
 intro S mf hS;refine JU Ja ?_;cases D with
 | nil=>
  refine Z3 fun v2 l2 S hS=>?_;refine ju ?_;refine Av rfl (fun _=>?_) (fun hb=>absurd rfl hb);refine Z4 ?_;exact ⟨_,⟨es,mt,pt l2 (.row v2 0 [.ptr lg vg 0]),h,rfl⟩,hS.eq (by show _=GM lg vg lh vh s lm vm [] xc sc es mt+_+_;ac_rfl)⟩
 | cons t D=>
  obtain ⟨a,b⟩:=t;obtain ⟨b1,b2,b3⟩:=dg hD hm.1 hw;obtain ⟨p1,q1,q2,q3⟩:=Ra hs hD hw b1 b2 b3;have mD:=GS hD _ (List.mem_cons_self ..);dsimp only at mD;have t0:takeN 2 ((cq ((a,b)::D)).drop (0*2))=some [.int .i64 a,.int .i64 b]:=rfl;refine Z3 fun v2 l2 S hS=>?_;refine ju ?_;refine Av rfl (fun hb=>by exfalso;simp at hb;omega) (fun _=>?_);refine Z8 ?_;refine AX (WY (j:=0) rfl rfl (by omega) (by assumption) (Dj ?_));dsimp only [AK,rd,Frame.get];refine Z2 fun v4 l4 S hS=>?_;refine Z1 fun S hS=>?_;refine Z3 ?_;refine Cw hS fun S hS=>?_;refine rz ?_;refine VY hA (lo:=a) (hi:=min b (a+many)) ⟨by show s.length<=_;omega,by omega,by omega,by omega⟩ ?_;refine YI fun S hS=>?_;refine Z3 ?_;have hb2:AQ 0:=by unfold AQ;omega
  generalize hH:WM s a b many=H at*;have hH2:min b (Le s (min b (a+many)).toNat:Int)=H:=hH;rw [hH2] at hS;refine Cw hS fun S hS=>?_;refine Z8 ?_;refine (jq hW (x:=(a,H)) p1 ⟨by show 0<=a;omega,by show a<=H;omega,by show H<=1000000;omega⟩).use ?_;refine Z5 fun S hS=>?_;refine Z2 ?_;have hDn:LK s ((a,b)::D) many=Aq ((a,b)::D) (a,H):=by show Aq _ (a,WM s a b many)=_;rw [hH]
  have hbe:=Qs hD hw (a,b) (List.mem_cons_self ..);have hdis: ∀p,¬(¬Bd ((a,b)::D) p/\((a.toNat:Int)<=p/\p<(H.toNat:Int))):=fun p q=>q.1 (BE.2 (.inl ⟨by show a<=p;omega,by show p<b;omega⟩));have hel: ∀i:Nat,(B6 ((s.take H.toNat).drop a.toNat) 0)[i]?.map (fun e=>(e.1,a.toNat+e.2))=(D7 s a.toNat H.toNat)[i]?:=fun i=>by unfold D7 It;rw [List.getElem?_map]
  have hlen:(B6 ((s.take H.toNat).drop a.toNat) 0).length=(D7 s a.toNat H.toNat).length:=by unfold D7 It;rw [List.length_map]
  have hE:=YQ hP (s:=s) (u:=(s.take H.toNat).drop a.toNat) (lo:=a.toNat) (hi:=H.toNat) rfl (by omega) (by omega) (by omega) BI [.ptr l2 v2 0]
   (fun i c=> ∃es mt X,Lw (((D7 s a.toNat H.toNat).take i).foldl HQ (ij s ((a,b)::D))) es mt/\c=(pt l2 (.row v2 0 [.ptr lg vg 0])+(pt lg (.row vg 0 (gC lh vh s lm vm (Aq ((a,b)::D) (a,H)) xc sc))+(pt lm (.DA vm es)+mt)))+X) (fun i e c he hC=>by
    obtain ⟨es,mt,X,ht,rfl⟩:=hC;have he':(D7 s a.toNat H.toNat)[i]?=some (e.1,a.toNat+e.2):=by rw [<-hel,he];rfl
    obtain ⟨l1,l2'⟩:=Yr (u:=e.1) (P:=fun p=> ¬Bd ((a,b)::D) p) (s:=s) (lo:=a.toNat) (hi:=H.toNat) (by omega) (by omega) hbe.1 b3 hdis i;have hll:((((D7 s a.toNat H.toNat).take i).foldl HQ (ij s ((a,b)::D))) e.1).length<=1000000:=by
     rw [l2'.length_eq,List.length_append,List.length_map];have h1:=Wi s e.1 fun p=> ¬Bd ((a,b)::D) p;have h2:=List.length_filter_le (fun x:Bytes×Nat=>decide (x.1=e.1)) ((D7 s a.toNat H.toNat).take i);have h3:(D7 s a.toNat H.toNat).length<=s.length:=by
      rw [<-hlen];unfold B6;refine Nat.le_trans (List.length_filterMap_le _ _) ?_;simp;omega
     rw [List.length_take] at h2;omega
    intro S mf hS;refine (qh (lg:=lg) (vg:=vg) (lh:=lh) (vh:=vh) (s:=s) (lm:=lm) (vm:=vm) (D:=Aq ((a,b)::D) (a,H)) (xc:=xc) (sc:=sc) (l2:=l2) (v2:=v2) ht (e.1,a.toNat+e.2) l1 hll S (X+mf) (hS.eq (by ac_rfl))).mono ?_;rintro r S' ⟨m',⟨es',mt',X',ht',rfl⟩,hS'⟩;refine ⟨_,⟨_,HM.nil,⟨es',mt',X'+X,?_,rfl⟩,rfl⟩,hS'.eq (by rw [HM.add_nil];ac_rfl)⟩;rw [List.take_add_one,he',Option.toList_some,List.foldl_append];exact ht') _ ⟨es,mt,HM.nil,h,rfl⟩
  rw [show ((a.toNat:Nat):Int)=a by omega,show ((H.toNat:Nat):Int)=H by omega,HM.add_nil] at hE;have hS:=hS.eq (m':=(pt l2 (.row v2 0 [.ptr lg vg 0])+(pt lg (.row vg 0 (gC lh vh s lm vm (Aq ((a,b)::D) (a,H)) xc sc))+(pt lm (.DA vm es)+mt)))+(pt l4 (.row v4 0 [.int .i64 a,.int .i64 H])+mf)) (by ac_rfl);refine Cw hS fun S hS=>?_;refine SI ?_;refine HC.use hE hS ?_;rintro r m' S ⟨c1,X1,⟨es',mt',X,ht,rfl⟩,rfl⟩ hS;refine Z4 ?_;rw [hlen,List.take_length,pq (by omega) (by omega) hbe.1 b3 hdis] at ht;rw [hDn];refine ⟨_,⟨es',mt',pt l2 (.row v2 0 [.ptr lg vg 0])+(pt l4 (.row v4 0 [.int .i64 a,.int .i64 H])+(X+X1)),ht.congr (funext fun w=>QQ fun p _=>?_),rfl⟩,hS.eq (by unfold GM;ac_rfl)⟩;rw [q1 p];have e1:((a.toNat:Int)<=p/\p<(H.toNat:Int))↔(a<=p/\p<H):=by omega
  rw [e1,Classical.not_and_iff_not_or_not,Classical.not_not]
end Go.Proofs.YtlibocgedgdmlaaGreat.E
end
section
set_option maxRecDepth 100000
namespace Go.Proofs.YtlibocgedgdmlaaGreat.E
open Go.Vc Go.Fu
variable {lg vg lh vh lm vm : Nat} {s : Bytes} {D : List Span} {xc : AA} {sc : List AA}
noncomputable abbrev MA (w:Bytes) (E:List (Bytes×Nat)):List Int:=(E.filter fun e=>e.1=w).map fun e=>(e.2:Int)
theorem mN (w:Bytes) (E:List (Bytes×Nat)) (e:Bytes×Nat):MA w (E++[e])=MA w E++if e.1=w then [(e.2:Int)] else []:=by
 unfold MA;rw [List.filter_append,List.map_append];congr 1;by_cases c:e.1=w
 ·simp [c]
 ·simp [c]
abbrev gG (l3 v3 l5 v5 p v:Nat) (w:Bytes) (out:List Int):HM:=pt l3 (.row v3 0 [.str w])+(pt l5 (.row v5 0 [.sl p v 0 out.length])+pt p (.row v 1 (ints out)))
theorem pX {l3 v3 l5 v5 p v:Nat} {w:Bytes} {out:List Int} (e:Bytes×Nat) (hn:out.length<=1000000):
  HC Tryz.prog Bb [.str e.1,.int .i64 (e.2:Int),.ptr l3 v3 0,.ptr l5 v5 0] (gG l3 v3 l5 v5 p v w out) fun r m'=> ∃v',m'=gG l3 v3 l5 v5 p v' w (out++if e.1=w then [(e.2:Int)] else []):=by
 intro S mf hS;obtain ⟨u,at_⟩:=e;refine JU Jy ?_;refine Z7 ?_;refine Av rfl (fun hc=>?_) (fun hc=>?_)
 ·skip
  refine Z4 ?_;refine AX ?_;refine EX hS rfl (DL.one rfl) rfl (by rw [List.length_map];omega) (by omega) fun v12 S hS=>?_;refine Z2 fun S hS=>?_;refine Z3 ?_;rw [if_pos hc];refine ⟨_,⟨v12,rfl⟩,hS.eq ?_⟩;unfold gG;simp only [List.length_append,List.length_cons,List.length_nil,List.map_append,List.map_cons,List.map_nil]
 ·refine Z3 ?_;rw [if_neg hc,List.append_nil];exact ⟨_,⟨v,rfl⟩,hS⟩
theorem nF (hN:BV Tryz.prog CY ED) {w:Bytes} (hw:Hw w) {S:AB} {K:AA->AB->Prop} (h:K (.bool (bo (isWord w))) S):AV Tryz.prog CY [.str w] S K:=
 hN.plain w hw rfl h
theorem uA {p v:Nat} {l:List Int} (hl:l.length<=1000000):HC Tryz.prog DD [.sl p v 0 l.length] (pt p (.row v 1 (ints l))) fun r m'=>m'=pt p (.row v 1 (ints (ub l))):=by
 intro S mf hS;have hp:S[p]?=some (.row v 1 (ints l)):=Has.here (l:=p) hS;refine DM (dO (P:=Tryz.prog) Tryz.yZ (by kernel_rfl) hp (by omega)) ?_;rintro r S' ⟨rfl,rfl⟩;exact ⟨_,rfl,hS.fq (l:=p)⟩
theorem jZ (l:List Int):(ub l).length=l.length:=(fO l).length_eq
theorem fp (hP:BV Tryz.prog BB Bi) (hN:BV Tryz.prog CY ED) {es:List (AA×AA)} {mt:HM} (h:Lw (ij s D) es mt)
  (hs:s.length<=600) (hD:AR s.length (-1) D) (hw:Whole s (Bd D)) {w:Bytes} (hf:Hw w):
  HC Tryz.prog CN [.ptr lg vg 0,.str w] (GM lg vg lh vh s lm vm D xc sc es mt) fun r m'=> ∃ma X,D0 (Gs s w) r ma/\m'=GM lg vg lh vh s lm vm D xc sc es mt+(ma+X):=by
 intro S mf hS;have hk:=h.keys;have hbe:=Qs hD hw;have hDl:=R1 (by omega) hD;refine JU KV ?_;refine Z3 fun v3 l3 S hS=>?_;refine Z1 fun v4 l4 S hS=>?_;refine Z7 ?_;refine nF hN hf ?_;refine Z4 ?_;by_cases c:isWord w;rotate_left
 ·have e:Gs s w=(4,0,0,[],[]):=by unfold Gs CP;rw [if_pos c]
  have eb:bo (isWord w)=false:=by rw [Bool.eq_false_iff];intro q;exact c (Gu.1 q)
  rw [eb];refine BS (c:= !false) rfl (fun _=>?_) (fun hb=>by cases hb);refine Z3 ?_;refine (Kg 4).use ?_;refine Z2 fun S hS=>?_;refine Z7 ?_;rw [e];exact ⟨_,⟨HM.nil,pt l4 _+pt l3 _,D0.plain,rfl⟩,hS.eq (by rw [HM.nil_add];ac_rfl)⟩
 have eb:bo (isWord w)=true:=Gu.2 c;have e:Gs s w=(0,0,0,FD s w,[]):=by unfold Gs CP;rw [if_neg (Classical.not_not.2 c),if_neg (by omega)]
 rw [eb];refine BS (c:= !true) rfl (fun hb=>by cases hb) (fun _=>?_);obtain ⟨y,m1,R,g1,rfl,g3,g4⟩:=h.look w;have hl1:(ij s D w).length<=s.length:=Wi s w fun p=> ¬Bd D p;refine Z3 ?_;refine sI hS fun n S hL hS=>?_;refine Z5 ?_;refine o6 (qj rfl ?_);refine aj hS rfl rfl rfl hk ?_;dsimp only [AK,rd,Frame.get];rw [g1];refine Z2 ?_;refine AX ?_;refine tR hS hL (by omega) (cM g3 (by omega) hS) fun v18 S hS hL=>?_;refine Z1 ?_;refine AX ?_;refine tO (l:=n+1) hS (by omega) (by omega) fun v5 S hS hL=>?_;refine Z2 fun S hS=>?_;refine gJ ?_;have hS:=hS.eq (m':=gG l3 v3 (n+1) v5 n v18 w (ij s D w)+(GM lg vg lh vh s lm vm D xc sc es (m1+R)+(pt l4 (.row v4 0 [.int .i64 0,.int .i64 0,.int .i64 0,.AL,.str []])+mf))) (by unfold gG GM;ac_rfl);refine GY (fun k xs S=> ∃(j v:Nat) (X:HM),xs=[.int .i64 (j:Int)]/\j<=D.length/\k=D.length-j/\(ij s D w++(D.take j).flatMap fun t=>MA w (D7 s t.1.toNat t.2.toNat)).length<=600+600*j/\
  Has S (gG l3 v3 (n+1) v5 n v w (ij s D w++(D.take j).flatMap fun t=>MA w (D7 s t.1.toNat t.2.toNat))+(GM lg vg lh vh s lm vm D xc sc es (m1+R)+(pt l4 (.row v4 0 [.int .i64 0,.int .i64 0,.int .i64 0,.AL,.str []])+(X+mf))))) D.length ⟨0,v18,HM.nil,rfl,Nat.zero_le _,rfl,by simp;omega,hS.eq (by rw [HM.nil_add,List.take_zero,List.flatMap_nil,List.append_nil])⟩ ?_
 clear hS;rintro k xs S hl' ⟨j,v,X,rfl,hj,rfl,hol,hS⟩;dsimp only [Er,List.map,Frame.get];refine Z6 ?_;refine Av rfl (fun hlt=>?_) (fun hlt=>?_)
 ·obtain ⟨t,ht⟩: ∃t,D[j]?=some t:=⟨_,List.getElem?_eq_getElem (by omega)⟩
  obtain ⟨a,b⟩:=t;have mD:=GS hD _ (List.mem_of_getElem? ht);dsimp only at mD;have hbt:=hbe _ (List.mem_of_getElem? ht);have t0:=cv ht;have hel: ∀i:Nat,(B6 ((s.take b.toNat).drop a.toNat) 0)[i]?.map (fun e=>(e.1,a.toNat+e.2))=(D7 s a.toNat b.toNat)[i]?:=fun i=>by unfold D7 It;rw [List.getElem?_map]
  have hlen:(B6 ((s.take b.toNat).drop a.toNat) 0).length=(D7 s a.toNat b.toNat).length:=by unfold D7 It;rw [List.length_map]
  have hel3:(D7 s a.toNat b.toNat).length<=600:=by
   rw [<-hlen];unfold B6;refine Nat.le_trans (List.length_filterMap_le _ _) ?_;simp;omega
  have hhl: ∀i,(MA w ((D7 s a.toNat b.toNat).take i)).length<=600:=fun i=>by
   unfold MA;rw [List.length_map];refine Nat.le_trans (List.length_filter_le _ _) ?_;rw [List.length_take];omega
  generalize hO:(ij s D w++(D.take j).flatMap fun t=>MA w (D7 s t.1.toNat t.2.toNat))=O at*;have hE:=YQ hP (s:=s) (u:=(s.take b.toNat).drop a.toNat) (lo:=a.toNat) (hi:=b.toNat) rfl (by omega) (by omega) (by omega) Bb [.ptr l3 v3 0,.ptr (n+1) v5 0]
   (fun i c=> ∃v,c=gG l3 v3 (n+1) v5 n v w (O++MA w ((D7 s a.toNat b.toNat).take i))) (fun i e c he hC=>by
    obtain ⟨v,rfl⟩:=hC;have he':(D7 s a.toNat b.toNat)[i]?=some (e.1,a.toNat+e.2):=by rw [<-hel,he];rfl
    have:=hhl i;intro S mf hS;refine (pX (l3:=l3) (v3:=v3) (l5:=n+1) (v5:=v5) (p:=n) (v:=v) (w:=w) (e.1,a.toNat+e.2) (by rw [List.length_append];omega) S mf hS).mono ?_;rintro r S' ⟨m',⟨v',rfl⟩,hS'⟩;refine ⟨_,⟨_,HM.nil,⟨v',?_⟩,rfl⟩,hS'.eq (by rw [HM.add_nil])⟩;rw [List.take_add_one,he',Option.toList_some,mN,List.append_assoc]) _ ⟨v,rfl⟩
  rw [show ((a.toNat:Nat):Int)=a by omega,show ((b.toNat:Nat):Int)=b by omega,List.take_zero,show MA w []=[] from rfl,List.append_nil] at hE;refine Z9 fun v7 l7 S hS=>?_;refine Z1 fun S hS=>?_;refine Z2 ?_;refine Cw hS fun S hS=>?_;refine SI ?_;refine HC.use hE hS ?_;rintro r m' S ⟨c1,X1,⟨v2,rfl⟩,rfl⟩ hS;refine Z9 ?_;rw [hlen,List.take_length] at hS;have hO2:ij s D w++(D.take (j+1)).flatMap (fun t=>MA w (D7 s t.1.toNat t.2.toNat))=O++MA w (D7 s a.toNat b.toNat):=by
   rw [List.take_add_one,ht,Option.toList_some,List.flatMap_append,<-List.append_assoc,hO];simp
  have:=hhl (D7 s a.toNat b.toNat).length;rw [List.take_length] at this;refine ⟨D.length-(j+1),by omega,j+1,v2,X+(X1+pt l7 (.row v7 0 [.int .i64 a,.int .i64 b])),rfl,by omega,rfl,by rw [hO2,List.length_append];omega,?_⟩;rw [hO2];exact hS.eq (by ac_rfl)
 ·obtain rfl:j=D.length:=by omega
  rw [List.take_of_length_le (Nat.le_refl _)] at hS hol;have hka:=mY hD hw w;generalize hO:(ij s D w++D.flatMap fun t=>MA w (D7 s t.1.toNat t.2.toNat))=O at*;have hka:ub O=FD s w:=hka;refine Z9 ?_;refine HC.use (uA (p:=n) (v:=v) (l:=O) (by omega)) hS ?_;rintro r m' S rfl hS;refine Z8 fun S hS=>?_;refine Z6 ?_;rw [e];refine ⟨_,⟨pt n (.row v 1 (ints (ub O))),pt l4 _+(pt l3 _+(pt (n+1) _+X)),⟨.sl n v 0 O.length,rfl,?_⟩,rfl⟩,hS.eq (by unfold GM;ac_rfl)⟩;rw [hka];have hl2:O.length=(FD s w).length:=by rw [<-hka,jZ]
  rw [hl2];exact Ed.whole (by show (ints (FD s w)).length=(FD s w).length*1;rw [List.length_map];omega)
end Go.Proofs.YtlibocgedgdmlaaGreat.E
end
section
set_option maxRecDepth 100000
namespace Go.Proofs.YtlibocgedgdmlaaGreat.E
open Go.Vc Go.Fu
variable {lg vg lh vh lm vm : Nat} {s : Bytes} {D : List Span} {xc : AA} {sc : List AA}
theorem bK {many:Int} (h:many<=0): ∀(L:List Bytes) (K:List Bool),GB many L K=K
 | [],K=>by cases K<;>rfl
 | l::L,[]=>rfl
 | l::L,k::K=>by unfold GB;rw [if_pos h]
theorem fC {many:Int}: ∀(L:List Bytes) (K:List Bool),(∀k∈K,k=true)->GB many L K=K
 | [],K,_=>by cases K<;>rfl
 | l::L,[],_=>rfl
 | l::L,k::K,h=>by
  unfold GB;split
  ·rfl
  ·have hk:=h k (List.mem_cons_self ..);rw [if_pos hk,fC L K fun x hx=>h x (List.mem_cons_of_mem _ hx),hk]
theorem ZG {many:Int} (hm:0<many): ∀(L:List Bytes) (K:List Bool) (i:Nat) (l:Bytes),L[i]?=some l->K[i]?=some false->(∀k∈K.take i,k=true)->GB many L K=GB (many-(l.length+1)) L (K.set i true)
 | [],K,i,l,h,_,_=>by simp at h
 | a::L,[],i,l,_,h,_=>by simp at h
 | a::L,k::K,0,l,h1,h2,_=>by
  simp at h1 h2;subst h1 h2;have hm': ¬many<=0:=by omega
  simp only [GB,if_neg hm',List.set_cons_zero,Bool.false_eq_true,if_false,if_true];split
  ·rename_i h;rw [bK h]
  ·rfl
 | a::L,k::K,i+1,l,h1,h2,h3=>by
  have hk:k=true:=h3 k (by simp);subst hk;have ih:=ZG hm L K i l (by simpa using h1) (by simpa using h2) fun x hx=>h3 x (by simp [hx]);have hm': ¬many<=0:=by omega
  simp only [GB,if_neg hm',List.set_cons_succ,if_true];rw [ih];split
  ·rename_i h;rw [bK h]
  ·rfl
theorem lF: ∀(K:List Bool) (i:Nat),K[i]?=some false->VA (K.set i true)<VA K
 | [],i,h=>by simp at h
 | k::K,0,h=>by
  simp at h;subst h;rw [List.set_cons_zero,Jt,Jt];simp
 | k::K,i+1,h=>by
  rw [List.set_cons_succ,Jt,Jt];have:=lF K i (by simpa using h);omega
theorem YN: ∀ {L:List Bytes} {K:List Bool} {i:Nat} {l:Bytes},L[i]?=some l->i<K.length->((cellsOf L K).set (i*2) (.int .i64 (BJ l).1)).set (i*2+1) (.bool true)=cellsOf L (K.set i true)
 | [],K,i,l,h,_=>by simp at h
 | a::L,[],i,l,_,h=>by simp at h
 | a::L,k::K,0,l,h,_=>by simp at h;subst h;simp [cellsOf]
 | a::L,k::K,i+1,l,h,h'=>by
  have:=YN (L:=L) (K:=K) (i:=i) (l:=l) (by simpa using h) (by simpa using h');simp only [cellsOf,List.set_cons_succ];rw [show (i+1)*2=i*2+1+1 by omega,List.set_cons_succ,List.set_cons_succ,List.set_cons_succ,List.set_cons_succ,this]
theorem NH: ∀ {cs:List AA} {j:Nat} {x y:AA},j+2<=cs.length->setCells cs j [x,y]=(cs.set j x).set (j+1) y
 | [],j,x,y,h=>by simp at h
 | [a],0,x,y,h=>by simp at h
 | a::b::cs,0,x,y,h=>by cases cs<;>rfl
 | a::cs,j+1,x,y,h=>by show a::setCells cs j [x,y]=_;rw [NH (by simp at h;omega)];rfl
theorem fU {cs:List AA} {off n a:Nat} {x:AA} (h:a<n):A6 (cs.set (off+a) x) off n=(A6 cs off n).set a x:=by
 unfold A6;rw [List.drop_set,if_neg (by omega),List.take_set,Nat.add_sub_cancel_left]
theorem iy (hP:BV Tryz.prog Df Ek) (hs:s.length<=600) {p v off:Nat} {cs:List AA} {K:List Bool} (hK:K.length=(AH s).length) (hle:off+K.length*2<=cs.length) (hcs:cellsOf (AH s) K=A6 cs off (K.length*2)) (many:Int) (hmm:many<=50):
  HC Tryz.prog Bp [.ptr lg vg 0,.int .i64 many] (pt lg (.row vg 0 (gC lh vh s lm vm D (.sl p v off K.length) sc))+pt p (.row v 2 cs)) fun r m'=> ∃cs',off+K.length*2<=cs'.length/\cellsOf (AH s) (GB many (AH s) K)=A6 cs' off (K.length*2)/\m'=pt lg (.row vg 0 (gC lh vh s lm vm D (.sl p v off K.length) sc))+pt p (.row v 2 cs'):=by
 intro S mf hS;have hcl:=DY s;refine JU JZ ?_;refine Z1 ?_;refine GY (fun n xs S=> ∃(m2:Int) (K2:List Bool) (cs2:List AA),xs=[.int .i64 m2]/\K2.length=K.length/\n=VA K2/\m2<=50/\GB many (AH s) K=GB m2 (AH s) K2/\off+K.length*2<=cs2.length/\cellsOf (AH s) K2=A6 cs2 off (K.length*2)/\
  Has S (pt lg (.row vg 0 (gC lh vh s lm vm D (.sl p v off K.length) sc))+pt p (.row v 2 cs2)+mf)) (VA K) ⟨many,K,cs,rfl,rfl,rfl,hmm,rfl,hle,hcs,hS⟩ ?_
 clear hS;rintro n xs S hl' ⟨m2,K2,cs2,rfl,hK2,rfl,hm1,hsc,hle2,hcs2,hS⟩;dsimp only [Er,List.map,Frame.get];refine Z7 ?_;refine Av rfl (fun hpos=>?_) (fun hpos=>?_);rotate_left
 ·refine Z6 ?_;rw [hsc,bK (by omega)];exact ⟨_,⟨cs2,hle2,hcs2,rfl⟩,hS⟩
 have hpos:0<m2:=by omega
 rw [<-hK2] at hle2 hcs2 hS;refine Nn ?_;refine HC.use (V9 (L:=AH s) (K:=K2) (by omega) hle2 hcs2 (by omega)) hS ?_;rintro r m' S ⟨rfl,hr⟩ hS;refine Z3 ?_;rcases hr with ⟨rfl,hall⟩ | ⟨i,rfl,h1,h2⟩
 ·refine Z8 ?_;refine Av rfl (fun _=>?_) (fun hb=>by exfalso;omega);refine Z7 ?_;rw [hsc,fC _ _ hall];rw [hK2] at hle2 hcs2 hS;exact ⟨_,⟨cs2,hle2,hcs2,rfl⟩,hS⟩
 ·have hi:=(List.getElem?_eq_some_iff.1 h1).1;obtain ⟨l,hl⟩: ∃l,(AH s)[i]?=some l:=⟨_,List.getElem?_eq_getElem (by omega)⟩
  have hll:=hcl.2 l (List.mem_of_getElem? hl);refine Z8 ?_;refine Av rfl (fun hb=>by exfalso;omega) (fun _=>?_);refine Z7 ?_;refine HC.use (WI (lg:=lg) (vg:=vg) (lh:=lh) (vh:=vh) (lm:=lm) (vm:=vm) (D:=D) (xc:= .sl p v off K2.length) (sc:=sc) hl (by omega)) hS ?_;rintro r m' S ⟨rfl,rfl⟩ hS;refine Z5 ?_;have hst:off+i*2+2<=cs2.length:=by omega
  refine Cw hS fun S hS=>?_;refine Z6 ?_;refine o6 (qi _ (eT hP (l:=l) (by omega) ⟨rfl,rfl⟩) ?_);refine Z6 fun S hS=>?_;refine ra ?_;have hlen:(setCells cs2 (off+i*2) [.int .i64 (BJ l).1,.bool true]).length=cs2.length:=by
   rw [NH (by omega),List.length_set,List.length_set]
  rw [hK2] at hS hle2 hcs2;refine ⟨VA (K2.set i true),lF K2 i h1,m2-(l.length+1),K2.set i true,setCells cs2 (off+i*2) [.int .i64 (BJ l).1,.bool true],rfl,by rw [List.length_set,hK2],rfl,by omega,?_,by omega,?_,hS⟩
  ·rw [hsc,ZG hpos _ _ i l hl h1 h2]
  ·rw [<-YN hl hi,NH (by omega),show off+i*2+1=off+(i*2+1) by omega,fU (by omega),fU (by omega),hcs2]
def br (lg vg lh vh lm vm:Nat) (s:Bytes) (D:List Span) (K:List Bool) (sc:List AA) (m:HM):Prop:=
 ∃xc es mt mc,m=pt lg (.row vg 0 (gC lh vh s lm vm D xc sc))+(pt lm (.DA vm es)+(mt+mc))/\Lw (ij s D) es mt/\Ed 2 xc (cellsOf (AH s) K) K.length mc
theorem oR (hPt:BV Tryz.prog BB Bi) (hA:BV Tryz.prog BN CV) (hW:BV Tryz.prog A9 Ci) (hP:BV Tryz.prog Df Ek) {K:List Bool} {m:HM} (hm:br lg vg lh vh lm vm s D K sc m)
  (hs:s.length<=600) (hD:AR s.length (-1) D) (hw:Whole s (Bd D)) (hK:K.length=(AH s).length) (E:Et) (hE:E.h.text=s/\E.Ba=D/\E.known=K) (r:Rq):
  HC Tryz.prog Cs [.ptr lg vg 0,.agg (Bt r)] m fun x m'=> ∃m1 X,D0 (Fp E r.2.2.1 r.2.2.2.1).2 x HM.nil/\br lg vg lh vh lm vm s (Fp E r.2.2.1 r.2.2.2.1).1.Ba (Fp E r.2.2.1 r.2.2.2.1).1.known sc m1/\m'=m1+X:=by
 intro S mf hS;obtain ⟨k,⟨dk,a,b,u⟩,n,z,w⟩:=r;obtain ⟨xc,es,mt,mc,rfl,ht,hc⟩:=hm;obtain ⟨rfl,rfl,rfl⟩:=hE;have hcp:=YM E.h.text;have hcl:=DY E.h.text;refine JU Lb ?_;unfold Fp;by_cases c1:n<0
 ·rw [if_pos (.inl c1)];refine Z3 fun v3 l3 S hS=>?_;refine Z1 fun v4 l4 S hS=>?_;refine Z2 ?_;refine Hu fun K1 hK1=>?_;refine Z6 ?_;refine AX ?_;refine Am (BF (fun hg=>?_) (fun hg=>by exfalso;omega));dsimp only [AK,rd,Frame.get];refine Z4 ?_;refine AX ?_;refine Am (EU (fun hg=>?_) (fun hb=>by cases hb));dsimp only [AK,rd,Frame.get];refine Z4 ?_;refine AX ?_;refine Am (EU (fun hg=>?_) (fun hb=>by cases hb));dsimp only [AK,rd,Frame.get];refine Z7 ?_;refine BS rfl (fun _=>?_) (fun hb=>by cases hb);refine Z3 ?_;refine (Kg 2).use ?_;refine Z2 fun S hS=>?_;refine Z8 ?_;exact ⟨_,⟨_,pt l4 _+pt l3 _,D0.plain,⟨xc,es,mt,mc,rfl,ht,hc⟩,rfl⟩,hS.eq (by ac_rfl)⟩
 by_cases c2:1<n
 ·rw [if_pos (.inr (.inl c2))];refine Z3 fun v3 l3 S hS=>?_;refine Z1 fun v4 l4 S hS=>?_;refine Z2 ?_;refine Hu fun K1 hK1=>?_;refine Z6 ?_;refine AX ?_;refine Am (BF (fun hg=>by exfalso;omega) (fun hg=>?_));dsimp only [AK,rd,Frame.get];refine Z4 ?_;refine AX ?_;refine Am (BF (fun hg=>?_) (fun hg=>by exfalso;omega));dsimp only [AK,rd,Frame.get];refine Z4 ?_;refine AX ?_;refine Am (EU (fun hg=>?_) (fun hb=>by cases hb));dsimp only [AK,rd,Frame.get];refine Z7 ?_;refine BS rfl (fun _=>?_) (fun hb=>by cases hb);refine Z3 ?_;refine (Kg 2).use ?_;refine Z2 fun S hS=>?_;refine Z8 ?_;exact ⟨_,⟨_,pt l4 _+pt l3 _,D0.plain,⟨xc,es,mt,mc,rfl,ht,hc⟩,rfl⟩,hS.eq (by ac_rfl)⟩
 by_cases c3:z<1
 ·rw [if_pos (.inr (.inr (.inl c3)))];refine Z3 fun v3 l3 S hS=>?_;refine Z1 fun v4 l4 S hS=>?_;refine Z2 ?_;refine Hu fun K1 hK1=>?_;refine Z6 ?_;refine AX ?_;refine Am (BF (fun hg=>by exfalso;omega) (fun hg=>?_));dsimp only [AK,rd,Frame.get];refine Z4 ?_;refine AX ?_;refine Am (BF (fun hg=>by exfalso;omega) (fun hg=>?_));dsimp only [AK,rd,Frame.get];refine Z4 ?_;refine AX ?_;refine Am (BF (fun hg=>?_) (fun hg=>by exfalso;omega));dsimp only [AK,rd,Frame.get];refine Z7 ?_;refine BS rfl (fun _=>?_) (fun hb=>by cases hb);refine Z3 ?_;refine (Kg 2).use ?_;refine Z2 fun S hS=>?_;refine Z8 ?_;exact ⟨_,⟨_,pt l4 _+pt l3 _,D0.plain,⟨xc,es,mt,mc,rfl,ht,hc⟩,rfl⟩,hS.eq (by ac_rfl)⟩
 by_cases c4:50<z
 ·rw [if_pos (.inr (.inr (.inr c4)))];refine Z3 fun v3 l3 S hS=>?_;refine Z1 fun v4 l4 S hS=>?_;refine Z2 ?_;refine Hu fun K1 hK1=>?_;refine Z6 ?_;refine AX ?_;refine Am (BF (fun hg=>by exfalso;omega) (fun hg=>?_));dsimp only [AK,rd,Frame.get];refine Z4 ?_;refine AX ?_;refine Am (BF (fun hg=>by exfalso;omega) (fun hg=>?_));dsimp only [AK,rd,Frame.get];refine Z4 ?_;refine AX ?_;refine Am (BF (fun hg=>by exfalso;omega) (fun hg=>?_));dsimp only [AK,rd,Frame.get];refine Z7 ?_;refine Av rfl (fun _=>?_) (fun hb=>by exfalso;omega);refine Z3 ?_;refine (Kg 2).use ?_;refine Z2 fun S hS=>?_;refine Z8 ?_;exact ⟨_,⟨_,pt l4 _+pt l3 _,D0.plain,⟨xc,es,mt,mc,rfl,ht,hc⟩,rfl⟩,hS.eq (by ac_rfl)⟩
 rw [if_neg (by omega)];have hmK:0<E.known.length:=by omega
 by_cases c5:n=0
 ·rw [if_pos c5];refine Z3 fun v3 l3 S hS=>?_;refine Z1 fun v4 l4 S hS=>?_;refine Z2 ?_;refine Hu fun K1 hK1=>?_;refine Z6 ?_;refine AX ?_;refine Am (BF (fun hg=>by exfalso;omega) (fun hg=>?_));dsimp only [AK,rd,Frame.get];refine Z4 ?_;refine AX ?_;refine Am (BF (fun hg=>by exfalso;omega) (fun hg=>?_));dsimp only [AK,rd,Frame.get];refine Z4 ?_;refine AX ?_;refine Am (BF (fun hg=>by exfalso;omega) (fun hg=>?_));dsimp only [AK,rd,Frame.get];refine Z7 ?_;refine Av rfl (fun hb=>by exfalso;omega) (fun _=>?_);refine Z8 ?_;refine Av rfl (fun _=>?_) (fun hb=>absurd c5 hb);have hS:=hS.eq (m':=GM lg vg lh vh E.h.text lm vm E.Ba xc sc es mt+(pt l4 (.row v4 0 [.int .i64 0,.int .i64 0,.int .i64 0,.AL,.str []])+(pt l3 _+(mc+mf)))) (by unfold GM;ac_rfl);refine Z5 ?_;refine HC.use (mi (lg:=lg) (vg:=vg) (lh:=lh) (vh:=vh) (lm:=lm) (vm:=vm) (xc:=xc) (sc:=sc) hPt hA hW ht hs hD hw (many:=z) (by omega)) hS ?_;rintro r m' S ⟨es',mt',X,ht',rfl⟩ hS;refine Z4 ?_;refine hK1 _ _ rfl ?_;dsimp only [Er,List.map,Frame.get];refine Z4 fun S hS=>?_;refine Z6 ?_;exact ⟨_,⟨_,pt l4 _+(pt l3 _+X),D0.plain,⟨xc,es',mt',mc,rfl,ht',hc⟩,rfl⟩,hS.eq (by unfold GM;ac_rfl)⟩
 ·rw [if_neg c5];obtain ⟨p,v,off,cs,rfl,rfl,hle,hcs⟩:=hc.pos hmK;refine Z3 fun v3 l3 S hS=>?_;refine Z1 fun v4 l4 S hS=>?_;refine Z2 ?_;refine Hu fun K1 hK1=>?_;refine Z6 ?_;refine AX ?_;refine Am (BF (fun hg=>by exfalso;omega) (fun hg=>?_));dsimp only [AK,rd,Frame.get];refine Z4 ?_;refine AX ?_;refine Am (BF (fun hg=>by exfalso;omega) (fun hg=>?_));dsimp only [AK,rd,Frame.get];refine Z4 ?_;refine AX ?_;refine Am (BF (fun hg=>by exfalso;omega) (fun hg=>?_));dsimp only [AK,rd,Frame.get];refine Z7 ?_;refine Av rfl (fun hb=>by exfalso;omega) (fun _=>?_);refine Z8 ?_;refine Av rfl (fun hb=>absurd hb c5) (fun _=>?_);have hS:=hS.eq (m':=(pt lg (.row vg 0 (gC lh vh E.h.text lm vm E.Ba (.sl p v off E.known.length) sc))+pt p (.row v 2 cs))+(pt l4 (.row v4 0 [.int .i64 0,.int .i64 0,.int .i64 0,.AL,.str []])+(pt l3 _+(pt lm (.DA vm es)+(mt+mf))))) (by ac_rfl);refine Z5 ?_;refine HC.use (iy (lg:=lg) (vg:=vg) (lh:=lh) (vh:=vh) (lm:=lm) (vm:=vm) (D:=E.Ba) (sc:=sc) (v:=v) (p:=p) hP hs hK hle hcs z (by omega)) hS ?_;rintro r m' S ⟨cs',hle',hcs',rfl⟩ hS;refine Z4 ?_;refine hK1 _ _ rfl ?_;dsimp only [Er,List.map,Frame.get];refine Z4 fun S hS=>?_;refine Z6 ?_;refine ⟨_,⟨_,pt l4 _+pt l3 _,D0.plain,⟨.sl p v off E.known.length,es,mt,pt p (.row v 2 cs'),rfl,ht,?_⟩,rfl⟩,hS.eq (by ac_rfl)⟩;rw [PB];exact .inr ⟨p,v,off,cs',rfl,rfl,hle',hcs'⟩
end Go.Proofs.YtlibocgedgdmlaaGreat.E
end
section
namespace Go.Vc
open Go.Sort Go.Shelf Go.Proofs
theorem UW {P:Program} (w:World) (t e ty:TypeId) (z:Value) (ht:P.underlying t=some (.slice e)) (hv: ∀w,(zeroValue e).run P w= .ok z w) (b o n c k:Nat) (hk:z.cells.size=k) (hz1: ∀v∈z.cells.toList,v.oneCell'=true)
  (hc: ∀j,j<n*k->(w.cell? ⟨b,o+j,none⟩).isSome=true) (hf: ∀j,j<n*k->w.frozen? ⟨b,o+j,none⟩=false):
  ∃vs:List Value,vs.length=n*k/\(∀v∈vs,v.oneCell'=true)/\(Builtin.clear_ #[t] ty #[.slice (some ⟨b,o,none⟩) n c]).run P w= .ok (.tuple #[]) (w.setCells b o vs):=by
 cases n with
 | zero=>exact ⟨[],by simp,by simp,by simp [Builtin.clear_,run_underlying ht,World.setCells]⟩
 | succ n=>
  have hl:(Builtin.zeroCells z.cells (n+1)).toList.length=(n+1)*k:=by rw [Array.length_toList,size_zeroCells,hk]
  have h1': ∀v∈(Builtin.zeroCells z.cells (n+1)).toList,v.oneCell'=true:=fun v hv=>by
   simp only [Builtin.zeroCells,Array.toList_map,List.mem_map,Array.toList_range,List.mem_range] at hv;obtain ⟨i,hi,rfl⟩:=hv;have hpos:0<z.cells.size:=by
    rcases Nat.eq_zero_or_pos z.cells.size with h | h
    ·rw [h] at hi;omega
    ·exact h
   rw [getElem!_pos z.cells _ (Nat.mod_lt _ hpos)];exact hz1 _ (by simp)
  refine ⟨(Builtin.zeroCells z.cells (n+1)).toList,hl,h1',?_⟩;have hst:=run_storeCells_cells (P:=P) b o (Builtin.zeroCells z.cells (n+1)).toList 0 w (by rw [hl];simpa using hc) (by rw [hl];simpa using hf) h1';simp only [Nat.add_zero] at hst;simp [Builtin.clear_,run_underlying ht,hv,hst]
theorem JP {P:Program} (w:World) {ops:Array Oper} {rest:List Oper} {o:Oper} {a:Act} {Q:Exit->Act->World->Prop} (hgd:o.guard=none) (x:Operand) (t:TypeId)
  (ho:o.op= .call {callee:= .builtin .clear,args:= #[x],argTypes:= #[t]}) (v:Value) (hx:a.eval x=v) {v':Value} {w':World}
  (hr:(Builtin.clear_ #[t] o.type #[v]).run P w= .ok v' w') (h:wpList P ops Q rest (a.put o.dst v') w'):wpList P ops Q (o::rest) a w:=
 wpList_plain hgd fun _ hK=>by
  unfold Oper.wp execOp;simp only [ho,resolve,invoke,builtin,Sem.run_bind,Sem.run_pure,Result.andThen_ok,List.map_toArray,List.map_cons,List.map_nil,hx,hr];exact hK _ _ h
end Go.Vc
end
