/- Part of the proof of topEngine_holds: the whole is true of every input. Conditions: none. -/
import Derived.Test.YtlibocgedgdmlaaGreatQ14
import Derived.Test.YtlibocgedgdmlaaGreatRows
import Derived.OpenShut
import Derived.SizedLaws
set_option linter.all false
section
set_option maxRecDepth 100000
namespace Go.Proofs.YtlibocgedgdmlaaGreat.T
open Go.Vc Go.Fu
open Go.Proofs.YtlibocgedgdmlaaGreat.E (C4 Ox QP Gf take_one LX)
theorem AU.fr {P:Program} {f:FuncId} {args:List AA} {S:AB} {K:AA->AB->Prop} (Z:List Nat) (n:Nat) (h:AU P f (args.map (BP (JL Z S) n)) (NW Z S) K):AU P f args S K:=
 ⟨fun E fz w vals st hrel=>(h.out E _ w vals (st.NW Z) (Le (fun x v=>PW (st.JL Z) n x v) args vals hrel)).mono fun e w' ⟨r,S',v,E',fz',h1,h2,h3,h4,h5⟩=>
  ⟨r,S',v,E',fz',h1,⟨h2.env,fun b hb=>h2.WI b (.inl hb),fun b hb=>by
   rcases h2.Gi b hb with (q | ⟨l,q⟩) | ⟨l,q⟩ | q
   ·exact .inl q
   ·exact .inr (.inl ⟨l,(Jb q).2⟩)
   ·exact .inr (.inl ⟨l,(Jc q).2⟩)
   ·exact .inr (.inr q),fun b hb hn=>h2.AW b hb fun ⟨l,q⟩=>hn ⟨l,(Jc q).2⟩,fun b hb=>by
   rcases h2.own b hb with ⟨l,q⟩ | q
   ·exact .inl ⟨l,(Jc q).2⟩
   ·exact .inr q,h2.size,h2.os,h2.output,h2.tape⟩,h3,h4,h5⟩⟩
theorem Yp {P:Program} {f:FuncId} {s:Bytes} {k n:Nat} {x r0:AA} {cells:List AA} {md m:HM} {S:AB} {K:AA->AB->Prop} (hS:Has S (md+m)) (hx:EP k x cells n md) (hfl: ∀c∈cells,∀S,BP S 1 c=c)
  (h:RC P f [.str s,.Em n cells] r0) (hK: ∀S',Has S' m->K r0 S'):AU P f [.str s,x] S K:=by
 obtain ⟨a,ha⟩:=md.ex;obtain ⟨b,rfl⟩:=m.ex;rw [ha] at hS hx;have hS:KL S (a++b):=hS;have nd:=hS.nd;rw [List.map_append] at nd;obtain ⟨n1,n2,n3⟩:=List.nodup_append.1 nd;refine AU.fr (a.map (·.1)) 2 ?_;have h1:Has (JL (a.map (·.1)) S) (HM.of a+HM.nil):=by
  rw [HM.add_nil];show KL _ a;refine ⟨n1,fun p hp=>?_⟩;unfold JL;rw [List.getElem?_mapIdx,hS.at_ _ (by simp [hp])];simp only [Option.map_some];rw [if_pos (List.mem_map_of_mem hp)]
 have e:List.map (BP (JL (a.map (·.1)) S) 2) [AA.str s,x]=[.str s,.Em n cells]:=by
  show [BP _ 2 (AA.str s),BP _ 2 x]=_;rw [hx.BP h1 1,KY fun c hc=>hfl c hc _];rfl
 rw [e];refine h.use (hK _ ?_);show KL _ b;refine ⟨n2,fun p hp=>?_⟩;have hne:p.1 ∉ a.map (·.1):=fun hy=>n3 p.1 hy p.1 (List.mem_map_of_mem hp) rfl;unfold NW;rw [List.getElem?_mapIdx,hS.at_ p (by simp [hp])];simp only [Option.map_some];rw [if_neg hne]
abbrev uY (l:List Bytes):AA:= .Em l.length (l.flatMap (BQ .str))
abbrev mF (t:TW):List AA:=[.int .i64 t.1,.int .i64 t.2.1,.int .i64 t.2.2.1,DL (.sl tI) t.2.2.2.1,.str t.2.2.2.2]
abbrev xO (l:List TW):AA:= .Em l.length (l.flatMap mF)
abbrev wh (l:List Rq):AA:= .Em l.length (l.flatMap C4)
theorem sV (h:BS Tryz.prog B0 Di) {t:List Int} {n:Int} (hp:NL (t,n)):RC Tryz.prog B0 [DL (.sl tI) t,.int .i64 n] (.str (Gb t n)):=
 h.plain (S:=[]) (K:=fun r _=>r= .str (Gb t n)) (t,n) hp rfl rfl
theorem tx (h:BS Tryz.prog DB E_) {t:List Int} {n:Int} (hp:NL (t,n)):RC Tryz.prog DB [DL (.sl tI) t,.int .i64 n] (.str (H_ t n)):=
 h.plain (S:=[]) (K:=fun r _=>r= .str (H_ t n)) (t,n) hp rfl rfl
theorem jL (h:BS Tryz.prog AX BM) {a n:Int} (hp:FH (a,n)):RC Tryz.prog AX [.int .i64 a,.int .i64 n] (.int .i64 (AS a n)):=
 h.plain (S:=[]) (K:=fun r _=>r= .int .i64 (AS a n)) (a,n) hp rfl rfl
theorem sK (h:BS Tryz.prog Dg GH) {l:List Go.Fu.Ask} {n z:Int} (hp:oO l n z):RC Tryz.prog Dg [DL (.sl sS) l,.int .i64 n,.int .i64 z] (wh (MV l n z)):=
 h.frozen.plain (S:=[]) (K:=fun r _=>r=wh (MV l n z)) (l,n,z) hp rfl rfl
theorem jM (h:BS Tryz.prog CH Fs) {s:Bytes} {l:List Rq} (hp:Ra s l) (hb: ¬JC s l):RC Tryz.prog CH [.str s,wh l] (.DG [xO (Bu (Az s) l),uY (BX (Az s) l),.int .i64 0]):=by
 have:=h.plain (S:=[]) (K:=fun r _=>r= .DG [DL (.sl TN) (DA s l).1,DL (.sl .str) (DA s l).2.1,.int .i64 (DA s l).2.2]) (s,l) hp rfl rfl;rw [Sc hb] at this;exact this
theorem b9: ∀l:List Int,l.map (AA.int .i64)=l.flatMap (BQ tI)
 | []=>rfl
 | a::l=>by show AA.int .i64 a::l.map (AA.int .i64)=AA.int .i64 a::l.flatMap (BQ tI);rw [b9 l]
theorem YW {S:AB} {p v n:Nat} {cs:List AA} (h:S[p]?=some (.row v 1 cs)) (hn:cs.length=n):BP S 1 (.sl p v 0 n)= .Em n cs:=by
 subst hn;simp only [BP];rw [h];simp only [if_pos,List.drop_zero,Nat.mul_one,List.take_length];exact congrArg _ (KY (S:=S) (n:=0) fun c _=>rfl)
theorem sZ {S:AB} {a b c a' b' c':AA} (h1:BP S 1 a=a') (h2:BP S 1 b=b') (h3:BP S 1 c=c'):BP S 2 (.DG [a,b,c])= .DG [a',b',c']:=by subst h1 h2 h3;rfl
theorem rN (h:BS Tryz.prog DI Hl) {s:Bytes} {l:List EM} (hp:Qa s l) (hb: ¬Es s l): ∃c,RC Tryz.prog DI [.str s,.Em l.length (l.flatMap Ox)] (.DG [uY (ET (Dy s) l),c,.int .i64 0]):=by
 have hfn:Gk s l=(ET (Dy s) l,Fy (Dy s) l,0):=by unfold Gk K0;rw [if_neg hb]
 refine ⟨DL (.sl tI) (Fy (Dy s) l),AU.iu 2 (C6 (h.2 (s,l) hp) fun r S' hr=>?_)⟩;obtain ⟨ys,h1,rfl⟩:=hr;have h1:HV [.own .str,.own tI,.val tI] (Gk s l) 0 ys S':=h1;rw [hfn] at h1;have e1: ∀L:List Bytes,(L.flatMap (BQ .str)).length=L.length:=fun L=>by rw [<-LX];simp
 have e2: ∀L:List Int,(L.flatMap (BQ tI)).length=L.length:=fun L=>by rw [<-b9];simp
 have n1: ∀S,ET (Dy s) l=[]->BP S 1 .AM=uY (ET (Dy s) l):=fun S q=>by rw [q];rfl
 have n2: ∀S,Fy (Dy s) l=[]->BP S 1 .AM=DL (.sl tI) (Fy (Dy s) l):=fun S q=>by rw [q];rfl
 rcases h1 with ⟨v1,ys',S1,rfl,rfl,h2⟩ | ⟨h0,ys',rfl,h2⟩<;>rcases h2 with ⟨v2,ys2,S2,rfl,rfl,h3⟩ | ⟨h0',ys2,rfl,h3⟩<;>obtain ⟨_,rfl,rfl,rfl⟩:=h3
 ·exact sZ (YW rfl (e1 _)) (YW rfl (e2 _)) rfl
 ·exact sZ (YW rfl (e1 _)) (n2 _ h0') rfl
 ·exact sZ (n1 _ h0) (YW rfl (e2 _)) rfl
 ·exact sZ (n1 _ h0) (n2 _ h0') rfl
theorem sN (h:BS Tryz.prog Cc EZ) {a:List Int} (h1:JE a):RC Tryz.prog Cc [DL (.sl tI) a,DL (.sl tI) a] (.bool true):=by
 have:=h.plain (S:=[]) (K:=fun r _=>r= .bool (bo (a=a))) (a,a) ⟨h1,h1⟩ rfl rfl;rw [show bo (a=a)=true from KW.2 rfl] at this;exact this
theorem Zg: ∀ {l:List TW} {j:Nat} {r:TW},l[j]?=some r->takeN 5 ((l.flatMap mF).drop (j*5))=some (mF r)
 | [],j,r,h=>by simp at h
 | a::l,0,r,h=>by
  simp at h;subst h;show takeN 5 (mF a++l.flatMap mF)=_;rfl
 | a::l,j+1,r,h=>by
  have:=Zg (l:=l) (j:=j) (r:=r) (by simpa using h);rw [show (j+1)*5=j*5+5 by omega,List.flatMap_cons,show mF a=[.int .i64 a.1,.int .i64 a.2.1,.int .i64 a.2.2.1,DL (.sl tI) a.2.2.2.1,.str a.2.2.2.2] from rfl];simpa using this
end Go.Proofs.YtlibocgedgdmlaaGreat.T
end
section
set_option maxRecDepth 100000
set_option maxHeartbeats 4000000
namespace Go.Proofs.YtlibocgedgdmlaaGreat.T
open Go.Vc Go.Fu
open Go.Proofs.YtlibocgedgdmlaaGreat.E (C4 Ox QP Gf take_one LX)
theorem jP {l:List Rq}: ∀c∈l.flatMap C4,∀S,BP S 1 c=c:=fun c hc S=>by
 obtain ⟨r,_,h⟩:=List.mem_flatMap.1 hc;simp only [C4,List.mem_cons,List.not_mem_nil,or_false] at h;rcases h with rfl | rfl | rfl | rfl | rfl | rfl | rfl | rfl<;>rfl
theorem qp {l:List EM}: ∀c∈l.flatMap Ox,∀S,BP S 1 c=c:=fun c hc S=>by
 obtain ⟨r,_,h⟩:=List.mem_flatMap.1 hc;simp only [Ox,List.mem_cons,List.not_mem_nil,or_false] at h;rcases h with rfl | rfl | rfl | rfl<;>rfl
theorem pg {l:List Bytes} {j:Nat} {b:Bytes} (h:l[j]?=some b):takeN 1 ((l.flatMap (BQ .str)).drop (j*1))=some [.str b]:=by
 rw [<-LX,Nat.mul_one];exact take_one (by rw [List.getElem?_map,h];rfl)
theorem wE (a b c d:HM):a+(b+(c+d))=(a+(b+c))+d:=by ac_rfl
theorem p9 (hKT:BS Tryz.prog B0 Di) (hKR:BS Tryz.prog Dg GH) (hKP:BS Tryz.prog AX BM) (hKF:BS Tryz.prog DB E_) (hE:BS Tryz.prog CH Fs) (hH:BS Tryz.prog DI Hl) (hSI:BS Tryz.prog Cc EZ)
  (text:List Int) (l:List Go.Fu.Ask) (a:Int) (w:List Int) (hp:tP text l a w):
  HC Tryz.prog Du [DL (.sl tI) text,DL (.sl sS) l,.int .i64 a,DL (.sl tI) w] HM.nil fun r m'=>r= .bool true:=by
 obtain ⟨⟨h1,h2⟩,⟨h3,h4⟩,h5,h6,h7⟩:=hp;obtain ⟨s,hs⟩: ∃s,s=Gb text 40:=⟨_,rfl⟩
 obtain ⟨rs,hrs⟩: ∃rs,rs=MV l 50 ((s.length:Int)+5):=⟨_,rfl⟩
 obtain ⟨L,hL⟩: ∃L,L=GI a w:=⟨_,rfl⟩
 have sl:s.length<=40:=by have:=Vv text 40;rw [<-hs] at this;exact this
 have rl:rs.length<=50:=by have:=pT l 50 ((s.length:Int)+5);rw [<-hrs] at this;exact this
 have rf:OT rs:=by rw [hrs];exact pS (by omega) (by omega)
 have lf:OT L:=by rw [hL];exact k9 a w
 have L3:L.length=3:=by rw [hL];rfl
 have fw:=T6 w 2;have dl:=UU rs;obtain ⟨t,ht⟩: ∃t,t=(KS (Dy s) (Ge rs)).text:=⟨_,rfl⟩
 obtain ⟨same1,same2⟩:=fh s rs a w;rw [<-hL,<-ht] at same1 same2;have tl:t.length<=600:=by
  have:=(Hb.run (s:=s) (by omega) rs).h.len;rw [UY] at this;rw [ht];exact this
 have x1:=FE rs (Az s);have x2:=FE L (Az t);have x3:=GC (rs++L) (Az s);have x4:=FE (rs++L) (Az s);have x5:=II (Ge rs) (Dy s);have rL:(rs++L).length=rs.length+3:=by rw [List.length_append,L3]
 have hb1: ¬JC s (rs++L):=by unfold JC;omega
 have hb2: ¬JC t L:=by unfold JC;omega
 have hb3: ¬Es s (Ge rs):=by unfold Es;omega
 have hp1:Ra s (rs++L):=⟨by show s.length<=_;omega,by show (rs++L).length<=_;omega,fun r hr=>(List.mem_append.1 hr).elim (rf r) (lf r)⟩
 have hp2:Ra t L:=⟨by show t.length<=_;omega,by show L.length<=_;omega,lf⟩
 have hp3:Qa s (Ge rs):=⟨by show s.length<=_;omega,nT (by show rs.length<=_;omega) rf⟩
 have e8:BL (rs.flatMap C4) 0 (rs.length*8)++BL (L.flatMap C4) 0 (3*8)=(rs++L).flatMap C4:=by
  unfold BL;rw [List.drop_zero,List.drop_zero,List.take_of_length_le (by rw [Gf];omega),List.take_of_length_le (by rw [Gf];omega),List.flatMap_append]
 have hu:takeN 1 (((BX (Az s) (rs++L)).flatMap (BQ .str)).drop (((BX (Az s) (rs++L)).length-1)*1))=some [.str t]:=pg (by
  have y:=GC rs (Az s);rw [x3,rL,same2,List.getElem?_append_right (by omega),y,show rs.length+3-1-rs.length=2 by omega,hL];rfl)
 intro S mf hS;have hS:=hS.right;refine Ih Ls ?_;refine Z9 ?_;refine (sV hKT ⟨h2,by show (0:Int)<=40;omega,by show (40:Int)<=1000;omega⟩).use ?_;rw [<-hs];refine TX ?_;refine (sK hKR ⟨h4,by show (0:Int)<=50;omega,by show (50:Int)<=1000;omega,by omega,by omega⟩).use ?_;rw [<-hrs];refine Z7 fun v11 l11 S hS=>?_;refine Z9 ?_;refine GU (fun n xs S=> ∃(j:Nat) (x:AA) (md X:HM),xs=[x,.int .i64 (j:Int)]/\j<=rs.length/\n=rs.length-j/\EP 4 x ((Ge (rs.take j)).flatMap Ox) (Ge (rs.take j)).length md/\(∃p v off,x= .sl p v off (Ge (rs.take j)).length)/\Has S (md+(X+mf))) rs.length ⟨0,_,pt l11 (.row v11 4 []),HM.nil,rfl,Nat.zero_le _,rfl,EP.whole rfl,⟨_,_,_,rfl⟩,hS.eq (by rw [HM.nil_add])⟩ ?_;clear hS;rintro n xs S hl' ⟨j,x,md,X,rfl,hj,rfl,hx,hxf,hS⟩;dsimp only [Ei,List.map,Frame.get];refine Z9 ?_;refine Be rfl (fun hlt=>?_) (fun hlt=>?_)
 ·obtain ⟨r,hr⟩: ∃r,rs[j]?=some r:=⟨_,List.getElem?_eq_getElem (by omega)⟩
  have hq:=QP hr;have e1:Ge (rs.take (j+1))=Ge (rs.take j)++(if r.1=1 then [r.2.1] else []):=by
   rw [List.take_add_one,hr];exact kI _ _
  have hdl:=UU (rs.take j);rw [List.length_take] at hdl;refine Z2 ?_;refine He fun K1 hK1=>?_;have rest: ∀x' md' S,EP 4 x' ((Ge (rs.take (j+1))).flatMap Ox) (Ge (rs.take (j+1))).length md'->(∃p v off,x'= .sl p v off (Ge (rs.take (j+1))).length)->Has S (md'+(X+mf))->K1 [x'] S:=by
   intro x' md' S hx' hxf' hS;refine hK1 _ _ rfl ?_;dsimp only [Ei,List.map,Frame.get];refine Z6 ?_;exact ⟨rs.length-(j+1),by omega,j+1,x',md',X,rfl,by omega,rfl,hx',hxf',hS⟩
  refine TX ?_;refine Be rfl (fun hk=>?_) (fun hk=>?_)
  ·rw [if_pos hk] at e1;refine Z8 ?_;refine Ar ?_;refine GJ hS rfl hx (Dx.one rfl) rfl (by omega) fun x' md' S hx' hS=>?_;refine Z5 ?_;obtain ⟨p',v',off',cs',rfl,_⟩:=hx'.pos (by omega);refine rest _ _ _ ?_ ⟨p',v',off',?_⟩ hS
   ·rw [e1,List.flatMap_append,List.length_append];exact hx'
   ·rw [e1,List.length_append];rfl
  ·rw [if_neg hk,List.append_nil] at e1;refine Z3 ?_;exact rest _ _ _ (by rw [e1];exact hx) (by rw [e1];exact hxf) hS
 have hj:j=rs.length:=by omega
 rw [List.take_of_length_le (by omega)] at hx hxf;obtain ⟨px,vx,ox,rfl⟩:=hxf;refine Z9 ?_;refine (jL hKP ⟨h5,by show (0:Int)<60;omega,by show (60:Int)<=1000000;omega⟩).use ?_;refine Z4 ?_;refine (tx hKF ⟨h7,by show (0:Int)<=2;omega,by show (2:Int)<=1000;omega⟩).use ?_;refine Z1 ?_;refine Ar ?_;refine tF rfl (by simp only [List.length_singleton];unfold AH;omega) ?_;refine Z4 ?_;refine (jL hKP ⟨h5,by show (0:Int)<5;omega,by show (5:Int)<=1000000;omega⟩).use ?_;refine Z3 fun v64 l64 S hS=>?_;refine Z2 ?_;have hS:Has S (pt l64 (.row v64 8 (L.flatMap C4))+(md+(X+mf))):=by rw [hL];exact hS
 refine Z5 ?_;refine Ar ?_;refine R4 hS rfl (Dx.Em (Gf _)) (by omega) fun v68 l68 S hS=>?_;refine Z2 ?_;refine Ar ?_;refine Qs hS rfl (Dx.own rfl (by rw [Gf];omega)) rfl (by rw [Gf];omega) (by omega) fun v70 S hS=>?_;refine Z2 ?_;rw [e8] at hS;refine Yp (n:=rs.length+3) hS (EP.whole (by rw [Gf,rL])) jP (by rw [<-rL];exact jM hE hp1 hb1) fun S hS=>?_;refine TX ?_;obtain ⟨cc,hrc⟩:=rN hH hp3 hb3;refine Z4 ?_;have hS:=hS.eq (m':=md+(pt l64 (.row v64 8 (L.flatMap C4))+(X+mf))) (by ac_rfl);refine Yp hS hx qp hrc fun S hS=>?_;refine qS ?_;refine Ar ?_;refine BZ (MX (fun hg=>by exfalso;omega) (fun hg=>?_));dsimp only [AK,rd,Frame.get];refine Z3 ?_;refine Ar ?_;refine BZ (MX (fun hg=>by exfalso;omega) (fun hg=>?_));dsimp only [AK,rd,Frame.get];refine Z7 ?_;refine Ar ?_;refine BZ (MX (fun hg=>by exfalso;omega) (fun hg=>?_));dsimp only [AK,rd,Frame.get];refine Z6 ?_;refine Ar ?_;refine BZ (MX (fun hg=>by exfalso;omega) (fun hg=>?_));dsimp only [AK,rd,Frame.get];refine Z8 ?_;refine YP rfl (fun hc=>by exfalso;omega) (fun _=>?_);refine Z8 ?_;refine He fun K2 hK2=>?_;have rest2: ∀S,Has S (pt l64 (.row v64 8 (L.flatMap C4))+(X+mf))->K2 [.str t] S:=by
  intro S hS;refine hK2 _ _ rfl ?_;dsimp only [Ei,List.map,Frame.get];refine Z5 ?_;refine Yp (n:=3) hS (EP.whole (by rw [Gf,L3])) jP (by rw [<-L3];exact jM hE hp2 hb2) fun S hS=>?_;refine qS ?_;refine Ar ?_;refine BZ (MX (fun hg=>by exfalso;omega) (fun hg=>?_));dsimp only [AK,rd,Frame.get];refine Z4 ?_;refine Ar ?_;refine BZ (MX (fun hg=>by exfalso;omega) (fun hg=>?_));dsimp only [AK,rd,Frame.get];refine Z4 ?_;refine pM rfl ?_;rw [show (((BX (Az s) (rs++L)).length:Int)-1)=(((BX (Az s) (rs++L)).length-1:Nat):Int) by omega];refine LZ rfl rfl (by omega) hu ?_;refine Z7 ?_;refine YP rfl (fun hc=>absurd rfl hc) (fun _=>?_);refine Z9 ?_;refine GU (fun n xs S=> ∃(i:Nat) (X:HM),xs=[.int .i64 (i:Int)]/\i<=3/\n=3-i/\Has S (X+mf)) 3 ⟨0,X,rfl,by omega,rfl,hS⟩ ?_;clear hS;rintro n xs S hl' ⟨i,X,rfl,hi,rfl,hS⟩;dsimp only [Ei,List.map,Frame.get];refine Z7 ?_;refine Be rfl (fun hlt=>?_) (fun hlt=>?_)
  ·obtain ⟨d,hd⟩: ∃d,(Bu (Az t) L)[i]?=some d:=⟨_,List.getElem?_eq_getElem (by omega)⟩
   have hy:=Zg hd;have hd2:(Bu (Az s) (rs++L))[rs.length+i]?=some d:=by
    rw [same1,List.getElem?_append_right (by omega),x1,Nat.add_sub_cancel_left];exact hd
   have hx5:=Zg hd2;have hfit:JE d.2.2.2.1:=dV tl a w d (by rw [<-hL];exact List.mem_of_getElem? hd);refine TX ?_;refine Ar ?_;rw [show ((rs.length:Int)+(i:Int))=((rs.length+i:Nat):Int) by omega];refine LZ rfl rfl (by omega) hx5 ?_;refine Z3 fun v25 l25 S hS=>?_;refine Z1 fun S hS=>?_;refine Z9 fun v26 l26 S hS=>?_;refine Z1 fun S hS=>?_;refine Z9 ?_;refine Ar ?_;refine BZ (MX (fun hg=>absurd rfl hg) (fun hg=>?_));dsimp only [AK,rd,Frame.get];refine Z6 ?_;refine Ar ?_;refine BZ (MX (fun hg=>absurd rfl hg) (fun hg=>?_));dsimp only [AK,rd,Frame.get];refine Z6 ?_;refine Ar ?_;refine BZ (MX (fun hg=>absurd rfl hg) (fun hg=>?_));dsimp only [AK,rd,Frame.get];refine Z5 ?_;refine (sN hSI hfit).use ?_;refine Z5 ?_;refine Ce (c:= !true) rfl (fun hb=>by cases hb) (fun _=>?_);refine Z9 ?_;exact ⟨3-(i+1),by omega,i+1,_,rfl,by omega,rfl,hS.eq (wE _ _ _ _)⟩
  ·refine mR ?_;exact ⟨X,rfl,hS⟩
 refine Z7 ?_;refine Be rfl (fun hc=>?_) (fun hc=>?_)
 ·have hne:Ge rs≠[]:=fun q=>by have h0:=congrArg List.length q;rw [List.length_nil] at h0;omega
  have hq2:takeN 1 (((ET (Dy s) (Ge rs)).flatMap (BQ .str)).drop (((ET (Dy s) (Ge rs)).length-1)*1))=some [.str t]:=pg (by rw [x5,ht];exact bD _ hne);refine Z5 ?_;refine Ar ?_;rw [show (((ET (Dy s) (Ge rs)).length:Int)-1)=(((ET (Dy s) (Ge rs)).length-1:Nat):Int) by omega];refine LZ rfl rfl (by omega) hq2 ?_;refine Z5 ?_;exact rest2 _ hS
 ·have h0:Ge rs=[]:=List.eq_nil_of_length_eq_zero (by omega);have hts:t=s:=by rw [ht,h0];rfl
  refine Z2 ?_;rw [<-hts];exact rest2 _ hS
theorem sX (hKT:BS Tryz.prog B0 Di) (hKR:BS Tryz.prog Dg GH) (hKP:BS Tryz.prog AX BM) (hKF:BS Tryz.prog DB E_) (hE:BS Tryz.prog CH Fs) (hH:BS Tryz.prog DI Hl) (hSI:BS Tryz.prog Cc EZ):BS Tryz.prog Du law_TopEngine_ct:=
 ⟨Ls.1,fun (x:List Int×List Go.Fu.Ask×Int×List Int) hp=>
  AU.Zm (RC.val (p9 hKT hKR hKP hKF hE hH hSI x.1 x.2.1 x.2.2.1 x.2.2.2 hp)) fun r S' e=>⟨_,id,[],PM.refl _,Uq,[.bool true],⟨_,rfl,rfl,rfl⟩,e⟩⟩
end Go.Proofs.YtlibocgedgdmlaaGreat.T
end
section
set_option maxRecDepth 100000
namespace Go.Proofs.YtlibocgedgdmlaaGreat
open Go.ChangeShapes Go.WideShapes Go.ChangeAt Go.RowKit Go.Vc
theorem own_knob:ownKnob Tryz.prog.godebug=none:=by kernel_rfl
theorem laid_out:laidOutB Tryz.prog=true:=by kernel_rfl
theorem bulk_law (H:Type):dz (H:=H) Rows.uptoBulk Rows.uptoBulkAll where
 int k n:=by simp [Rows.uptoBulk]
 bool b:=by simp [Rows.uptoBulk]
 str s:=by simp [Rows.uptoBulk]
 nil:=by simp [Rows.uptoBulk]
 slice es sp:=by simp only [Rows.uptoBulk];omega
 agg ps:=by simp [Rows.uptoBulk]
 none:=by simp [Rows.uptoBulkAll]
 cons d r:=by simp [Rows.uptoBulkAll]
theorem par_ok {ts:List TypeId} (h:(ts.all fun t=>Tryz.prog.readableRec t && decide (t<Tryz.prog.types.size))=true): ∀t∈ts,Tryz.prog.readableRec t=true/\t<Tryz.prog.types.size:=by
 simpa using h
abbrev enginePlays_tys:KJ:=(.cons .str (.cons (.sl (.st (.cons (.int .i64) (.cons (.st (.cons (.int .i64) (.cons (.st (.cons (.int .i64) (.cons (.int .i64) (.cons .str .nil)))) .nil))) (.cons (.int .i64) (.cons (.int .i64) (.cons .str .nil))))))) .nil))
abbrev law_EnginePlays_ct:Ct:=XQ enginePlays_tys
abbrev topEngine_tys:KJ:=(.cons (.sl (.int .i64)) (.cons (.sl (.st (.cons (.int .i64) (.cons (.st (.cons (.int .i64) (.cons (.st (.cons (.int .i64) (.cons (.int .i64) (.cons (.sl (.int .i64)) .nil)))) .nil))) (.cons (.int .i64) (.cons (.int .i64) (.cons (.sl (.int .i64)) .nil))))))) (.cons (.int .i64) (.cons (.sl (.int .i64)) .nil))))
abbrev law_TopEngine_ct:Ct:=XQ topEngine_tys
end Go.Proofs.YtlibocgedgdmlaaGreat
end
section
set_option maxRecDepth 100000
namespace Go.Proofs.YtlibocgedgdmlaaGreat
open Go.Vc Go.Fu
theorem U2 (hC:Cons Tryz.prog [])
 (H: ∀(a:Int) (n:Int),(FH (a,n))->
 n≠0/\(a.tmod n<0->AH (a.tmod n+n)/\a.tmod n+n=AS a n)/\(¬a.tmod n<0->a.tmod n=AS a n)):
 BS Tryz.prog AX BM:=⟨NT.I_ rfl,fun x hx=>
 D3 hC (L:=[]) (trivial) NT (ct:=BM) (depth:=0) rfl (by kernel_rfl) x (H (@id (Int×Int) x).1 (@id (Int×Int) x).2 (JT hx (by kernel_rfl))) (by kernel_rfl)⟩
theorem U5 (hC:Cons Tryz.prog [(AX,BM)])
 (H: ∀(l:List Int) (n:Int),(NL (l,n))->
 ∃(I:List UInt8->Int->Prop),
 ∃(m:List UInt8->Int->Nat),
 I [] (0:Int)/\
 ∀(out:List UInt8) (i:Int),
 I out i->
 (i<(↑l.length:Int)/\i<n->
 (0:Int)<=i/\
 i<(↑l.length:Int)/\
 FH (gt l i,(12:Int))/\
 (0:Int)<=AS (gt l i) (12:Int)/\
 AS (gt l i) (12:Int)<=(↑(12:Nat):Int)/\
 (↑(12:Nat):Int)<=(↑(12:Nat):Int)/\
 (0:Int)<=(0:Int)/\
 (0:Int)<=(1:Int)/\
 (1:Int)<=
 (↑(List.drop (AS (gt l i) (12:Int)).toNat
 (List.take (↑(12:Nat):Int).toNat
 [(97:UInt8),(98:UInt8),(32:UInt8),(10:UInt8),(97:UInt8),
 (98:UInt8),(99:UInt8),(100:UInt8),(32:UInt8),(98:UInt8),
 (10:UInt8),(97:UInt8)])).length:
 Int)/\
 AH
 ((↑out.length:Int)+
 (↑(List.drop (Int.toNat (0:Int))
 (List.take (Int.toNat (1:Int))
 (List.drop (AS (gt l i) (12:Int)).toNat
 (List.take (↑(12:Nat):Int).toNat
 [(97:UInt8),(98:UInt8),(32:UInt8),(10:UInt8),
 (97:UInt8),(98:UInt8),(99:UInt8),(100:UInt8),
 (32:UInt8),(98:UInt8),(10:UInt8),
 (97:UInt8)])))).length:
 Int))/\
 AH (i+(1:Int))/\
 I
 (out++
 List.drop (Int.toNat (0:Int))
 (List.take (Int.toNat (1:Int))
 (List.drop (AS (gt l i) (12:Int)).toNat
 (List.take (↑(12:Nat):Int).toNat
 [(97:UInt8),(98:UInt8),(32:UInt8),(10:UInt8),(97:UInt8),
 (98:UInt8),(99:UInt8),(100:UInt8),(32:UInt8),
 (98:UInt8),(10:UInt8),(97:UInt8)]))))
 (i+(1:Int))/\
 m
 (out++
 List.drop (Int.toNat (0:Int))
 (List.take (Int.toNat (1:Int))
 (List.drop (AS (gt l i) (12:Int)).toNat
 (List.take (↑(12:Nat):Int).toNat
 [(97:UInt8),(98:UInt8),(32:UInt8),(10:UInt8),
 (97:UInt8),(98:UInt8),(99:UInt8),(100:UInt8),
 (32:UInt8),(98:UInt8),(10:UInt8),(97:UInt8)]))))
 (i+(1:Int))<
 m out i)/\
 (¬(i<(↑l.length:Int)/\i<n)->out=Gb l n)):
 BS Tryz.prog B0 Di:=⟨NU.I_ rfl,fun x hx=>
 D3 hC (L:=[]) (trivial) NU (ct:=Di) (depth:=0) rfl (by kernel_rfl) x (H (@id (List Int×Int) x).1 (@id (List Int×Int) x).2 (JT hx (by kernel_rfl))) (by kernel_rfl)⟩
theorem Uz (hC:Cons Tryz.prog [(AX,BM),(B0,Di)])
 (H: ∀(c:Int×Int×List Int) (size:Int),(eY (c,size))->
 AH (size+1)/\
 FH (c.1,size+1)/\
 AH (size-AS c.1 (size+1))/\
 AH (min (size-AS c.1 (size+1)) 12+1)/\
 FH (c.2.1,min (size-AS c.1 (size+1)) 12+1)/\
 NL (c.2.2,8)/\
 (AS c.1 (size+1),AS c.2.1 (min (size-AS c.1 (size+1)) 12+1),
 Gb c.2.2 8)=
 Jv c size):
 BS Tryz.prog Da F4:=⟨NS.I_ rfl,fun x hx=>
 D3 hC (L:=[]) (trivial) NS (ct:=F4) (depth:=0) rfl (by kernel_rfl) x (H (@id ((Int×Int×List Int)×Int) x).1 (@id ((Int×Int×List Int)×Int) x).2 (JT hx (by kernel_rfl))) (by kernel_rfl)⟩
theorem WQ (hC:Cons Tryz.prog [(AX,BM),(Da,F4)])
 (H: ∀(l:List (Int×Int×Int×List Int)) (n:Int) (size:Int),(oE l n size)->
 ∃(I:Int->List (Int×Int×Int×List UInt8)->Prop),
 ∃(m:Int->List (Int×Int×Int×List UInt8)->Nat),
 I 0 []/\
 ∀(i:Int) (out:List (Int×Int×Int×List UInt8)),
 I i out->
 (i<(↑l.length:Int)/\i<n->
 0<=i/\
 i<(↑l.length:Int)/\
 eY (((gt l i).2.1,(gt l i).2.2.1,(gt l i).2.2.2),size)/\
 0<=i/\
 i<(↑l.length:Int)/\
 FH ((gt l i).1,8)/\
 (4<AS (gt l i).1 8->
 AH (2+AS (gt l i).1 8)/\
 AH (2+AS (gt l i).1 8-5)/\
 (out.length+1)*40<=140737488355328/\
 AH (i+1)/\
 I (i+1) (out++[(2+AS (gt l i).1 8-5,0,0,[])])/\
 m (i+1) (out++[(2+AS (gt l i).1 8-5,0,0,[])])<m i out)/\
 (¬4<AS (gt l i).1 8->
 (out.length+1)*40<=140737488355328/\
 AH (i+1)/\
 I (i+1)
 (out++
 [(1,
 (Jv ((gt l i).2.1,(gt l i).2.2.1,(gt l i).2.2.2)
 size).1,
 (Jv ((gt l i).2.1,(gt l i).2.2.1,(gt l i).2.2.2)
 size).2.1,
 (Jv ((gt l i).2.1,(gt l i).2.2.1,(gt l i).2.2.2)
 size).2.2)])/\
 m (i+1)
 (out++
 [(1,
 (Jv ((gt l i).2.1,(gt l i).2.2.1,(gt l i).2.2.2)
 size).1,
 (Jv ((gt l i).2.1,(gt l i).2.2.1,(gt l i).2.2.2)
 size).2.1,
 (Jv ((gt l i).2.1,(gt l i).2.2.1,(gt l i).2.2.2)
 size).2.2)])<
 m i out))/\
 (¬(i<(↑l.length:Int)/\i<n)->out=Gu l n size)):
 BS Tryz.prog D4 Gm:=⟨O7.I_ rfl,fun x hx=>
 D3 hC (L:=[]) (trivial) O7 (ct:=Gm) (depth:=0) rfl (by kernel_rfl) x (H (@id ((List (Int×Int×Int×List Int))×Int×Int) x).1 (@id ((List (Int×Int×Int×List Int))×Int×Int) x).2.1 (@id ((List (Int×Int×Int×List Int))×Int×Int) x).2.2 (JT hx (by kernel_rfl))) (by kernel_rfl)⟩
theorem bT (hC:Cons Tryz.prog [(AX,BM)])
 (H: ∀(l:List Int) (n:Int),(NL (l,n))->
 ∃(I:List UInt8->Int->Prop),
 ∃(m:List UInt8->Int->Nat),
 I [] 0/\
 ∀(out:List UInt8) (i:Int),
 I out i->
 (i<(↑l.length:Int)/\i<n->
 0<=i/\
 i<(↑l.length:Int)/\
 FH (gt l i,2)/\
 0<=AS (gt l i) 2/\
 AS (gt l i) 2<(↑2:Int)/\
 AH ((↑out.length:Int)+(↑(gt [[(97:UInt8)],[98]] (AS (gt l i) 2)).length:Int))/\
 AH (i+1)/\
 I (out++gt [[(97:UInt8)],[98]] (AS (gt l i) 2)) (i+1)/\
 m (out++gt [[(97:UInt8)],[98]] (AS (gt l i) 2)) (i+1)<m out i)/\
 (¬(i<(↑l.length:Int)/\i<n)->out=H_ l n)):
 BS Tryz.prog DB E_:=⟨Sv.I_ rfl,fun x hx=>
 D3 hC (L:=[]) (trivial) Sv (ct:=E_) (depth:=0) rfl (by kernel_rfl) x (H (@id (List Int×Int) x).1 (@id (List Int×Int) x).2 (JT hx (by kernel_rfl))) (by kernel_rfl)⟩
theorem Y0 (hC:Cons Tryz.prog [(AX,BM),(D4,Gm),(DB,E_)])
 (H: ∀(l:List (Int×(Int×Int×Int×List Int)×Int×Int×List Int)) (n:Int) (size:Int),(oO l n size)->
 ∃(I:Int->List (Int×(Int×Int×Int×List UInt8)×Int×Int×List UInt8)->Prop),
 ∃(m:Int->List (Int×(Int×Int×Int×List UInt8)×Int×Int×List UInt8)->Nat),
 I (0:Int) []/\
 ∀(i:Int) (out:List (Int×(Int×Int×Int×List UInt8)×Int×Int×List UInt8)),
 I i out->
 (i<(↑l.length:Int)/\i<n->
 (0:Int)<=i/\
 i<(↑l.length:Int)/\
 oE
 [((gt l i).2.1.1,(gt l i).2.1.2.1,(gt l i).2.1.2.2.1,
 (gt l i).2.1.2.2.2)]
 (1:Int) size/\
 (0:Int)<=(0:Int)/\
 (0:Int)<
 (↑(Gu
 [((gt l i).2.1.1,(gt l i).2.1.2.1,(gt l i).2.1.2.2.1,
 (gt l i).2.1.2.2.2)]
 (1:Int) size).length:
 Int)/\
 FH ((gt l i).1,(14:Int))/\
 ((9:Int)<AS (gt l i).1 (14:Int)->
 FH ((gt l i).2.2.1,(2:Int))/\
 FH ((gt l i).2.2.2.1,(20:Int))/\
 AH ((1:Int)+AS (gt l i).2.2.2.1 (20:Int))/\
 (out.length+(1:Nat))*(80:Nat)<=(140737488355328:Nat)/\
 AH (i+(1:Int))/\
 I (i+(1:Int))
 (out++
 [((2:Int),((0:Int),(0:Int),(0:Int),[]),
 AS (gt l i).2.2.1 (2:Int),
 (1:Int)+AS (gt l i).2.2.2.1 (20:Int),[])])/\
 m (i+(1:Int))
 (out++
 [((2:Int),((0:Int),(0:Int),(0:Int),[]),
 AS (gt l i).2.2.1 (2:Int),
 (1:Int)+AS (gt l i).2.2.2.1 (20:Int),[])])<
 m i out)/\
 (¬(9:Int)<AS (gt l i).1 (14:Int)->
 (AS (gt l i).1 (14:Int)=(9:Int)->
 AH (size+(2:Int))/\
 FH ((gt l i).2.2.1,size+(2:Int))/\
 (out.length+(1:Nat))*(80:Nat)<=(140737488355328:Nat)/\
 AH (i+(1:Int))/\
 I (i+(1:Int))
 (out++
 [((3:Int),((0:Int),(0:Int),(0:Int),[]),
 AS (gt l i).2.2.1 (size+(2:Int)),(0:Int),[])])/\
 m (i+(1:Int))
 (out++
 [((3:Int),((0:Int),(0:Int),(0:Int),[]),
 AS (gt l i).2.2.1 (size+(2:Int)),(0:Int),[])])<
 m i out)/\
 (¬AS (gt l i).1 (14:Int)=(9:Int)->
 (AS (gt l i).1 (14:Int)=(8:Int)->
 NL ((gt l i).2.2.2.2,(3:Int))/\
 (out.length+(1:Nat))*(80:Nat)<=(140737488355328:Nat)/\
 AH (i+(1:Int))/\
 I (i+(1:Int))
 (out++
 [((4:Int),((0:Int),(0:Int),(0:Int),[]),(0:Int),
 (0:Int),H_ (gt l i).2.2.2.2 (3:Int))])/\
 m (i+(1:Int))
 (out++
 [((4:Int),((0:Int),(0:Int),(0:Int),[]),(0:Int),
 (0:Int),H_ (gt l i).2.2.2.2 (3:Int))])<
 m i out)/\
 (¬AS (gt l i).1 (14:Int)=(8:Int)->
 (AS (gt l i).1 (14:Int)=(7:Int)->
 FH ((gt l i).2.2.1,(6:Int))/\
 (out.length+(1:Nat))*(80:Nat)<=(140737488355328:Nat)/\
 AH (i+(1:Int))/\
 I (i+(1:Int))
 (out++
 [((5:Int),((0:Int),(0:Int),(0:Int),[]),
 AS (gt l i).2.2.1 (6:Int),(0:Int),[])])/\
 m (i+(1:Int))
 (out++
 [((5:Int),((0:Int),(0:Int),(0:Int),[]),
 AS (gt l i).2.2.1 (6:Int),(0:Int),[])])<
 m i out)/\
 (¬AS (gt l i).1 (14:Int)=(7:Int)->
 (AS (gt l i).1 (14:Int)=(6:Int)->
 (out.length+(1:Nat))*(80:Nat)<=(140737488355328:Nat)/\
 AH (i+(1:Int))/\
 I (i+(1:Int))
 (out++
 [((6:Int),((0:Int),(0:Int),(0:Int),[]),(0:Int),
 (0:Int),[])])/\
 m (i+(1:Int))
 (out++
 [((6:Int),((0:Int),(0:Int),(0:Int),[]),(0:Int),
 (0:Int),[])])<
 m i out)/\
 (¬AS (gt l i).1 (14:Int)=(6:Int)->
 (AS (gt l i).1 (14:Int)=(5:Int)->
 FH ((gt l i).2.2.1,(4:Int))/\
 (out.length+(1:Nat))*(80:Nat)<=(140737488355328:Nat)/\
 AH (i+(1:Int))/\
 I (i+(1:Int))
 (out++
 [((8:Int),((0:Int),(0:Int),(0:Int),[]),
 AS (gt l i).2.2.1 (4:Int),(0:Int),
 [])])/\
 m (i+(1:Int))
 (out++
 [((8:Int),((0:Int),(0:Int),(0:Int),[]),
 AS (gt l i).2.2.1 (4:Int),(0:Int),
 [])])<
 m i out)/\
 (¬AS (gt l i).1 (14:Int)=(5:Int)->
 (AS (gt l i).1 (14:Int)=(4:Int)->
 FH ((gt l i).2.2.1,(4:Int))/\
 (out.length+(1:Nat))*(80:Nat)<=
 (140737488355328:Nat)/\
 AH (i+(1:Int))/\
 I (i+(1:Int))
 (out++
 [((7:Int),((0:Int),(0:Int),(0:Int),[]),
 AS (gt l i).2.2.1 (4:Int),(0:Int),
 [])])/\
 m (i+(1:Int))
 (out++
 [((7:Int),((0:Int),(0:Int),(0:Int),[]),
 AS (gt l i).2.2.1 (4:Int),
 (0:Int),[])])<
 m i out)/\
 (¬AS (gt l i).1 (14:Int)=(4:Int)->
 (out.length+(1:Nat))*(80:Nat)<=(140737488355328:Nat)/\
 AH (i+(1:Int))/\
 I (i+(1:Int))
 (out++
 [((1:Int),
 ((gt
 (Gu
 [((gt l i).2.1.1,
 (gt l i).2.1.2.1,
 (gt l i).2.1.2.2.1,
 (gt l i).2.1.2.2.2)]
 (1:Int) size)
 (0:Int)).1,
 (gt
 (Gu
 [((gt l i).2.1.1,
 (gt l i).2.1.2.1,
 (gt l i).2.1.2.2.1,
 (gt l i).2.1.2.2.2)]
 (1:Int) size)
 (0:Int)).2.1,
 (gt
 (Gu
 [((gt l i).2.1.1,
 (gt l i).2.1.2.1,
 (gt l i).2.1.2.2.1,
 (gt l i).2.1.2.2.2)]
 (1:Int) size)
 (0:Int)).2.2.1,
 (gt
 (Gu
 [((gt l i).2.1.1,
 (gt l i).2.1.2.1,
 (gt l i).2.1.2.2.1,
 (gt l i).2.1.2.2.2)]
 (1:Int) size)
 (0:Int)).2.2.2),
 (0:Int),(0:Int),[])])/\
 m (i+(1:Int))
 (out++
 [((1:Int),
 ((gt
 (Gu
 [((gt l i).2.1.1,
 (gt l i).2.1.2.1,
 (gt l i).2.1.2.2.1,
 (gt l i).2.1.2.2.2)]
 (1:Int) size)
 (0:Int)).1,
 (gt
 (Gu
 [((gt l i).2.1.1,
 (gt l i).2.1.2.1,
 (gt l i).2.1.2.2.1,
 (gt l i).2.1.2.2.2)]
 (1:Int) size)
 (0:Int)).2.1,
 (gt
 (Gu
 [((gt l i).2.1.1,
 (gt l i).2.1.2.1,
 (gt l i).2.1.2.2.1,
 (gt l i).2.1.2.2.2)]
 (1:Int) size)
 (0:Int)).2.2.1,
 (gt
 (Gu
 [((gt l i).2.1.1,
 (gt l i).2.1.2.1,
 (gt l i).2.1.2.2.1,
 (gt l i).2.1.2.2.2)]
 (1:Int) size)
 (0:Int)).2.2.2),
 (0:Int),(0:Int),[])])<
 m i out))))))))/\
 (¬(i<(↑l.length:Int)/\i<n)->out=MV l n size)):
 BS Tryz.prog Dg GH:=⟨Qi.I_ rfl,fun x hx=>
 D3 hC (L:=[]) (trivial) Qi (ct:=GH) (depth:=0) rfl (by kernel_rfl) x (H (@id ((List (Int×(Int×Int×Int×List Int)×Int×Int×List Int))×Int×Int) x).1 (@id ((List (Int×(Int×Int×Int×List Int)×Int×Int×List Int))×Int×Int) x).2.1 (@id ((List (Int×(Int×Int×Int×List Int)×Int×Int×List Int))×Int×Int) x).2.2 (JT hx (by kernel_rfl))) (by kernel_rfl)⟩
theorem WD (hC:Cons Tryz.prog [])
 (H: ∀(size:Int) (e:Int×Int×List UInt8),(AH size/\Ec e)->
 (¬((((size<0\/600<size)\/e.1<0)\/size<e.1)\/e.2.1<0)->AH (size-e.1))/\
 (((((size<0\/600<size)\/e.1<0)\/size<e.1)\/e.2.1<0)\/size-e.1<e.2.1->
 2=BO size e)/\
 (¬(((((size<0\/600<size)\/e.1<0)\/size<e.1)\/e.2.1<0)\/size-e.1<e.2.1)->
 AH (size-e.2.1)/\
 AH (size-e.2.1+(↑e.2.2.length:Int))/\
 (600<size-e.2.1+(↑e.2.2.length:Int)->1=BO size e)/\
 (¬600<size-e.2.1+(↑e.2.2.length:Int)->0=BO size e))):
 BS Tryz.prog Ba CF:=⟨Ou.I_ rfl,fun x hx=>
 D3 hC (L:=[]) (trivial) Ou (ct:=CF) (depth:=0) rfl (by kernel_rfl) x (H (@id (Int×(Int×Int×List UInt8)) x).1 (@id (Int×(Int×Int×List UInt8)) x).2 (JT hx (by kernel_rfl))) (by kernel_rfl)⟩
theorem Yc (hC:Cons Tryz.prog [])
 (H: ∀(text:List UInt8) (e:Int×Int×List UInt8),(Bz (↑text.length:Int) e)->
 (0:Int)<=(0:Int)/\
 (0:Int)<=e.1/\
 e.1<=(↑text.length:Int)/\
 AH
 ((↑(List.drop (Int.toNat (0:Int)) (List.take e.1.toNat text)).length:Int)+(↑e.2.2.length:Int))/\
 AH (e.1+e.2.1)/\
 (0:Int)<=e.1+e.2.1/\
 e.1+e.2.1<=(↑text.length:Int)/\
 (↑text.length:Int)<=(↑text.length:Int)/\
 AH
 ((↑(List.drop (Int.toNat (0:Int)) (List.take e.1.toNat text)++e.2.2).length:Int)+
 (↑(List.drop (e.1+e.2.1).toNat (List.take (↑text.length:Int).toNat text)).length:
 Int))/\
 List.drop (Int.toNat (0:Int)) (List.take e.1.toNat text)++e.2.2++
 List.drop (e.1+e.2.1).toNat (List.take (↑text.length:Int).toNat text)=
 AV text e):
 BS Tryz.prog BA Bs:=⟨QM.I_ rfl,fun x hx=>
 D3 hC (L:=[]) (trivial) QM (ct:=Bs) (depth:=0) rfl (by kernel_rfl) x (H (@id (List UInt8×(Int×Int×List UInt8)) x).1 (@id (List UInt8×(Int×Int×List UInt8)) x).2 (JT hx (by kernel_rfl))) (by kernel_rfl)⟩
theorem Yf (hC:Cons Tryz.prog [])
 (H: ∀(text:List UInt8) (e:Int×Int×List UInt8),(Bz (↑text.length:Int) e)->
 AH (e.1+e.2.1)/\
 0<=e.1/\
 e.1<=e.1+e.2.1/\
 e.1+e.2.1<=(↑text.length:Int)/\
 (e.1,(↑e.2.2.length:Int),List.drop e.1.toNat (List.take (e.1+e.2.1).toNat text))=
 Bt text e):
 BS Tryz.prog Br Cf:=⟨QN.I_ rfl,fun x hx=>
 D3 hC (L:=[]) (trivial) QN (ct:=Cf) (depth:=0) rfl (by kernel_rfl) x (H (@id (List UInt8×(Int×Int×List UInt8)) x).1 (@id (List UInt8×(Int×Int×List UInt8)) x).2 (JT hx (by kernel_rfl))) (by kernel_rfl)⟩
theorem Wp (hC:Cons Tryz.prog [])
 (H: ∀(c:Int),(True)->
 bo ((97<=c/\c<=122\/65<=c/\c<=90)\/48<=c/\c<=57)=bo (Kg c)):
 BS Tryz.prog A6 Bn:=⟨PL.I_ rfl,fun x hx=>
 D3 hC (L:=[]) (trivial) PL (ct:=Bn) (depth:=0) rfl (by kernel_rfl) x (H (@id (Int) x) (JT hx (by kernel_rfl))) (by kernel_rfl)⟩
theorem Tx (hC:Cons Tryz.prog [(A6,Bn)])
 (H: ∀(text:List UInt8) (lo:Int) (hi:Int),(m_ text lo hi)->
 ∃(I:Int->Prop),
 ∃(m:Int->Nat),
 I lo/\
 ∀(lo_1:Int),
 I lo_1->
 (0<lo_1->AH (lo_1-1))/\
 (0<lo_1->0<=lo_1-1)/\
 (0<lo_1->lo_1-1<(↑text.length:Int))/\
 (0<lo_1->True)/\
 (0<lo_1/\bo (Kg (↑(gt text (lo_1-1)).toNat:Int))=true->
 AH (lo_1-1)/\I (lo_1-1)/\m (lo_1-1)<m lo_1)/\
 (¬(0<lo_1/\bo (Kg (↑(gt text (lo_1-1)).toNat:Int))=true)->
 ∃(I:Int->Prop),
 ∃(m:Int->Nat),
 I hi/\
 ∀(hi_1:Int),
 I hi_1->
 (hi_1<(↑text.length:Int)->0<=hi_1)/\
 (hi_1<(↑text.length:Int)->hi_1<(↑text.length:Int))/\
 (hi_1<(↑text.length:Int)->True)/\
 (hi_1<(↑text.length:Int)/\bo (Kg (↑(gt text hi_1).toNat:Int))=true->
 AH (hi_1+1)/\I (hi_1+1)/\m (hi_1+1)<m hi_1)/\
 (¬(hi_1<(↑text.length:Int)/\
 bo (Kg (↑(gt text hi_1).toNat:Int))=true)->
 lo_1=(YL text lo hi).1/\hi_1=(YL text lo hi).2))):
 BS Tryz.prog BG CD:=⟨My.I_ rfl,fun x hx=>
 D3 hC (L:=[]) (trivial) My (ct:=CD) (depth:=0) rfl (by kernel_rfl) x (H (@id (List UInt8×Int×Int) x).1 (@id (List UInt8×Int×Int) x).2.1 (@id (List UInt8×Int×Int) x).2.2 (JT hx (by kernel_rfl))) (by kernel_rfl)⟩
theorem GY (hC:Cons Tryz.prog [])
 (H: ∀(s:List (Int×Int)),(nn s)->
 ∀(GO:Prop),
 (GO->(↑s.length:Int)=0)->(GO->[]=s)/\(¬GO->(0+s.length)*16<=140737488355328/\[]++s=s)):
 BS Tryz.prog Af BN:=⟨Dz.I_ rfl,fun x hx=>
 D3 hC (L:=[]) (trivial) Dz (ct:=BN) (depth:=0) rfl (by kernel_rfl) x (H (@id ((List (Int×Int))) x) (JT hx (by kernel_rfl))) (by kernel_rfl)⟩
theorem SJ (hC:Cons Tryz.prog [(Af,BN)])
 (H: ∀(l:List (Int×Int)) (s:Int×Int),(D1 l/\FI s)->
 ∃(I:Int->List (Int×Int)->Prop),
 ∃(m:Int->List (Int×Int)->Nat),
 (s.1=s.1/\s.2=s.2/\I (0:Int) [])/\
 ∀(x:Int) (out:List (Int×Int)),
 I x out->
 (x<(↑l.length:Int)->
 (0:Int)<=x/\
 x<(↑l.length:Int)/\
 (out.length+(2:Nat))*(16:Nat)<=(140737488355328:Nat)/\
 AH (x+(1:Int))/\
 s.1=s.1/\
 s.2=s.2/\
 I (x+(1:Int))
 (out++
 [((gt l x).1,min (gt l x).2 (max (gt l x).1 s.1)),
 (max (gt l x).1 (min (gt l x).2 s.2),(gt l x).2)])/\
 m (x+(1:Int))
 (out++
 [((gt l x).1,min (gt l x).2 (max (gt l x).1 s.1)),
 (max (gt l x).1 (min (gt l x).2 s.2),(gt l x).2)])<
 m x out)/\
 (¬x<(↑l.length:Int)->
 (s.1=s.2->nn l/\l=Ao l s)/\
 (¬s.1=s.2->
 ∃(I:Int->Prop),
 ∃(m:Int->Nat),
 (s.1=s.1/\s.2=s.2/\out=out/\I (0:Int))/\
 ∀(x:Int),
 I x->
 (x<(↑out.length:Int)->
 (0:Int)<=x/\
 x<(↑out.length:Int)/\
 ((gt out x).2<=(gt out x).1->
 (x=(-1:Int)->out=Ao l s)/\
 (¬x=(-1:Int)->
 AH (x+(1:Int))/\
 ∃(I:Int->Int->List (Int×Int)->Prop),
 ∃(m:Int->Int->List (Int×Int)->Nat),
 (s.1=s.1/\
 s.2=s.2/\
 (gt out x).1=(gt out x).1/\
 (gt out x).2=(gt out x).2/\I x (x+(1:Int)) out)/\
 ∀(i j:Int) (s_1:List (Int×Int)),
 I i j s_1->
 (j<(↑s_1.length:Int)->
 (0:Int)<=j/\
 j<(↑s_1.length:Int)/\
 (¬(gt s_1 j).2<=(gt s_1 j).1->
 (0:Int)<=i/\
 i<(↑s_1.length:Int)/\
 AH (i+(1:Int))/\
 AH (j+(1:Int))/\
 s.1=s.1/\
 s.2=s.2/\
 (gt out x).1=(gt out x).1/\
 (gt out x).2=(gt out x).2/\
 I (i+(1:Int)) (j+(1:Int))
 (s_1.set i.toNat
 ((gt s_1 j).1,
 (gt s_1 j).2))/\
 m (i+(1:Int)) (j+(1:Int))
 (s_1.set i.toNat
 ((gt s_1 j).1,
 (gt s_1 j).2))<
 m i j s_1)/\
 (¬¬(gt s_1 j).2<=(gt s_1 j).1->
 AH (j+(1:Int))/\
 s.1=s.1/\
 s.2=s.2/\
 (gt out x).1=(gt out x).1/\
 (gt out x).2=(gt out x).2/\
 I i (j+(1:Int)) s_1/\
 m i (j+(1:Int)) s_1<m i j s_1))/\
 (¬j<(↑s_1.length:Int)->
 (0:Int)<=i/\
 i<=(↑s_1.length:Int)/\
 (↑s_1.length:Int)<=(↑s_1.length:Int)/\
 (0:Int)<=(0:Int)/\
 (0:Int)<=i/\
 i<=
 (↑(List.take i.toNat s_1++
 List.replicate
 ((↑s_1.length:Int)-i).toNat
 ((0:Int),(0:Int))++
 List.drop
 (i.toNat+
 ((↑s_1.length:Int)-i).toNat)
 s_1).length:
 Int)/\
 (0:Int)=(0:Int)/\
 List.take (i-(0:Int)).toNat
 (List.take i.toNat s_1++
 List.replicate
 ((↑s_1.length:Int)-i).toNat
 ((0:Int),(0:Int))++
 List.drop
 (i.toNat+
 ((↑s_1.length:Int)-i).toNat)
 s_1)=
 Ao l s)))/\
 (¬(gt out x).2<=(gt out x).1->
 AH (x+(1:Int))/\
 s.1=s.1/\
 s.2=s.2/\out=out/\I (x+(1:Int))/\m (x+(1:Int))<m x))/\
 (¬x<(↑out.length:Int)->
 ((-1:Int)=(-1:Int)->out=Ao l s)/\
 (¬(-1:Int)=(-1:Int)->
 AH ((-1:Int)+(1:Int))/\
 ∃(I:Int->Int->List (Int×Int)->Prop),
 ∃(m:Int->Int->List (Int×Int)->Nat),
 (s.1=s.1/\s.2=s.2/\I (-1:Int) ((-1:Int)+(1:Int)) out)/\
 ∀(i j:Int) (s_1:List (Int×Int)),
 I i j s_1->
 (j<(↑s_1.length:Int)->
 (0:Int)<=j/\
 j<(↑s_1.length:Int)/\
 (¬(gt s_1 j).2<=(gt s_1 j).1->
 (0:Int)<=i/\
 i<(↑s_1.length:Int)/\
 AH (i+(1:Int))/\
 AH (j+(1:Int))/\
 s.1=s.1/\
 s.2=s.2/\
 I (i+(1:Int)) (j+(1:Int))
 (s_1.set i.toNat
 ((gt s_1 j).1,(gt s_1 j).2))/\
 m (i+(1:Int)) (j+(1:Int))
 (s_1.set i.toNat
 ((gt s_1 j).1,(gt s_1 j).2))<
 m i j s_1)/\
 (¬¬(gt s_1 j).2<=(gt s_1 j).1->
 AH (j+(1:Int))/\
 s.1=s.1/\
 s.2=s.2/\
 I i (j+(1:Int)) s_1/\
 m i (j+(1:Int)) s_1<m i j s_1))/\
 (¬j<(↑s_1.length:Int)->
 (0:Int)<=i/\
 i<=(↑s_1.length:Int)/\
 (↑s_1.length:Int)<=(↑s_1.length:Int)/\
 (0:Int)<=(0:Int)/\
 (0:Int)<=i/\
 i<=
 (↑(List.take i.toNat s_1++
 List.replicate
 ((↑s_1.length:Int)-i).toNat
 ((0:Int),(0:Int))++
 List.drop
 (i.toNat+((↑s_1.length:Int)-i).toNat)
 s_1).length:
 Int)/\
 (0:Int)=(0:Int)/\
 List.take (i-(0:Int)).toNat
 (List.take i.toNat s_1++
 List.replicate ((↑s_1.length:Int)-i).toNat
 ((0:Int),(0:Int))++
 List.drop
 (i.toNat+((↑s_1.length:Int)-i).toNat)
 s_1)=
 Ao l s)))))):
 BS Tryz.prog Ax IV:=⟨Ll.I_ rfl,fun x hx=>
 D3 hC (L:=[(Aq,DK),(Au,DR),(Ds,KD)]) (⟨FR,Fe,Pq,trivial⟩) Ll (ct:=IV) (depth:=4) rfl (by kernel_rfl) x (H (@id ((List (Int×Int))×(Int×Int)) x).1 (@id ((List (Int×Int))×(Int×Int)) x).2 (JT hx (by kernel_rfl))) (by kernel_rfl)⟩
theorem Tl (hC:Cons Tryz.prog [])
 (H: ∀(l:List (Int×Int)),(NB l)->
 ∃(I:Int->List (Int×Int)->Prop),
 ∃(m:Int->List (Int×Int)->Nat),
 I 0 []/\
 ∀(x:Int) (out:List (Int×Int)),
 I x out->
 (x<(↑l.length:Int)->
 0<=x/\
 x<(↑l.length:Int)/\
 ((gt l x).1=(gt l x).2->AH (x+1)/\I (x+1) out/\m (x+1) out<m x out)/\
 (¬(gt l x).1=(gt l x).2->
 (0<(↑out.length:Int)->AH ((↑out.length:Int)-1))/\
 (0<(↑out.length:Int)->0<=(↑out.length:Int)-1)/\
 (0<(↑out.length:Int)->(↑out.length:Int)-1<(↑out.length:Int))/\
 (0<(↑out.length:Int)/\(gt l x).1<=(gt out ((↑out.length:Int)-1)).2->
 AH ((↑out.length:Int)-1)/\
 AH ((↑out.length:Int)-1)/\
 0<=(↑out.length:Int)-1/\
 (↑out.length:Int)-1<(↑out.length:Int)/\
 0<=(↑out.length:Int)-1/\
 (↑out.length:Int)-1<(↑out.length:Int)/\
 AH (x+1)/\
 I (x+1)
 (out.set ((↑out.length:Int)-1).toNat
 ((gt out ((↑out.length:Int)-1)).1,
 max (gt out ((↑out.length:Int)-1)).2 (gt l x).2))/\
 m (x+1)
 (out.set ((↑out.length:Int)-1).toNat
 ((gt out ((↑out.length:Int)-1)).1,
 max (gt out ((↑out.length:Int)-1)).2 (gt l x).2))<
 m x out)/\
 (¬(0<(↑out.length:Int)/\(gt l x).1<=(gt out ((↑out.length:Int)-1)).2)->
 (out.length+1)*16<=140737488355328/\
 AH (x+1)/\
 I (x+1) (out++[((gt l x).1,(gt l x).2)])/\
 m (x+1) (out++[((gt l x).1,(gt l x).2)])<m x out)))/\
 (¬x<(↑l.length:Int)->out=K3 l)):
 BS Tryz.prog DC C3:=⟨Mv.I_ rfl,fun x hx=>
 D3 hC (L:=[]) (trivial) Mv (ct:=C3) (depth:=0) rfl (by kernel_rfl) x (H (@id ((List (Int×Int))) x) (JT hx (by kernel_rfl))) (by kernel_rfl)⟩
theorem SG (hC:Cons Tryz.prog [(Ax,CP),(DC,C3),(Bi,C1)])
 (H: ∀(l:List (Int×Int)) (e:Int×Int×List UInt8),(Vm l e)->
 AH (e.1+e.2.1)/\
 (D1 l/\FI (e.1,e.1+e.2.1))/\
 ∃(I:Int->List (Int×Int)->Prop),
 ∃(m:Int->List (Int×Int)->Nat),
 (e.1=e.1/\e.2.1=e.2.1/\e.2.2=e.2.2/\I 0 [])/\
 ∀(x:Int) (out:List (Int×Int)),
 I x out->
 (x<(↑(Ao l (e.1,e.1+e.2.1)).length:Int)->
 0<=x/\
 x<(↑(Ao l (e.1,e.1+e.2.1)).length:Int)/\
 ((gt (Ao l (e.1,e.1+e.2.1)) x).1<e.1/\
 e.1<(gt (Ao l (e.1,e.1+e.2.1)) x).2->
 (out.length+1)*16<=140737488355328/\
 (e.1<=e.1->
 AH ((↑e.2.2.length:Int)-e.2.1)/\
 AH (e.1+((↑e.2.2.length:Int)-e.2.1))/\
 AH
 ((gt (Ao l (e.1,e.1+e.2.1)) x).2+
 ((↑e.2.2.length:Int)-e.2.1))/\
 ((out++[((gt (Ao l (e.1,e.1+e.2.1)) x).1,e.1)]).length+
 1)*
 16<=
 140737488355328/\
 AH (x+1)/\
 e.1=e.1/\
 e.2.1=e.2.1/\
 e.2.2=e.2.2/\
 I (x+1)
 (out++
 [((gt (Ao l (e.1,e.1+e.2.1)) x).1,e.1)]++
 [(e.1+((↑e.2.2.length:Int)-e.2.1),
 (gt (Ao l (e.1,e.1+e.2.1)) x).2+
 ((↑e.2.2.length:Int)-e.2.1))])/\
 m (x+1)
 (out++
 [((gt (Ao l (e.1,e.1+e.2.1)) x).1,
 e.1)]++
 [(e.1+((↑e.2.2.length:Int)-e.2.1),
 (gt (Ao l (e.1,e.1+e.2.1)) x).2+
 ((↑e.2.2.length:Int)-e.2.1))])<
 m x out)/\
 (¬e.1<=e.1->
 ((out++[((gt (Ao l (e.1,e.1+e.2.1)) x).1,e.1)]).length+1)*
 16<=
 140737488355328/\
 AH (x+1)/\
 e.1=e.1/\
 e.2.1=e.2.1/\
 e.2.2=e.2.2/\
 I (x+1)
 (out++[((gt (Ao l (e.1,e.1+e.2.1)) x).1,e.1)]++
 [(e.1,(gt (Ao l (e.1,e.1+e.2.1)) x).2)])/\
 m (x+1)
 (out++[((gt (Ao l (e.1,e.1+e.2.1)) x).1,e.1)]++
 [(e.1,(gt (Ao l (e.1,e.1+e.2.1)) x).2)])<
 m x out))/\
 (¬((gt (Ao l (e.1,e.1+e.2.1)) x).1<e.1/\
 e.1<(gt (Ao l (e.1,e.1+e.2.1)) x).2)->
 (e.1<=(gt (Ao l (e.1,e.1+e.2.1)) x).1->
 AH ((↑e.2.2.length:Int)-e.2.1)/\
 AH
 ((gt (Ao l (e.1,e.1+e.2.1)) x).1+
 ((↑e.2.2.length:Int)-e.2.1))/\
 AH
 ((gt (Ao l (e.1,e.1+e.2.1)) x).2+
 ((↑e.2.2.length:Int)-e.2.1))/\
 (out.length+1)*16<=140737488355328/\
 AH (x+1)/\
 e.1=e.1/\
 e.2.1=e.2.1/\
 e.2.2=e.2.2/\
 I (x+1)
 (out++
 [((gt (Ao l (e.1,e.1+e.2.1)) x).1+
 ((↑e.2.2.length:Int)-e.2.1),
 (gt (Ao l (e.1,e.1+e.2.1)) x).2+
 ((↑e.2.2.length:Int)-e.2.1))])/\
 m (x+1)
 (out++
 [((gt (Ao l (e.1,e.1+e.2.1)) x).1+
 ((↑e.2.2.length:Int)-e.2.1),
 (gt (Ao l (e.1,e.1+e.2.1)) x).2+
 ((↑e.2.2.length:Int)-e.2.1))])<
 m x out)/\
 (¬e.1<=(gt (Ao l (e.1,e.1+e.2.1)) x).1->
 (out.length+1)*16<=140737488355328/\
 AH (x+1)/\
 e.1=e.1/\
 e.2.1=e.2.1/\
 e.2.2=e.2.2/\
 I (x+1)
 (out++
 [((gt (Ao l (e.1,e.1+e.2.1)) x).1,
 (gt (Ao l (e.1,e.1+e.2.1)) x).2)])/\
 m (x+1)
 (out++
 [((gt (Ao l (e.1,e.1+e.2.1)) x).1,
 (gt (Ao l (e.1,e.1+e.2.1)) x).2)])<
 m x out)))/\
 (¬x<(↑(Ao l (e.1,e.1+e.2.1)).length:Int)->
 AH (e.1+(↑e.2.2.length:Int))/\
 NB out/\
 e.1=e.1/\
 e.1=e.1/\
 e.2.2=e.2.2/\
 (D1 (K3 out)/\FI (e.1,e.1+(↑e.2.2.length:Int)))/\
 E8 (K3 out) (e.1,e.1+(↑e.2.2.length:Int))=Dt l e)):
 BS Tryz.prog BV Ck:=⟨Lk.I_ rfl,fun x hx=>
 D3 hC (L:=[]) (trivial) Lk (ct:=Ck) (depth:=0) rfl (by kernel_rfl) x (H (@id ((List (Int×Int))×(Int×Int×List UInt8)) x).1 (@id ((List (Int×Int))×(Int×Int×List UInt8)) x).2 (JT hx (by kernel_rfl))) (by kernel_rfl)⟩
theorem Y9 (hC:Cons Tryz.prog [])
 (H: ∀(l:List Int),(JE l)->
 ∃(I:Int->Prop),
 ∃(m:Int->Nat),
 I (0:Int)/\
 ∀(x:Int),
 I x->
 (x<(↑l.length:Int)->
 (0:Int)<=x/\
 x<(↑l.length:Int)/\
 ((0:Int)<x->AH (x-(1:Int)))/\
 ((0:Int)<x->(0:Int)<=x-(1:Int))/\
 ((0:Int)<x->x-(1:Int)<(↑l.length:Int))/\
 ((0:Int)<x/\gt l x<=gt l (x-(1:Int))->false=bo (Eh l))/\
 (¬((0:Int)<x/\gt l x<=gt l (x-(1:Int)))->
 AH (x+(1:Int))/\I (x+(1:Int))/\m (x+(1:Int))<m x))/\
 (¬x<(↑l.length:Int)->
 ((0:Int)<(↑l.length:Int)->(0:Int)<=(0:Int))/\
 ((0:Int)<(↑l.length:Int)->(0:Int)<(↑l.length:Int))/\
 ((0:Int)<(↑l.length:Int)/\gt l (0:Int)=(0:Int)->AH ((↑l.length:Int)-(1:Int)))/\
 ((0:Int)<(↑l.length:Int)/\gt l (0:Int)=(0:Int)->
 (0:Int)<=(↑l.length:Int)-(1:Int))/\
 ((0:Int)<(↑l.length:Int)/\gt l (0:Int)=(0:Int)->
 (↑l.length:Int)-(1:Int)<(↑l.length:Int))/\
 bo
 (((0:Int)<(↑l.length:Int)/\gt l (0:Int)=(0:Int))/\
 gt l ((↑l.length:Int)-(1:Int))<=(600:Int))=
 bo (Eh l))):
 BS Tryz.prog Ed Hn:=⟨Ql.I_ rfl,fun x hx=>
 D3 hC (L:=[]) (trivial) Ql (ct:=Hn) (depth:=0) rfl (by kernel_rfl) x (H (@id (List Int) x) (JT hx (by kernel_rfl))) (by kernel_rfl)⟩
theorem WX (hC:Cons Tryz.prog [(Ed,Hn)])
 (H: ∀(starts:List Int) (at_:Int),(JE starts)->
 JE starts/\
 (¬bo (Eh starts)=true->(0:Int)=(Ea starts at_).1/\(4:Int)=(Ea starts at_).2)/\
 (¬¬bo (Eh starts)=true->
 (at_<(0:Int)->(0:Int)=(Ea starts at_).1/\(2:Int)=(Ea starts at_).2)/\
 (¬at_<(0:Int)->
 ∃(I:Int->Int->List Int->Int->Prop),
 ∃(m:Int->Int->List Int->Int->Nat),
 I (0:Int) (↑starts.length:Int) starts at_/\
 ∀(i j:Int) (f:List Int) (f_1:Int),
 I i j f f_1->
 (i<j->
 AH (i+j)/\
 (0:Int)<=(1:Int)/\
 AH
 ((IntKind.u64.wrap (i+j)).fdiv
 ((2:Int) ^ min (Int.toNat (1:Int)) IntKind.u64.bits))/\
 (0:Int)<=
 (IntKind.u64.wrap (i+j)).fdiv
 ((2:Int) ^ min (Int.toNat (1:Int)) IntKind.u64.bits)/\
 (IntKind.u64.wrap (i+j)).fdiv
 ((2:Int) ^ min (Int.toNat (1:Int)) IntKind.u64.bits)<
 (↑f.length:Int)/\
 (¬f_1<
 gt f
 ((IntKind.u64.wrap (i+j)).fdiv
 ((2:Int) ^ min (Int.toNat (1:Int)) IntKind.u64.bits))->
 AH
 ((IntKind.u64.wrap (i+j)).fdiv
 ((2:Int) ^ min (Int.toNat (1:Int)) IntKind.u64.bits)+
 (1:Int))/\
 I
 ((IntKind.u64.wrap (i+j)).fdiv
 ((2:Int) ^ min (Int.toNat (1:Int)) IntKind.u64.bits)+
 (1:Int))
 j f f_1/\
 m
 ((IntKind.u64.wrap (i+j)).fdiv
 ((2:Int) ^ min (Int.toNat (1:Int)) IntKind.u64.bits)+
 (1:Int))
 j f f_1<
 m i j f f_1)/\
 (¬¬f_1<
 gt f
 ((IntKind.u64.wrap (i+j)).fdiv
 ((2:Int) ^ min (Int.toNat (1:Int)) IntKind.u64.bits))->
 I i
 ((IntKind.u64.wrap (i+j)).fdiv
 ((2:Int) ^ min (Int.toNat (1:Int)) IntKind.u64.bits))
 f f_1/\
 m i
 ((IntKind.u64.wrap (i+j)).fdiv
 ((2:Int) ^ min (Int.toNat (1:Int)) IntKind.u64.bits))
 f f_1<
 m i j f f_1))/\
 (¬i<j->
 AH (i-(1:Int))/\
 i-(1:Int)=(Ea starts at_).1/\(0:Int)=(Ea starts at_).2)))):
 BS Tryz.prog Bh C_:=⟨O9.I_ rfl,fun x hx=>
 D3 hC (L:=[(D7,KC),(Ev,Mp)]) (⟨Ny,Tf,trivial⟩) O9 (ct:=C_) (depth:=4) rfl (by kernel_rfl) x (H (@id (List Int×Int) x).1 (@id (List Int×Int) x).2 (JT hx (by kernel_rfl))) (by kernel_rfl)⟩
theorem lY (hC:Cons Tryz.prog [])
 (H: ∀(text:List UInt8),(M3 text)->
 ((↑(1:Nat):Int)=(0:Int)->False)/\
 (¬(↑(1:Nat):Int)=(0:Int)->
 ((↑(1:Nat):Int)=(1:Int)->
 (0:Int)<=(0:Int)/\
 (0:Int)<(↑(1:Nat):Int)/\
 AH ((↑text.length:Int)-(1:Int))/\
 ∃(I:Int->Prop),
 ∃(m:Int->Nat),
 ((0:Int)=(0:Int)/\
 (0:Int)=(0:Int)/\(0:Int)=(0:Int)/\I ((↑text.length:Int)-(1:Int)))/\
 ∀(i:Int),
 I i->
 ((0:Int)<=i->
 (0:Int)<=i/\
 i<(↑text.length:Int)/\
 ((↑(gt text i).toNat:Int)=(10:Int)->
 AH ((↑text.length:Int)-i)/\
 AH ((↑text.length:Int)-i-(1:Int))/\
 ((↑text.length:Int),
 (↑(Lib.countByte text (gt [(10:UInt8)] (0:Int))):Int),
 (↑text.length:Int)-i-(1:Int))=
 posOf text)/\
 (¬(↑(gt text i).toNat:Int)=(10:Int)->
 AH (i-(1:Int))/\
 (0:Int)=(0:Int)/\
 (0:Int)=(0:Int)/\
 (0:Int)=(0:Int)/\I (i-(1:Int))/\m (i-(1:Int))<m i))/\
 (¬(0:Int)<=i->
 AH ((↑text.length:Int)-(-1:Int))/\
 AH ((↑text.length:Int)-(-1:Int)-(1:Int))/\
 ((↑text.length:Int),(↑(Lib.countByte text (gt [(10:UInt8)] (0:Int))):Int),
 (↑text.length:Int)-(-1:Int)-(1:Int))=
 posOf text))/\
 (¬(↑(1:Nat):Int)=(1:Int)->
 ∃(I:List UInt8->Int->Prop),
 ∃(m:List UInt8->Int->Nat),
 ((0:Int)=(0:Int)/\(0:Int)=(0:Int)/\(0:Int)=(0:Int)/\I text (0:Int))/\
 ∀(s:List UInt8) (n:Int),I s n->False))):
 BS Tryz.prog Ee GK:=⟨Xj.I_ rfl,fun x hx=>
 D3 hC (L:=[(EX,Lo),(CX,Gs),(Aw,DY)]) (⟨SK,K_,Fk,trivial⟩) Xj (ct:=GK) (depth:=4) rfl (by kernel_rfl) x (H (@id (List UInt8) x) (JT hx (by kernel_rfl))) (by kernel_rfl)⟩
theorem Pp (hC:Cons Tryz.prog [])
 (H: ∀(a:List Int) (x:Int),(JE a/\R_ a)->
 ∃(I:Int->Int->List Int->Int->Prop),
 ∃(m:Int->Int->List Int->Int->Nat),
 I (0:Int) (↑a.length:Int) a x/\
 ∀(i j:Int) (f:List Int) (f_1:Int),
 I i j f f_1->
 (i<j->
 AH (i+j)/\
 (0:Int)<=(1:Int)/\
 AH ((IntKind.u64.wrap (i+j)).fdiv ((2:Int) ^ min (Int.toNat (1:Int)) IntKind.u64.bits))/\
 (0:Int)<=
 (IntKind.u64.wrap (i+j)).fdiv ((2:Int) ^ min (Int.toNat (1:Int)) IntKind.u64.bits)/\
 (IntKind.u64.wrap (i+j)).fdiv ((2:Int) ^ min (Int.toNat (1:Int)) IntKind.u64.bits)<
 (↑f.length:Int)/\
 (¬f_1<=
 gt f
 ((IntKind.u64.wrap (i+j)).fdiv
 ((2:Int) ^ min (Int.toNat (1:Int)) IntKind.u64.bits))->
 AH
 ((IntKind.u64.wrap (i+j)).fdiv
 ((2:Int) ^ min (Int.toNat (1:Int)) IntKind.u64.bits)+
 (1:Int))/\
 I
 ((IntKind.u64.wrap (i+j)).fdiv
 ((2:Int) ^ min (Int.toNat (1:Int)) IntKind.u64.bits)+
 (1:Int))
 j f f_1/\
 m
 ((IntKind.u64.wrap (i+j)).fdiv
 ((2:Int) ^ min (Int.toNat (1:Int)) IntKind.u64.bits)+
 (1:Int))
 j f f_1<
 m i j f f_1)/\
 (¬¬f_1<=
 gt f
 ((IntKind.u64.wrap (i+j)).fdiv
 ((2:Int) ^ min (Int.toNat (1:Int)) IntKind.u64.bits))->
 I i
 ((IntKind.u64.wrap (i+j)).fdiv
 ((2:Int) ^ min (Int.toNat (1:Int)) IntKind.u64.bits))
 f f_1/\
 m i
 ((IntKind.u64.wrap (i+j)).fdiv
 ((2:Int) ^ min (Int.toNat (1:Int)) IntKind.u64.bits))
 f f_1<
 m i j f f_1))/\
 (¬i<j->i=Cd a x)):
 BS Tryz.prog B1 EG:=⟨KB.I_ rfl,fun x hx=>
 D3 hC (L:=[(D7,KC),(DF,I4)]) (⟨Ny,Nx,trivial⟩) KB (ct:=EG) (depth:=4) rfl (by kernel_rfl) x (H (@id (List Int×Int) x).1 (@id (List Int×Int) x).2 (JT hx (by kernel_rfl))) (by kernel_rfl)⟩
theorem Rv (hC:Cons Tryz.prog [(B1,EG)])
 (H: ∀(l:List Int) (e:Int×Int×List UInt8),(Eh l/\JE l/\Zk e)->
 AH (e.1+(1:Int))/\
 (JE l/\R_ l)/\
 AH (e.1+e.2.1)/\
 AH (e.1+e.2.1+(1:Int))/\
 (JE l/\R_ l)/\
 (0:Int)<=(0:Int)/\
 (0:Int)<=Cd l (e.1+(1:Int))/\
 Cd l (e.1+(1:Int))<=(↑l.length:Int)/\
 (List.drop (Int.toNat (0:Int)) (List.take (Cd l (e.1+(1:Int))).toNat l)).length*
 (8:Nat)<=
 (140737488355328:Nat)/\
 ∃(I:Int->List Int->Prop),
 ∃(m:Int->List Int->Nat),
 (e.1=e.1/\
 e.2.1=e.2.1/\
 e.2.2=e.2.2/\
 I (0:Int)
 (List.drop (Int.toNat (0:Int))
 (List.take (Cd l (e.1+(1:Int))).toNat l)))/\
 ∀(x:Int) (out:List Int),
 I x out->
 (x<(↑e.2.2.length:Int)->
 (0:Int)<=x/\
 x<(↑e.2.2.length:Int)/\
 ((↑(gt e.2.2 x).toNat:Int)=(10:Int)->
 AH (e.1+x)/\
 AH (e.1+x+(1:Int))/\
 (out.length+(1:Nat))*(8:Nat)<=(140737488355328:Nat)/\
 AH (x+(1:Int))/\
 e.1=e.1/\
 e.2.1=e.2.1/\
 e.2.2=e.2.2/\
 I (x+(1:Int)) (out++[e.1+x+(1:Int)])/\
 m (x+(1:Int)) (out++[e.1+x+(1:Int)])<m x out)/\
 (¬(↑(gt e.2.2 x).toNat:Int)=(10:Int)->
 AH (x+(1:Int))/\
 e.1=e.1/\
 e.2.1=e.2.1/\
 e.2.2=e.2.2/\
 I (x+(1:Int)) out/\m (x+(1:Int)) out<m x out))/\
 (¬x<(↑e.2.2.length:Int)->
 (0:Int)<=Cd l (e.1+e.2.1+(1:Int))/\
 Cd l (e.1+e.2.1+(1:Int))<=(↑l.length:Int)/\
 (↑l.length:Int)<=(↑l.length:Int)/\
 ∃(I:Int->List Int->Prop),
 ∃(m:Int->List Int->Nat),
 (e.1=e.1/\
 e.2.1=e.2.1/\e.2.2=e.2.2/\I (0:Int) out)/\
 ∀(x:Int) (out:List Int),
 I x out->
 (x<
 (↑(List.drop (Cd l (e.1+e.2.1+(1:Int))).toNat
 (List.take (↑l.length:Int).toNat l)).length:
 Int)->
 (0:Int)<=x/\
 x<
 (↑(List.drop
 (Cd l (e.1+e.2.1+(1:Int))).toNat
 (List.take (↑l.length:Int).toNat l)).length:
 Int)/\
 AH
 (gt
 (List.drop
 (Cd l (e.1+e.2.1+(1:Int))).toNat
 (List.take (↑l.length:Int).toNat l))
 x+
 (↑e.2.2.length:Int))/\
 AH
 (gt
 (List.drop
 (Cd l (e.1+e.2.1+(1:Int))).toNat
 (List.take (↑l.length:Int).toNat l))
 x+
 (↑e.2.2.length:Int)-
 e.2.1)/\
 (out.length+(1:Nat))*(8:Nat)<=
 (140737488355328:Nat)/\
 AH (x+(1:Int))/\
 e.1=e.1/\
 e.2.1=e.2.1/\
 e.2.2=e.2.2/\
 I (x+(1:Int))
 (out++
 [gt
 (List.drop
 (Cd l
 (e.1+e.2.1+
 (1:Int))).toNat
 (List.take (↑l.length:Int).toNat
 l))
 x+
 (↑e.2.2.length:Int)-
 e.2.1])/\
 m (x+(1:Int))
 (out++
 [gt
 (List.drop
 (Cd l
 (e.1+e.2.1+
 (1:Int))).toNat
 (List.take
 (↑l.length:Int).toNat l))
 x+
 (↑e.2.2.length:Int)-
 e.2.1])<
 m x out)/\
 (¬x<
 (↑(List.drop (Cd l (e.1+e.2.1+(1:Int))).toNat
 (List.take (↑l.length:Int).toNat l)).length:
 Int)->
 out=Eg l e))):
 BS Tryz.prog BK Cj:=⟨LV.I_ rfl,fun x hx=>
 D3 hC (L:=[]) (trivial) LV (ct:=Cj) (depth:=0) rfl (by kernel_rfl) x (H (@id (List Int×(Int×Int×List UInt8)) x).1 (@id (List Int×(Int×Int×List UInt8)) x).2 (JT hx (by kernel_rfl))) (by kernel_rfl)⟩
theorem gH (hC:Cons Tryz.prog [])
 (H: ∀(text:List UInt8),(M3 text)->
 ∃(I:Int->Int->Int->Prop),
 ∃(m:Int->Int->Int->Nat),
 ((0:Int)=(0:Int)/\(0:Int)=(0:Int)/\I (0:Int) (0:Int) (1:Int))/\
 ∀(x h h_1:Int),
 I x h h_1->
 (x<(↑text.length:Int)->
 AH (h*(257:Int))/\
 (0:Int)<=x/\
 x<(↑text.length:Int)/\
 AH (h*(257:Int)+(↑(gt text x).toNat:Int))/\
 AH (h*(257:Int)+(↑(gt text x).toNat:Int)+(1:Int))/\
 (2147483647:Int)≠(0:Int)/\
 AH (h_1*(257:Int))/\
 (2147483647:Int)≠(0:Int)/\
 AH (x+(1:Int))/\
 (0:Int)=(0:Int)/\
 (0:Int)=(0:Int)/\
 I (x+(1:Int))
 ((h*(257:Int)+(↑(gt text x).toNat:Int)+(1:Int)).tmod
 (2147483647:Int))
 ((h_1*(257:Int)).tmod (2147483647:Int))/\
 m (x+(1:Int))
 ((h*(257:Int)+(↑(gt text x).toNat:Int)+(1:Int)).tmod
 (2147483647:Int))
 ((h_1*(257:Int)).tmod (2147483647:Int))<
 m x h h_1)/\
 (¬x<(↑text.length:Int)->(h,h_1)=D6 text)):
 BS Tryz.prog DE El:=⟨VU.I_ rfl,fun x hx=>
 D3 hC (L:=[]) (trivial) VU (ct:=El) (depth:=0) rfl (by kernel_rfl) x (H (@id (List UInt8) x) (JT hx (by kernel_rfl))) (by kernel_rfl)⟩
theorem V7 (hC:Cons Tryz.prog [(A6,Bn)])
 (H: ∀(w:List UInt8),(M3 w)->
 ∃(I:Int->Prop),
 ∃(m:Int->Nat),
 I 0/\
 ∀(x:Int),
 I x->
 (x<(↑w.length:Int)->
 0<=x/\
 x<(↑w.length:Int)/\
 True/\
 (¬bo (Kg (↑(gt w x).toNat:Int))=true->false=bo (isWord w))/\
 (¬¬bo (Kg (↑(gt w x).toNat:Int))=true->AH (x+1)/\I (x+1)/\m (x+1)<m x))/\
 (¬x<(↑w.length:Int)->bo (w≠[]/\(↑w.length:Int)<=12)=bo (isWord w))):
 BS Tryz.prog CI Dq:=⟨N8.I_ rfl,fun x hx=>
 D3 hC (L:=[]) (trivial) N8 (ct:=Dq) (depth:=0) rfl (by kernel_rfl) x (H (@id (List UInt8) x) (JT hx (by kernel_rfl))) (by kernel_rfl)⟩
theorem bn (hC:Cons Tryz.prog [])
 (H: ∀(text:List UInt8),(text.length<=1000000)->
 ∃(I:Int->List Int->Prop),
 ∃(m:Int->List Int->Nat),
 I 0 [0]/\
 ∀(x:Int) (out:List Int),
 I x out->
 (x<(↑text.length:Int)->
 0<=x/\
 x<(↑text.length:Int)/\
 ((↑(gt text x).toNat:Int)=10->
 AH (x+1)/\
 (out.length+1)*8<=140737488355328/\
 AH (x+1)/\I (x+1) (out++[x+1])/\m (x+1) (out++[x+1])<m x out)/\
 (¬(↑(gt text x).toNat:Int)=10->AH (x+1)/\I (x+1) out/\m (x+1) out<m x out))/\
 (¬x<(↑text.length:Int)->out=Aa text)):
 BS Tryz.prog DT F5:=⟨Sy.I_ rfl,fun x hx=>
 D3 hC (L:=[]) (trivial) Sy (ct:=F5) (depth:=0) rfl (by kernel_rfl) x (H (@id (List UInt8) x) (JT hx (by kernel_rfl))) (by kernel_rfl)⟩
theorem Tu (hC:Cons Tryz.prog [])
 (H: ∀(a:List Int) (b:List Int),(JE a/\JE b)->
 ((↑a.length:Int)≠(↑b.length:Int)->false=bo (a=b))/\
 (¬(↑a.length:Int)≠(↑b.length:Int)->
 ∃(I:Int->Prop),
 ∃(m:Int->Nat),
 I 0/\
 ∀(i:Int),
 I i->
 (i<(↑a.length:Int)->
 0<=i/\
 i<(↑a.length:Int)/\
 0<=i/\
 i<(↑b.length:Int)/\
 (gt a i≠gt b i->false=bo (a=b))/\
 (¬gt a i≠gt b i->AH (i+1)/\I (i+1)/\m (i+1)<m i))/\
 (¬i<(↑a.length:Int)->true=bo (a=b)))):
 BS Tryz.prog Cc EZ:=⟨Mx.I_ rfl,fun x hx=>
 D3 hC (L:=[]) (trivial) Mx (ct:=EZ) (depth:=0) rfl (by kernel_rfl) x (H (@id (List Int×List Int) x).1 (@id (List Int×List Int) x).2 (JT hx (by kernel_rfl))) (by kernel_rfl)⟩
end Go.Proofs.YtlibocgedgdmlaaGreat
end
section
set_option maxRecDepth 100000
namespace Go.Proofs.YtlibocgedgdmlaaGreat
open Go.Vc Go.Fu
theorem U1:Cons Tryz.prog []:=trivial
theorem EY:BS Tryz.prog AX BM:=U2 U1 fun a n ⟨h1,h2,h3⟩=>by
 have h2:0<n:=h2;have h3:n<=1000000:=h3;have e:=Int.tmod_eq_emod (a:=a) (b:=n);have e1:=Int.emod_nonneg a (show n≠0 by omega);have e2:=Int.emod_lt_of_pos a h2;unfold AS;by_cases q:0<=a\/n ∣ a
 ·rw [if_pos q] at e;refine ⟨by omega,fun c=>⟨by unfold AH;omega,by omega⟩,fun c=>by omega⟩
 ·rw [if_neg q] at e;refine ⟨by omega,fun c=>⟨by unfold AH;omega,by omega⟩,fun c=>by omega⟩
theorem U4:Cons Tryz.prog [(AX,BM)]:=⟨EY,trivial⟩
theorem Mn:BS Tryz.prog B0 Di:=U5 U4 fun l n ⟨h1,h2,h3⟩=>by
 have h1: ∀i∈l,AH i:=h1;have h2:0<=n:=h2;have h3:n<=1000:=h3;rw [show ([(97:UInt8),(98:UInt8),(32:UInt8),(10:UInt8),(97:UInt8),(98:UInt8),(99:UInt8),(100:UInt8),(32:UInt8),(98:UInt8),(10:UInt8),(97:UInt8)]:List UInt8)=Jf from rfl];refine ⟨fun out i=>0<=i/\i<=l.length/\i<=n/\out=Gb l i,fun _ i=>(n-i).toNat,⟨by omega,by omega,h2,by simp [Gb]⟩,?_⟩;rintro out i ⟨i0,i1,i2,rfl⟩;have fl:=Vv l i;refine ⟨fun t=>?_,fun t=>?_⟩
 ·have hp:0<=AS (gt l i) 12/\AS (gt l i) 12<12:=by unfold AS;omega
  have e1:List.drop (Int.toNat 0) (List.take (Int.toNat 1) (List.drop (AS (gt l i) 12).toNat (List.take ((12:Nat):Int).toNat Jf)))=[N4 (gt l i)]:=pz (gt l i);have e2:((List.drop (AS (gt l i) 12).toNat (List.take ((12:Nat):Int).toNat Jf)).length:Int)=12-AS (gt l i) 12:=by
   rw [List.length_drop,show (List.take ((12:Nat):Int).toNat Jf).length=12 from rfl];omega
  rw [e1,e2];refine ⟨i0,t.1,⟨h1 _ (Kz i0 t.1),(show (0:Int)<12 by decide),(show (12:Int)<=1000000 by decide)⟩,hp.1,by omega,by omega,by omega,by omega,by omega,by simp only [List.length_singleton];unfold AH;omega,by unfold AH;omega,⟨by omega,by omega,by omega,(mB i0 t.1).symm⟩,by dsimp only;omega⟩
 ·by_cases c:i=n
  ·rw [c]
  ·have:i=l.length:=by omega
   unfold Gb;rw [List.take_of_length_le (by omega),List.take_of_length_le (by omega)]
theorem Uy:Cons Tryz.prog [(AX,BM),(B0,Di)]:=⟨EY,Mn,trivial⟩
theorem Te:BS Tryz.prog Da F4:=Uz Uy fun c size h=>by
 obtain ⟨h1,h2,h3,h4,h5⟩:=h;have h4:0<=size:=h4;have h5:size<=600:=h5;have p1:=sE (a:=c.1) (n:=size+1) (by omega);refine ⟨by unfold AH;omega,⟨h1,(show 0<size+1 by omega),(show size+1<=1000000 by omega)⟩,by unfold AH;omega,by unfold AH;omega,⟨h2,(show 0<_+1 by omega),(show _+1<=1000000 by omega)⟩,⟨h3,(show (0:Int)<=8 by decide),(show (8:Int)<=1000 by decide)⟩,rfl⟩
theorem WO:Cons Tryz.prog [(AX,BM),(Da,F4)]:=⟨EY,Te,trivial⟩
theorem Uw:BS Tryz.prog D4 Gm:=WQ WO fun l n size h=>by
 obtain ⟨h1,h2,h3,h4,h5⟩:=h;refine ⟨fun i out=>0<=i/\i<=l.length/\i<=n/\out=(l.take i.toNat).map fun t=>Js t size,fun i _=>(n-i).toNat,⟨by omega,by omega,h2,rfl⟩,?_⟩;rintro i out ⟨i0,i1,i2,rfl⟩;have ln:((l.take i.toNat).map fun t=>Js t size).length=i.toNat:=by rw [List.length_map,List.length_take];omega
 refine ⟨fun t=>?_,fun t=>?_⟩
 ·have hf:=h1 _ (Kz i0 t.1);have hk:(l.take (i+1).toNat).map (fun t=>Js t size)=(l.take i.toNat).map (fun t=>Js t size)++[Js (gt l i) size]:=by rw [G3 i0 t.1,List.map_append];rfl
  have hp:0<=AS (gt l i).1 8/\AS (gt l i).1 8<8:=by unfold AS;omega
  refine ⟨i0,t.1,⟨hf.2.1,hf.2.2.1,hf.2.2.2,h4,by show size<=600;omega⟩,i0,t.1,⟨hf.1,(show (0:Int)<8 by decide),(show (8:Int)<=1000000 by decide)⟩,fun c=>?_,fun c=>?_⟩
  ·refine ⟨by unfold AH;omega,by unfold AH;omega,by rw [ln];omega,by unfold AH;omega,⟨by omega,by omega,by omega,?_⟩,by show (n-(i+1)).toNat<(n-i).toNat;omega⟩;rw [hk];unfold Js;rw [if_pos c,show 2+AS (gt l i).1 8-5=AS (gt l i).1 8-3 by omega]
  ·refine ⟨by rw [ln];omega,by unfold AH;omega,⟨by omega,by omega,by omega,?_⟩,by show (n-(i+1)).toNat<(n-i).toNat;omega⟩;rw [hk];unfold Js;rw [if_neg c]
 ·unfold Gu;by_cases c:i=n
  ·rw [c]
  ·have:i=l.length:=by omega
   rw [List.take_of_length_le (by omega),List.take_of_length_le (by omega)]
theorem bS:Cons Tryz.prog [(AX,BM)]:=⟨EY,trivial⟩
theorem Qh:BS Tryz.prog DB E_:=bT bS fun l n ⟨h1,h2,h3⟩=>by
 have h1: ∀i∈l,AH i:=h1;have h2:0<=n:=h2;have h3:n<=1000:=h3;refine ⟨fun out i=>0<=i/\i<=l.length/\i<=n/\out=H_ l i,fun _ i=>(n-i).toNat,⟨by omega,by omega,h2,by simp [H_]⟩,?_⟩;rintro out i ⟨i0,i1,i2,rfl⟩;have fl:=T6 l i;refine ⟨fun t=>?_,fun t=>?_⟩
 ·rw [rE];have hp:0<=AS (gt l i) 2/\AS (gt l i) 2<2:=by unfold AS;omega
  refine ⟨i0,t.1,⟨h1 _ (Kz i0 t.1),(show (0:Int)<2 by decide),(show (2:Int)<=1000000 by decide)⟩,hp.1,hp.2,by simp only [List.length_singleton];unfold AH;omega,by unfold AH;omega,⟨by omega,by omega,by omega,(nj i0 t.1).symm⟩,by dsimp only;omega⟩
 ·by_cases c:i=n
  ·rw [c]
  ·have:i=l.length:=by omega
   unfold H_;rw [List.take_of_length_le (by omega),List.take_of_length_le (by omega)]
theorem Yz:Cons Tryz.prog [(AX,BM),(D4,Gm),(DB,E_)]:=⟨EY,Uw,Qh,trivial⟩
theorem WT:BS Tryz.prog Dg GH:=Y0 Yz fun l n size h=>by
 obtain ⟨h1,h2,h3,h4,h5⟩:=h;refine ⟨fun i out=>0<=i/\i<=l.length/\i<=n/\out=(l.take i.toNat).map fun a=>I0 a size,fun i _=>(n-i).toNat,⟨by omega,by omega,h2,rfl⟩,?_⟩;rintro i out ⟨i0,i1,i2,rfl⟩;have ln:((l.take i.toNat).map fun a=>I0 a size).length=i.toNat:=by rw [List.length_map,List.length_take];omega
 refine ⟨fun t=>?_,fun t=>?_⟩
 ·have hf:=h1 _ (Kz i0 t.1);have hk:(l.take (i+1).toNat).map (fun a=>I0 a size)=(l.take i.toNat).map (fun a=>I0 a size)++[I0 (gt l i) size]:=by rw [G3 i0 t.1,List.map_append];rfl
  have hp:0<=AS (gt l i).2.2.2.1 20/\AS (gt l i).2.2.2.1 20<20:=by unfold AS;omega
  refine ⟨i0,t.1,⟨fun x hx=>by rw [List.mem_singleton.1 hx];exact hf.2.1,by decide,by decide,h4,h5⟩,Int.le_refl _,(show (0:Int)<1 by decide),⟨hf.1,(show (0:Int)<14 by decide),(show (14:Int)<=1000000 by decide)⟩,fun c=>?_,fun c=>⟨fun c9=>?_,fun c9=>⟨fun c8=>?_,fun c8=>⟨fun c7=>?_,fun c7=>⟨fun c6=>?_,fun c6=>⟨fun c5=>?_,fun c5=>⟨fun c4=>?_,fun c4=>?_⟩⟩⟩⟩⟩⟩⟩
  ·refine ⟨⟨hf.2.2.1,(show (0:Int)<2 by decide),(show (2:Int)<=1000000 by decide)⟩,⟨hf.2.2.2.1,(show (0:Int)<20 by decide),(show (20:Int)<=1000000 by decide)⟩,by unfold AH;omega,by rw [ln];omega,by unfold AH;omega,⟨by omega,by omega,by omega,?_⟩,by show (n-(i+1)).toNat<(n-i).toNat;omega⟩;rw [hk];unfold I0;rw [if_pos c];rfl
  ·refine ⟨by unfold AH;omega,⟨hf.2.2.1,by show 0<size+2;omega,by show size+2<=1000000;omega⟩,by rw [ln];omega,by unfold AH;omega,⟨by omega,by omega,by omega,?_⟩,by show (n-(i+1)).toNat<(n-i).toNat;omega⟩;rw [hk];unfold I0;rw [if_neg c,if_pos c9];rfl
  ·refine ⟨⟨hf.2.2.2.2,(show (0:Int)<=3 by decide),(show (3:Int)<=1000 by decide)⟩,by rw [ln];omega,by unfold AH;omega,⟨by omega,by omega,by omega,?_⟩,by show (n-(i+1)).toNat<(n-i).toNat;omega⟩;rw [hk];unfold I0;rw [if_neg c,if_neg c9,if_pos c8];rfl
  ·refine ⟨⟨hf.2.2.1,(show (0:Int)<6 by decide),(show (6:Int)<=1000000 by decide)⟩,by rw [ln];omega,by unfold AH;omega,⟨by omega,by omega,by omega,?_⟩,by show (n-(i+1)).toNat<(n-i).toNat;omega⟩;rw [hk];unfold I0;rw [if_neg c,if_neg c9,if_neg c8,if_pos c7];rfl
  ·refine ⟨by rw [ln];omega,by unfold AH;omega,⟨by omega,by omega,by omega,?_⟩,by show (n-(i+1)).toNat<(n-i).toNat;omega⟩;rw [hk];unfold I0;rw [if_neg c,if_neg c9,if_neg c8,if_neg c7,if_pos c6];rfl
  ·refine ⟨⟨hf.2.2.1,(show (0:Int)<4 by decide),(show (4:Int)<=1000000 by decide)⟩,by rw [ln];omega,by unfold AH;omega,⟨by omega,by omega,by omega,?_⟩,by show (n-(i+1)).toNat<(n-i).toNat;omega⟩;rw [hk];unfold I0;rw [if_neg c,if_neg c9,if_neg c8,if_neg c7,if_neg c6,if_pos c5];rfl
  ·refine ⟨⟨hf.2.2.1,(show (0:Int)<4 by decide),(show (4:Int)<=1000000 by decide)⟩,by rw [ln];omega,by unfold AH;omega,⟨by omega,by omega,by omega,?_⟩,by show (n-(i+1)).toNat<(n-i).toNat;omega⟩;rw [hk];unfold I0;rw [if_neg c,if_neg c9,if_neg c8,if_neg c7,if_neg c6,if_neg c5,if_pos c4];rfl
  ·refine ⟨by rw [ln];omega,by unfold AH;omega,⟨by omega,by omega,by omega,?_⟩,by show (n-(i+1)).toNat<(n-i).toNat;omega⟩;rw [hk];unfold I0;rw [if_neg c,if_neg c9,if_neg c8,if_neg c7,if_neg c6,if_neg c5,if_neg c4];rfl
 ·unfold MV;by_cases c:i=n
  ·rw [c]
  ·have:i=l.length:=by omega
   rw [List.take_of_length_le (by omega),List.take_of_length_le (by omega)]
theorem WC:Cons Tryz.prog []:=trivial
theorem NH:BS Tryz.prog Ba CF:=WD WC fun size e ⟨h1,h2,h3,h4⟩=>(by
 simp only [GG,M3,BO] at*;refine ⟨fun h=>by omega,fun h=>?_,fun h=>⟨by omega,by omega,fun g=>?_,fun g=>?_⟩⟩
 ·rw [if_pos (by omega)]
 ·rw [if_neg (by omega),if_pos (by omega)]
 ·rw [if_neg (by omega),if_neg (by omega)])
theorem Yb:Cons Tryz.prog []:=trivial
theorem Ov:BS Tryz.prog BA Bs:=Yc Yb fun s e h=>by
 have h':=Bb.1 h;have e1:List.take ((s.length:Int)).toNat s=s:=List.take_of_length_le (by omega);simp only [GG,true_and,and_true,ne_eq,Int.reduceEq,not_false_eq_true,Int.toNat_zero,e1,List.drop_zero,List.length_append,List.length_take,List.length_drop,AV];exact ⟨by omega,by omega,by omega,by omega,by omega,by omega,by omega,by omega,by omega⟩
theorem Ye:Cons Tryz.prog []:=trivial
theorem Ow:BS Tryz.prog Br Cf:=Yf Ye fun s e h=>by
 have h':=Bb.1 h;simp only [GG,true_and,and_true,ne_eq,Int.reduceEq,not_false_eq_true,Int.toNat_zero];exact ⟨by omega,by omega,by omega,by omega,rfl⟩
theorem Wo:Cons Tryz.prog []:=trivial
theorem KI:BS Tryz.prog A6 Bn:=Wp Wo fun c h=>by
 exact aD (by unfold Kg;omega)
theorem Tw:Cons Tryz.prog [(A6,Bn)]:=⟨KI,trivial⟩
theorem SS:BS Tryz.prog BG CD:=Tx Tw fun s lo hi h=>by
 obtain ⟨h0,h1,h2,h3⟩:=h;have h0:s.length<=140737488351232:=h0;have pb: ∀c:UInt8,(bo (Kg (c.toNat:Int))=true)↔O6 c=true:=fun c=>by rw [KW,Qw]
 simp only [pb];refine ⟨fun x=>0<=x/\x<=lo/\L7 s lo.toNat=L7 s x.toNat,fun x=>x.toNat,⟨h1,Int.le_refl _,rfl⟩,fun x ⟨x0,x1,x2⟩=>?_⟩;dsimp only;refine ⟨fun q=>by unfold AH;omega,fun q=>by omega,fun q=>by omega,fun _=>trivial,fun ⟨q,hp⟩=>⟨by unfold AH;omega,⟨by omega,by omega,?_⟩,by omega⟩,fun hn=>?_⟩
 ·rw [x2,show x.toNat=(x-1).toNat+1 by omega]
  conv=>lhs;unfold L7
  rw [if_pos (by rw [show (((x-1).toNat:Nat):Int)=x-1 by omega];exact hp)]
 ·have e1:L7 s lo.toNat=x.toNat:=by
   rw [x2];by_cases z:0<x
   ·have hp: ¬O6 (gt s (x-1))=true:=fun q=>hn ⟨z,q⟩;rw [show x.toNat=(x-1).toNat+1 by omega];unfold L7;rw [if_neg (by rw [show (((x-1).toNat:Nat):Int)=x-1 by omega];exact hp)]
   ·rw [show x.toNat=0 by omega];rfl
  have hr:=Ii s hi.toNat;refine ⟨fun y=>hi<=y/\y<=s.length/\ ∀j:Nat,hi.toNat+j<y.toNat->O6 (gt s ((hi.toNat+j:Nat):Int))=true,fun y=>(s.length-y).toNat,⟨Int.le_refl _,h3,fun j hj=>by omega⟩,fun y ⟨y0,y1,y2⟩=>?_⟩;dsimp only;refine ⟨fun q=>by omega,fun q=>q,fun _=>trivial,fun ⟨q,hp⟩=>⟨by unfold AH;omega,⟨by omega,by omega,fun j hj=>?_⟩,by omega⟩,fun hn2=>?_⟩
  ·by_cases c:hi.toNat+j=y.toNat
   ·rw [c,show ((y.toNat:Nat):Int)=y by omega];exact hp
   ·exact y2 j (by omega)
  ·unfold YL Kv;dsimp only;have e2:CC s hi.toNat=y.toNat-hi.toNat:=run_eq (by omega) (fun j hj=>y2 j (by omega)) (by
    by_cases z:y<s.length
    ·right;rw [show ((hi.toNat+(y.toNat-hi.toNat):Nat):Int)=y by omega];have:=fun q=>hn2 ⟨z,q⟩;simpa using this
    ·left;omega)
   rw [e1,e2];omega
theorem GX:Cons Tryz.prog []:=trivial
theorem GN:BS Tryz.prog Af BN:=GY GX fun s hs nl hn=>by
 refine ⟨fun c=>?_,fun c=>⟨by simp only [nn] at hs;omega,rfl⟩⟩;have:=hn c;exact (List.length_eq_zero_iff.1 (by omega)).symm
theorem SI:Cons Tryz.prog [(Af,BN)]:=⟨GN,trivial⟩
theorem RH:BS Tryz.prog Ax IV:=SJ SI fun l s ⟨⟨hl,hp⟩,hs⟩=>by
 simp only [GG,true_and,and_true,ne_eq,Int.reduceEq,not_false_eq_true,Int.toNat_zero,cg,Classical.not_not] at*;refine ⟨fun x out=>0<=x/\x<=l.length/\out=CB (l.take x.toNat) s,fun x _=>(l.length-x).toNat,⟨by omega,by omega,by simp [CB]⟩,?_⟩;rintro x out ⟨h0,h1,h2⟩;dsimp only;have ol:out.length=2*x.toNat:=by rw [h2,sH,List.length_take];omega
 refine ⟨fun t=>⟨h0,t,by omega,by omega,⟨by omega,by omega,by rw [pN h0 t,h2]⟩,by omega⟩,fun t=>⟨fun e=>⟨by simp only [nn];omega,eW e hp⟩,fun e=>?_⟩⟩;have ho:out=CB l s:=by rw [h2,List.take_of_length_le (by omega)]
 have hlt:s.1<s.2:=by obtain ⟨_,h,_⟩:=hs;omega
 have res:FG out=Ao l s:=by rw [ho];exact j_ hlt hp
 refine ⟨fun x=>0<=x/\x<=out.length/\ ∀j:Int,0<=j->j<x->(gt out j).1<(gt out j).2,fun x=>(out.length-x).toNat,⟨by omega,by omega,fun j a b=>by omega⟩,?_⟩;rintro x ⟨g0,g1,g2⟩;dsimp only;refine ⟨fun u=>⟨g0,u,fun v=>⟨fun c=>by omega,fun _=>⟨by omega,fun i j s'=>thin out s' i j,fun _ j _=>(out.length-j).toNat,gj g0 u g2 (by omega),?_⟩⟩,fun v=>⟨by omega,⟨by omega,by omega,fun j a b=>?_⟩,by omega⟩⟩,fun u=>⟨fun _=>?_,fun c=>by simp at c⟩⟩
 ·rintro i j s' h;have h':=h;obtain ⟨k1,k2,k3,k4,k5,k6⟩:=h';dsimp only;refine ⟨fun w=>⟨by omega,w,fun b=>⟨k1,by omega,by omega,by omega,mE h (by omega) (by omega),by omega⟩,fun b=>⟨by omega,mC h (by omega) (by omega),by omega⟩⟩,fun w=>⟨k1,by omega,by omega,by omega,k1,by simp only [List.length_append,List.length_take,List.length_replicate,List.length_drop];omega,?_⟩⟩;rw [<-res,<-p8 h (by omega),Int.sub_zero,List.append_assoc,List.take_append_of_le_length (by simp;omega),List.take_of_length_le (by simp;omega)]
 ·by_cases e:j=x
  ·subst e;omega
  ·exact g2 j a (by omega)
 ·rw [<-res,S7];intro j a b;exact g2 j a (by omega)
theorem KE:BS Tryz.prog Ax CP:=BS.frozen RH
theorem Tk:Cons Tryz.prog []:=trivial
theorem Lj:BS Tryz.prog DC C3:=Tl Tk fun l ha=>by
 have hl:l.length<=100001:=ha.1;refine ⟨fun x out=>0<=x/\x<=l.length/\Jn l x out,fun x _=>(l.length-x).toNat,⟨by omega,by omega,.init l⟩,?_⟩;rintro x out ⟨x0,x1,h⟩;have ol:=h.len;dsimp only;refine ⟨fun t=>⟨x0,t,fun e=>⟨by unfold AH;omega,⟨by omega,by omega,h.skip x0 t e⟩,by omega⟩,fun e=>⟨fun _=>by unfold AH;omega,fun _=>by omega,fun _=>by omega,fun c=>?_,fun c=>?_⟩⟩,fun t=>h.fin t⟩
 ·have c0:=c.1;exact ⟨by unfold AH;omega,by unfold AH;omega,by omega,by omega,by omega,by omega,by unfold AH;omega,⟨by omega,by omega,h.more ha x0 t (by omega) c.2⟩,by omega⟩
 ·exact ⟨by omega,by unfold AH;omega,⟨by omega,by omega,h.next ha x0 t e fun q=>c ⟨by omega,q.2⟩⟩,by omega⟩
theorem Nz:BS Tryz.prog Bi C1:=qI id Lj
theorem SF:Cons Tryz.prog [(Ax,CP),(DC,C3),(Bi,C1)]:=⟨KE,Lj,Nz,trivial⟩
theorem RE:BS Tryz.prog BV Ck:=SG SF fun l e ⟨size,ok,f⟩=>by
 simp only [GG,true_and,and_true,ne_eq,Int.reduceEq,not_false_eq_true,Int.toNat_zero,cg] at*;have m:=Bb.1 (show Bz size e from f);obtain ⟨u1,u2,u3⟩:=U8 ok f;obtain ⟨k1,k2,k3,k4⟩:=gU ok f;generalize hW:Ao l (e.1,e.1+e.2.1)=W at*;refine ⟨by omega,⟨ok.pre,m.2.2.1,by show e.1<=e.1+e.2.1;omega,by show e.1+e.2.1<=1000000;omega⟩,fun x out=>0<=x/\x<=W.length/\out=F6 e (W.take x.toNat),fun x _=>(W.length-x).toNat,⟨by omega,by omega,by simp [F6]⟩,?_⟩;rintro x out ⟨h0,h1,h2⟩;dsimp only;have ol:out.length<=2*x.toNat:=by
  have:=SC e (W.take x.toNat);rw [h2];simp only [List.length_take] at this;omega
 refine ⟨fun t=>?_,fun t=>?_⟩
 ·have b:=u1 _ (Kz h0 t);have hs:=gS (e:=e) h0 t;have b':=b;obtain ⟨a1,a2,a3,a4,a5,a6,a7,a8⟩:=b';unfold IU at hs;refine ⟨h0,t,fun c=>?_,fun c=>?_⟩
  ·rw [if_pos c] at hs;refine ⟨by omega,fun _=>⟨by omega,by omega,by omega,by simp only [List.length_append,List.length_singleton];omega,by omega,⟨by omega,by omega,?_⟩,by omega⟩,fun q=>absurd (Int.le_refl _) q⟩;rw [hs,h2,List.append_assoc];rfl
  ·rw [if_neg c] at hs;refine ⟨fun d=>?_,fun d=>?_⟩
   ·rw [if_pos d] at hs;exact ⟨by omega,by omega,by omega,by omega,by omega,⟨by omega,by omega,by rw [hs,h2]⟩,by omega⟩
   ·rw [if_neg d] at hs;exact ⟨by omega,by omega,⟨by omega,by omega,by rw [hs,h2]⟩,by omega⟩
 ·rw [List.take_of_length_le (by omega)] at h2;subst h2;exact ⟨by omega,k1,⟨k2,k3⟩,k4⟩
theorem Y8:Cons Tryz.prog []:=trivial
theorem WY:BS Tryz.prog Ed Hn:=Y9 Y8 fun l hl=>by
 simp only [GG,true_and,and_true,ne_eq,Int.reduceEq,not_false_eq_true,Int.toNat_zero,JE,Ug,nD,Eh] at*;refine ⟨fun x=>0<=x/\x<=l.length/\ ∀i,0<i->i<x->gt l (i-1)<gt l i,fun x=>(l.length-x).toNat,⟨by omega,by omega,fun i a b=>by omega⟩,?_⟩;rintro x ⟨h0,h1,h2⟩;dsimp only;refine ⟨fun t=>⟨h0,t,fun _=>by omega,fun _=>by omega,fun _=>by omega,fun u q=>?_,fun u=>⟨by omega,⟨by omega,by omega,fun i a b=>?_⟩,by omega⟩⟩,fun t=>⟨fun _=>by omega,fun _=>by omega,fun _=>by omega,fun _=>by omega,fun _=>by omega,?_⟩⟩
 ·have:=q.2.2.1 x u.1 t;omega
 ·by_cases e:i=x
  ·rw [e];omega
  ·exact h2 i a (by omega)
 ·have e: ¬l=[]↔0<(l.length:Int):=by rw [<-ne_eq,<-List.length_pos_iff];omega
  rw [e];exact ⟨fun ⟨⟨a,b⟩,c⟩=>⟨a,b,fun i p q=>h2 i p (by omega),c⟩,fun ⟨a,b,_,c⟩=>⟨⟨a,b⟩,c⟩⟩
theorem WW:Cons Tryz.prog [(Ed,Hn)]:=⟨WY,trivial⟩
theorem VD:BS Tryz.prog Bh C_:=WX WW fun l at_ hl=>by
 simp only [GG,true_and,and_true,ne_eq,Int.reduceEq,not_false_eq_true,Int.toNat_zero,Ea,KW];refine ⟨hl,fun q=>by rw [LS q];exact ⟨rfl,rfl⟩,fun q=>?_⟩;rw [LR q];have ok:=Classical.byContradiction q;simp only [Eh] at ok;obtain ⟨o1,o2,o3,o4⟩:=ok;have hl':l.length<=140737488351232:=hl;have hlen:0<l.length:=List.length_pos_iff.2 o1;refine ⟨fun r=>by rw [if_pos r];exact ⟨rfl,rfl⟩,fun r=>?_⟩;rw [if_neg r];refine ⟨fun i j f g=>f=l/\g=at_/\0<=i/\i<=j/\j<=l.length/\(∀k,0<=k->k<i->gt l k<=at_)/\(∀k,j<=k->k<l.length->at_<gt l k),fun i j _ _=>(j-i).toNat,⟨rfl,rfl,by omega,by omega,by omega,fun k a b=>by omega,fun k a b=>by omega⟩,?_⟩;rintro i j f g ⟨rfl,rfl,h0,h1,h2,h3,h4⟩;dsimp only;refine ⟨fun t=>?_,fun t=>?_⟩
 ·rw [Up (by omega) (by omega)];have hm:i<=(i+j)/2/\(i+j)/2<j:=by omega
  generalize (i+j)/2=h at*;refine ⟨by omega,by omega,by omega,by omega,by omega,fun u=>⟨by omega,⟨rfl,rfl,by omega,by omega,h2,fun k a b=>?_,h4⟩,by omega⟩,fun u=>⟨⟨rfl,rfl,h0,by omega,by omega,h3,fun k a b=>?_⟩,by omega⟩⟩
  ·by_cases e:k=h
   ·rw [e];omega
   ·have:=OX o3 (i:=k) (j:=h) a (by omega) (by omega);omega
  ·by_cases e:k=h
   ·rw [e];omega
   ·have:=OX o3 (i:=h) (j:=k) (by omega) (by omega) b;omega
 ·have e:i=j:=by omega
  subst e;rw [kx h0 h2 h3 fun h=>h4 i (by omega) h];exact ⟨by omega,rfl,rfl⟩
theorem lX:Cons Tryz.prog []:=trivial
theorem gL:BS Tryz.prog Ee GK:=lY lX fun s hs=>by
 simp only [GG,true_and,and_true,ne_eq,Int.reduceEq,not_false_eq_true,Int.toNat_zero,sU] at*;refine ⟨fun c=>by omega,fun _=>⟨fun _=>⟨by omega,by omega,by omega,fun i=> -1<=i/\i<s.length/\ ∀j:Int,i<j->j<s.length->gt s j≠10,fun i=>(i+1).toNat,⟨by omega,by omega,fun j a b=>by omega⟩,?_⟩,fun c=>by omega⟩⟩;rintro i ⟨h0,h1,h2⟩;dsimp only;have bd:=Iy s;have ec:(↑(Lib.countByte s (gt [(10:UInt8)] 0)):Int)=(posOf s).2.1:=(cZ s).symm;refine ⟨fun t=>⟨t,h1,fun u=>⟨by omega,by omega,?_⟩,fun u=>⟨by omega,⟨by omega,by omega,fun j a b=>?_⟩,by omega⟩⟩,fun t=>⟨by omega,by omega,?_⟩⟩
 ·rw [ec,<-gI t h1 u h2,<-bd.1]
 ·by_cases e:j=i
  ·rw [e];exact u
  ·exact h2 j (by omega) b
 ·have:=gK fun j a b=>h2 j (by omega) b;rw [ec,show (s.length:Int)- -1-1=s.length by omega];refine Prod.ext ?_ (Prod.ext rfl ?_)
  ·exact bd.1.symm
  ·exact this.symm
theorem Po:Cons Tryz.prog []:=trivial
theorem Ol:BS Tryz.prog B1 EG:=Pp Po fun l n ⟨hl,hp⟩=>by
 simp only [GG,true_and,and_true,ne_eq,Int.reduceEq,not_false_eq_true,Int.toNat_zero,JE,R_] at*;refine ⟨fun i j f g=>f=l/\g=n/\0<=i/\i<=j/\j<=l.length/\(∀k,0<=k->k<i->gt l k<n)/\(∀k,j<=k->k<l.length->n<=gt l k),fun i j _ _=>(j-i).toNat,⟨rfl,rfl,by omega,by omega,by omega,fun k a b=>by omega,fun k a b=>by omega⟩,?_⟩;rintro i j f g ⟨rfl,rfl,h0,h1,h2,h3,h4⟩;dsimp only;refine ⟨fun t=>?_,fun t=>?_⟩
 ·have hu:=Up (a:=i+j) (by omega) (by omega);simp only [Int.toNat_one] at hu |-;rw [hu];have hm:i<=(i+j)/2/\(i+j)/2<j:=by omega
  generalize (i+j)/2=h at*;refine ⟨by omega,by omega,by omega,by omega,by omega,fun u=>⟨by omega,⟨by trivial,by trivial,by omega,by omega,h2,fun k a b=>?_,h4⟩,by omega⟩,fun u=>⟨⟨by trivial,by trivial,h0,by omega,by omega,h3,fun k a b=>?_⟩,by omega⟩⟩
  ·by_cases e:k=h
   ·rw [e];omega
   ·have:=ZM hp (i:=k) (j:=h) a (by omega) (by omega);omega
  ·by_cases e:k=h
   ·rw [e];omega
   ·have:=ZM hp (i:=h) (j:=k) (by omega) (by omega) b;omega
 ·exact (dD h0 (by omega) h3 fun t=>h4 i (by omega) t).symm
theorem Ru:Cons Tryz.prog [(B1,EG)]:=⟨Ol,trivial⟩
theorem Qk:BS Tryz.prog BK Cj:=Rv Ru fun l e ⟨hs,hl,hu⟩=>by
 have hr:R_ l:=dN hs.2.2.1;have ln:=Pt hs;have et:List.take ((l.length:Int)).toNat l=l:=List.take_of_length_le (by omega);have b1:=Xw l (e.1+1);have b2:=Xw l (e.1+e.2.1+1);simp only [GG,true_and,and_true,ne_eq,Int.reduceEq,not_false_eq_true,Int.toNat_zero,Zk,List.drop_zero,et,dF,dE,eK] at*;have lt:=(List.takeWhile_sublist (p:=fun y=>decide (y<=e.1)) (l:=l)).length_le;have ld:=(List.dropWhile_sublist (p:=fun y=>decide (y<=e.1+e.2.1)) (l:=l)).length_le;have md: ∀x∈l.dropWhile (fun y=>decide (y<=e.1+e.2.1)),0<=x/\x<=600:=fun x hx=>Vt hs ((List.dropWhile_sublist _).mem hx);have eu:Eg l e=(l.takeWhile fun x=>decide (x<=e.1))++AQ e.1 e.2.2++(l.dropWhile fun x=>decide (x<=e.1+e.2.1)).map (· +((e.2.2.length:Int)-e.2.1)):=rfl;generalize (l.takeWhile fun y=>decide (y<=e.1))=tw at*;generalize (l.dropWhile fun y=>decide (y<=e.1+e.2.1))=dw at*;refine ⟨by omega,⟨hl,hr⟩,by omega,by omega,⟨hl,hr⟩,by omega,by omega,by omega,by omega,fun x out=>0<=x/\x<=e.2.2.length/\out.length<=tw.length+x/\out++AQ (e.1+x) (e.2.2.drop x.toNat)=tw++AQ e.1 e.2.2,fun x _=>(e.2.2.length-x).toNat,⟨by omega,by omega,by omega,by simp⟩,?_⟩;rintro x out ⟨h0,h1,h2,h3⟩;dsimp only;refine ⟨fun t=>⟨h0,t,fun u=>?_,fun u=>?_⟩,fun t=>⟨by omega,by omega,by omega,?_⟩⟩
 ·rw [Ie h0 t] at h3;simp only [AQ] at h3;rw [if_pos u,show e.1+x+1=e.1+(x+1) by omega] at h3;refine ⟨by omega,by omega,by omega,by omega,⟨by omega,by omega,by simp;omega,?_⟩,by omega⟩;rw [show e.1+x+1=e.1+(x+1) by omega];simpa using h3
 ·rw [Ie h0 t] at h3;simp only [AQ] at h3;rw [if_neg u,show e.1+x+1=e.1+(x+1) by omega] at h3;exact ⟨by omega,⟨by omega,by omega,by omega,h3⟩,by omega⟩
 ·rw [List.drop_of_length_le (by omega)] at h3;simp only [AQ,List.append_nil] at h3;refine ⟨fun x o=>0<=x/\x<=dw.length/\o.length=out.length+x/\o++(dw.drop x.toNat).map (· +((e.2.2.length:Int)-e.2.1))=Eg l e,fun x _=>(dw.length-x).toNat,⟨by omega,by omega,by omega,?_⟩,?_⟩
  ·rw [eu,h3];simp
  ·rintro y o ⟨g0,g1,g2,g3⟩;dsimp only;refine ⟨fun u=>?_,fun u=>?_⟩
   ·have:=md _ (Kz g0 u);rw [Ie g0 u] at g3;refine ⟨g0,u,by omega,by omega,by omega,by omega,⟨by omega,by omega,by simp;omega,?_⟩,by omega⟩;rw [show gt dw y+(e.2.2.length:Int)-e.2.1=gt dw y+((e.2.2.length:Int)-e.2.1) by omega];simpa using g3
   ·rw [List.drop_of_length_le (by omega)] at g3;simpa using g3
theorem gG:Cons Tryz.prog []:=trivial
theorem cU:BS Tryz.prog DE El:=gH gG fun s hs=>by
 simp only [GG,true_and,and_true,ne_eq,Int.reduceEq,not_false_eq_true,Int.toNat_zero];refine ⟨fun x a b=>0<=x/\x<=s.length/\(a,b)=D6 (s.take x.toNat),fun x _ _=>(s.length-x).toNat,by simp [D6],fun x a b ⟨h0,h1,h2⟩=>?_⟩;dsimp only;refine ⟨fun h=>?_,fun h=>?_⟩
 ·have bd:=lU (s.take x.toNat);rw [<-h2] at bd;simp only at bd;have hb:=qg (gt s x);have hb0:=qh (gt s x);unfold M3 at hs;rw [Int.tmod_eq_emod_of_nonneg (by omega),Int.tmod_eq_emod_of_nonneg (by omega)];refine ⟨by omega,h0,h,by omega,by omega,by omega,by omega,⟨by omega,by omega,?_⟩,by omega⟩;rw [G3 h0 h,TD,<-h2];rfl
 ·rw [h2,List.take_of_length_le (by omega)]
theorem V6:Cons Tryz.prog [(A6,Bn)]:=⟨KI,trivial⟩
theorem Tz:BS Tryz.prog CI Dq:=V7 V6 fun w h=>by
 have h:w.length<=140737488351232:=h;refine ⟨fun x=>0<=x/\x<=w.length/\ ∀j:Int,0<=j->j<x->O6 (gt w j)=true,fun x=>(w.length-x).toNat,⟨by omega,by omega,fun j h1 h2=>by omega⟩,fun x ⟨h0,h1,h2⟩=>?_⟩;dsimp only;refine ⟨fun q=>⟨h0,q,trivial,fun c=>?_,fun c=>?_⟩,fun q=>?_⟩
 ·refine Ug.2 fun hw=>c (KW.2 ((Qw _).1 (hw.2.2 _ (Kz h0 q))))
 ·have hp:O6 (gt w x)=true:=(Qw _).2 (KW.1 (Classical.not_not.1 c));refine ⟨by unfold AH;omega,⟨by omega,by omega,fun j j0 j1=>?_⟩,by omega⟩;by_cases e:j=x
  ·rw [e];exact hp
  ·exact h2 j j0 (by omega)
 ·refine aD ⟨fun ⟨a,b⟩=>⟨a,by omega,fun c hc=>?_⟩,fun ⟨a,b,_⟩=>⟨a,by omega⟩⟩;obtain ⟨i,i0,i1,rfl⟩:=Rz hc;exact h2 i i0 (by omega)
theorem bm:Cons Tryz.prog []:=trivial
theorem Y6:BS Tryz.prog DT F5:=bn bm fun s hs=>by
 simp only [GG,true_and,and_true,ne_eq,Int.reduceEq,not_false_eq_true,Int.toNat_zero];refine ⟨fun x l=>0<=x/\x<=s.length/\l.length<=x+1/\l++AQ x (s.drop x.toNat)=Aa s,fun x _=>(s.length-x).toNat,⟨by omega,by omega,by simp,by simp [Aa]⟩,fun x l ⟨h0,h1,h2,h3⟩=>?_⟩;dsimp only;refine ⟨fun q=>?_,fun q=>?_⟩
 ·rw [Ie h0 q] at h3;simp only [AQ] at h3;refine ⟨h0,q,fun r=>?_,fun r=>?_⟩
  ·rw [if_pos (eK.1 r)] at h3;refine ⟨by omega,by omega,by omega,⟨by omega,by omega,by simp;omega,by simpa using h3⟩,by omega⟩
  ·rw [if_neg fun e=>r (eK.2 e)] at h3;exact ⟨by omega,⟨by omega,by omega,by omega,h3⟩,by omega⟩
 ·rw [List.drop_of_length_le (by omega)] at h3;simpa [AQ] using h3
theorem JD:BS Tryz.prog CH Fs:=E.JD NH Ov Ow SS RE Nz VD gL Qk KI KE cU Tz Y6
theorem WJ:BS Tryz.prog DI Hl:=H.WK NH Ov Ow
theorem Tt:Cons Tryz.prog []:=trivial
theorem SM:BS Tryz.prog Cc EZ:=Tu Tt fun a b h=>by
 simp only [GG,true_and,and_true,ne_eq,Int.reduceEq,not_false_eq_true,Int.toNat_zero,Ug,sY,JE] at*;refine ⟨fun q e=>q (by rw [e]),fun q=>⟨fun i=>0<=i/\i<=a.length/\ ∀j:Int,0<=j->j<i->gt a j=gt b j,fun i=>(a.length-i).toNat,⟨by omega,by omega,fun j h1 h2=>by omega⟩,fun i ⟨h0,h1,h2⟩=>?_⟩⟩;dsimp only;refine ⟨fun r=>⟨h0,r,h0,by omega,fun t e=>t (by rw [e]),fun t=>⟨by omega,⟨by omega,by omega,fun j j0 j1=>?_⟩,by omega⟩⟩,fun r=>?_⟩
 ·by_cases e:j=i
  ·rw [e];exact Classical.byContradiction t
  ·exact h2 j j0 (by omega)
 ·exact tv (by omega) fun j j0 j1=>h2 j j0 (by omega)
theorem Qj:BS Tryz.prog Du law_TopEngine_ct:=
 have h:=T.sX Mn WT EY Qh JD WJ SM
 ⟨h.1,fun (x:List Int×List Go.Fu.Ask×Int×List Int) hx=>h.2 x (by
  obtain ⟨⟨a1,a2⟩,⟨b1,b2⟩,c,d1,d2⟩:=(hx:ZK topEngine_tys x)
  exact ⟨⟨a1,a2⟩,⟨b1,fun y hy=>by
   obtain ⟨e1,⟨e2,e3,e4,_,e5⟩,e6,e7,_,e8⟩:=b2 y hy;exact ⟨e1,⟨e2,e3,e4,e5⟩,e6,e7,e8⟩⟩,c,d1,d2⟩)⟩
end Go.Proofs.YtlibocgedgdmlaaGreat
end
section
set_option maxRecDepth 100000
namespace Go.Proofs.YtlibocgedgdmlaaGreat
open Go.ChangeShapes Go.WideShapes Go.ChangeAt Go.RowKit Go.Vc
theorem Pv {H:Type} (enc:TypeId×Value->H) (law:BS Tryz.prog 4 (XQ topEngine_tys))
  (W:World) (args:Array Value) (ds gs:List (DataW H)) (before:List MemPlace) (hval: ∀(j:Nat) t v,Tryz.f4.params[j]?=some t->args[j]?=some v->Value.okWide Tryz.prog W .any 0 t v)
  (hW:DataW.Whole enc Tryz.prog Tryz.f4.params.toList Rows.topEngineSpec.vars false W args.toList ds gs before)
  (hz:(DataW.weightsEach Tryz.prog (Tryz.f4.params.toList++Rows.topEngineSpec.plain.varTypes Tryz.prog) (ds++gs)).all (· <=reachBytes)=true):
  Calls Tryz.prog 4 args W fun e W'=> ∃v,e= .returned v/\Rows.topEngineSpec.post enc Tryz.prog Tryz.f4 false true false false W args v W':=
 Y3 (us:=topEngine_tys) (n:=8) (tb:=4) Tryz.params4 (bulk_law H) laid_out (par_ok (by kernel_rfl)) rfl (fun ds h=>match ds,h with | [d0,d1,d2,d3],_=>rfl) (by kernel_rfl) (by kernel_rfl) (by kernel_rfl) (fun x h1 _=>rT law x h1) hval hW hz
theorem Vw (law:BS Tryz.prog 4 (XQ topEngine_tys)):Rows.TopEngineSaid:=
 OpenClaim.holds_of_wide 4 Tryz.f4 rfl rfl rfl rfl rfl rfl rfl ⟨rfl,rfl,rfl,rfl,rfl⟩ rfl rfl rfl rfl rfl (by kernel_rfl) Tryz.func4 (by kernel_rfl)
  (of_decide_eq_true (by kernel_rfl)) (by unfold Func.isWrapper;first | (rw [if_pos (by decide+kernel)];kernel_rfl) | (rw [if_neg (by decide+kernel)];exact ⟨rfl,rfl⟩))
  (fun os started H enc _=>returnsInHanded_of_change_sized (C:=Tryz.checked) own_knob started (by kernel_rfl) Tryz.func4
   (ChangeSpec.witness6 (enc:=enc) (C:=Tryz.checked) false ⟨#[],#[.slice none 0 0,.slice none 0 0,.int .i64 0,.slice none 0 0],[]⟩ 8 (by kernel_rfl) (by kernel_rfl) (by kernel_rfl) (by kernel_rfl))
   fun W base args ds gs before hval hW _ hz _=>Pv enc law W args ds gs before hval hW hz)
theorem topEngine_holds:Rows.TopEngineSaid:=Vw Qj
end Go.Proofs.YtlibocgedgdmlaaGreat
end
