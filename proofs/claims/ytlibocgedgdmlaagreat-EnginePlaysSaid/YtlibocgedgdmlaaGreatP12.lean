/- Part of the proof of enginePlays_holds: the whole is true of every input. Conditions: none. -/
import Derived.Test.YtlibocgedgdmlaaGreatP11
import Derived.RangeFuncLeaves
import Derived.Shelf.SlSortCmp.NoneTotal
import Derived.Shelf.SortM.Plain
import Derived.Shelf.SortM.SortNone
set_option linter.all false
section
namespace Go.Vc
section
variable {P : Program} {E : Env} {fz : Nat -> Prop} {S : AB} {w : World} {N : Nat}
def km (F:Frame):List Nat->List AA->Frame
 | p::ps,x::xs=>km ((p,x)::F) ps xs
 | _,_=>F
structure xH (P:Program) (N:Nat) (L:Loop) (ps:List Nat) (sa sb:Ag):Prop where
 FL:L.params.toList=ps
 ready:L.state= .ready
 we:L.pending=none
 size:L.tmps.size=N
 lt: ∀p∈ps,p<N
 ca: ∃h,comp P N L.assign h=some sa
 cb: ∃h,comp P N L.body h=some sb
theorem ZA: ∀(ps:List Nat) (xs:List AA) (vs:List Value) {F:Frame} {t:Array Value},CH E fz w F t->AZ E fz w xs vs->t.size=N->(∀p∈ps,p<N)->xs.length=ps.length->
  CH E fz w (km F ps xs) ((ps.zip vs).foldl (fun t (x:Nat×Value)=>t.setIfInBounds x.1 x.2) t)/\((ps.zip vs).foldl (fun t (x:Nat×Value)=>t.setIfInBounds x.1 x.2) t).size=N
 | [],[],vs,F,t,hF,hr,hN,hp,hl=>by
  simp only [AZ] at hr;subst hr;exact ⟨hF,hN⟩
 | p::ps,x::xs,vs,F,t,hF,hr,hN,hp,hl=>by
  simp only [AZ] at hr;obtain ⟨v,us,rfl,h1,h2⟩:=hr;have h3:=Ww (d:=some p) (a:=({tmps:=t,defers:=[]}:Act)) hF h1 (by simp [cZ,hN,hp p (List.mem_cons_self ..)]);exact ZA ps xs us h3 h2 (by simp [Act.put,hN]) (fun q hq=>hp q (List.mem_cons_of_mem _ hq)) (by simpa using hl)
 | [],x::xs,_,_,_,_,_,_,_,hl=>by simp at hl
 | p::ps,[],_,_,_,_,_,_,_,hl=>by simp at hl
theorem St.aside (st:St E fz S w) {b:Nat} {o:Obj} (hno: ¬Own E S b) (hfz: ¬fz b):St E fz S (w.putObj b o):=by
 have hk: ∀k,k≠b->(w.putObj b o).heap[k]?=w.heap[k]?:=fun k h=>World.putObj_heap_other h;refine ⟨fun l o' hl=>(st.ok l o' hl).mono (fun _ _ h=>h) (fun _ h=>h) (fun k hk'=>hk k fun e=>hfz (e▸hk')) fun k hk'=>⟨hk k fun e=>hno ⟨l,o',hl,e▸hk'⟩,(st.Ey ⟨o',hl,hk'⟩).2⟩,st.sep,fun k h=>by rw [World.putObj_size];exact st.Gi k h,st.fresh⟩
theorem ak {p b:Nat} {ob:Ob} (st:St E fz S w) (hp:S[p]?=some ob) (hb:AU E ob=some b): ¬Own E (S.set p .dead) b:=by
 rintro ⟨l,o,h1,h2⟩;by_cases e:l=p
 ·subst e;rw [List.getElem?_set_self (List.getElem?_eq_some_iff.1 hp).1] at h1;cases h1;simp [AU] at h2
 ·rw [List.getElem?_set_ne (Ne.symm e)] at h1;exact e (st.sep _ _ _ ⟨o,h1,h2⟩ ⟨ob,hp,hb⟩)
theorem St.kill (st:St E fz S w) {p b:Nat} {ob:Ob} {o:Obj} (hp:S[p]?=some ob) (hb:AU E ob=some b):St E fz (S.set p .dead) (w.putObj b o)/\Ext E fz S w E fz (S.set p .dead) (w.putObj b o):=
 st.fy p .dead (fun _ _ h=>h) st.fresh (fun l' hl'=>by rw [List.getElem?_set_ne (Ne.symm hl')]) (List.getElem?_set_self (List.getElem?_eq_some_iff.1 hp).1) (by rw [World.putObj_size];exact Nat.le_refl _)
  (fun k _ hn=>World.putObj_heap_other fun e=>hn ⟨ob,hp,e▸hb⟩) (fun k hk=>by simp [AU] at hk) trivial rfl rfl (Tp.of rfl (Nat.le_refl _))
theorem St.vV (st:St E fz S w) {p b:Nat} {ob:Ob} {o:Obj} (hp:S[p]?=some .dead) (hno: ¬Own E S b) (hfz: ¬fz b) (hob:AU E ob=some b) (hok:Ql E fz (w.putObj b o) ob):St E fz (S.set p ob) (w.putObj b o):=by
 have ha:=st.aside (o:=o) hno hfz;have hlt:=(List.getElem?_eq_some_iff.1 hp).1;have back: ∀l k,l≠p->Dh E (S.set p ob) l k->Dh E S l k:=fun l k e ⟨o',h1,h2⟩=>by
  rw [List.getElem?_set_ne (Ne.symm e)] at h1;exact ⟨o',h1,h2⟩
 have at_p: ∀k,Dh E (S.set p ob) p k->k=b:=fun k ⟨o',h1,h2⟩=>by
  rw [List.getElem?_set_self hlt] at h1;cases h1;rw [hob] at h2;cases h2;rfl
 refine ⟨fun l o' hl=>?_,fun l l' k h1 h2=>?_,ha.Gi,ha.fresh⟩
 ·by_cases e:l=p
  ·subst e;rw [List.getElem?_set_self hlt] at hl;cases hl;exact hok
  ·rw [List.getElem?_set_ne (Ne.symm e)] at hl;exact ha.ok l o' hl
 ·by_cases e1:l=p<;>by_cases e2:l'=p
  ·rw [e1,e2]
  ·subst e1;have:=at_p k h1;subst this;exact absurd ⟨l',back _ _ e2 h2⟩ hno
  ·subst e2;have:=at_p k h2;subst this;exact absurd ⟨l,back _ _ e1 h1⟩ hno
  ·exact st.sep _ _ _ (back _ _ e1 h1) (back _ _ e2 h2)
theorem LW.of (hD:Om P N) {L:Loop} {ps:List Nat} {sa sb:Ag} {b p:Nat} {F:Frame} {args:List AA} {K:AA->AB->Prop} (hL:xH P N L ps sa sb) (hp:S[p]?=some (.HD b L F)) (hl:args.length=ps.length)
  {Q1 Q2:Be->Frame->AB->Prop} (h:vc P sa Q1 (km F ps args) S) (h1: ∀e F1 S1,Q1 e F1 S1->e= .normal/\S1[p]?=some (.HD b L F)/\vc P sb Q2 F1 (S1.set p .dead)) (h2: ∀e F2 S2,Q2 e F2 S2->e= .normal/\S2[p]?=some .dead/\K (.bool true) (S2.set p (.HD b L F))):LW P b args S K:=by
 refine ⟨fun E fz w vals st hrel=>?_⟩;obtain ⟨k1,k2,k3,k4,k5⟩:=st.ok p _ hp;obtain ⟨ha,hca⟩:=hL.ca;obtain ⟨hb,hcb⟩:=hL.cb;have hvl:=hrel.length;have FL:=hL.FL;have hz:(L.params.zip vals.toArray).foldl (fun (tmps:Array Value) (x:Nat×Value)=>tmps.setIfInBounds x.1 x.2) L.tmps=((ps.zip vals).foldl (fun t (x:Nat×Value)=>t.setIfInBounds x.1 x.2) L.tmps):=by
  rw [<-Array.foldl_toList,Array.toList_zip,FL]
 obtain ⟨hF1,hN1⟩:=ZA ps args vals (F:=F) (t:=L.tmps) k4 hrel hL.size hL.lt hl;refine ⟨L.fn,_,L.assign,L.body,run_yield k1 (by rw [<-Array.length_toList,<-Array.length_toList,FL];simp only;omega),roundIn_of_wpIn trivial ?_⟩;have hz':(Array.foldl (fun tmps x=>match x with | (t,a)=>tmps.setIfInBounds t a) L.tmps (L.params.zip vals.toArray))=((ps.zip vals).foldl (fun t (x:Nat×Value)=>t.setIfInBounds x.1 x.2) L.tmps):=hz;rw [hz'];refine wpIn_mono (Ee (rr:=some b) hD L.assign _ sa hca (a:={tmps:=_,defers:=[]}) st hF1 hN1 h) ?_;rintro e a1 w1 hq;cases e<;>simp only [Qk] at hq<;>first | exact hq.elim | (obtain ⟨F1,S1,E1,fz1,h0,_⟩:=hq;cases (h1 _ _ _ h0).1;done) | skip
 obtain ⟨F1,S1,E1,fz1,hq1,x1,st1,r1,n1,d1,_⟩:=hq;obtain ⟨_,hp1,hb1⟩:=h1 _ _ _ hq1;obtain ⟨m1,m2,m3,m4,m5⟩:=st1.ok p _ hp1;refine ⟨_,run_beginRound m1 m2,?_⟩;obtain ⟨st2,x2⟩:=st1.kill (o:= .loop {L with state:= .busy}) hp1 (show AU E1 (.HD b L F)=some b from rfl);refine wpIn_mono (Ee (rr:=some b) hD L.body _ sb hcb st2 (CH.mono st1 x2 r1) n1 hb1) ?_;rintro e a2 w3 hq;cases e<;>simp only [Qk] at hq<;>first | exact hq.elim | (obtain ⟨F1,S1,E1,fz1,h0,_⟩:=hq;cases (h2 _ _ _ h0).1;done) | skip
 obtain ⟨F3,S3,E3,fz3,hq2,x3,st3,r3,n3,d3,_⟩:=hq;obtain ⟨_,hp3,hk⟩:=h2 _ _ _ hq2;have hlt1:b<w1.heap.size:=(Array.getElem?_eq_some_iff.1 m1).1;have no2:=ak st1 hp1 (show AU E1 (.HD b L F)=some b from rfl);have h3:w3.heap[b]?=some (.loop {L with state:= .busy}):=by
  rw [x3.AW b (by rw [World.putObj_size];exact hlt1) no2];exact World.putObj_heap_same hlt1
 have hlt3:b<w3.heap.size:=(Array.getElem?_eq_some_iff.1 h3).1;have no3: ¬Own E3 S3 b:=fun q=>(x3.own b q).elim no2 fun q=>by rw [World.putObj_size] at q;omega
 have nf3: ¬fz3 b:=fun q=>(x3.IE b q).elim m5 fun q=>q.elim no2 fun q=>by rw [World.putObj_size] at q;omega
 have hLe:({({L with state:= .busy}:Loop) with state:=if (none:Option Code).isNone then .ready else .done,pending:=none}:Loop)=L:=by
  have a1:=hL.ready;have a2:=hL.we;cases L;simp only at a1 a2;subst a1 a2;rfl
 have hre:=run_endRound (P:=P) none h3;rw [hLe] at hre;have xx:=(x1.trans x2).trans x3;have st4:St E3 fz3 (S3.set p (.HD b L F)) (w3.putObj b (.loop L)):=by
  refine st3.vV hp3 no3 nf3 rfl ⟨World.putObj_heap_same hlt3,hL.ready,hL.we,fun n=>?_,nf3⟩;have:=st.rel xx (k4 n);exact Rel.mono (fun _ _ h=>h) (fun _ h=>h) (fun k hk'=>World.putObj_heap_other (r:=b) fun e=>nf3 (by subst e;exact hk')) _ this
 have ob:Own E S b:=⟨p,_,hp,rfl⟩
 have x4:Ext E fz S w E3 fz3 (S3.set p (.HD b L F)) (w3.putObj b (.loop L)):=by
  refine ⟨xx.env,xx.Yf,xx.IE,fun k hk' hn=>?_,fun k ⟨l,o,q1,q2⟩=>?_,by rw [World.putObj_size];exact xx.size,xx.os,xx.output,xx.tape⟩
  ·rw [World.putObj_heap_other (r:=b) fun e=>hn (by subst e;exact ob)];exact xx.AW k hk' hn
  ·by_cases e:l=p
   ·subst e;rw [List.getElem?_set_self (List.getElem?_eq_some_iff.1 hp3).1] at q1;cases q1;simp [AU] at q2;subst q2;exact .inl ob
   ·rw [List.getElem?_set_ne (Ne.symm e)] at q1;exact xx.own k ⟨l,o,q1,q2⟩
 exact ⟨_,_,hre,.bool true,_,_,E3,fz3,rfl,x4,st4,by simp [Rel],hk⟩
inductive YG where
 | xq (x:YG) (y:Ag)
 | xt (x:Ag) (y:YG)
 | block (id:Nat) (x:YG)
 | xp (g:AO) (ps:List Nat) (sa sb:Ag)
 deriving Inhabited
def yA:Option Nat->List Deferred
 | none=>[]
 | some D=>[{target:= .collected D,args:= #[]}]
def Ml (N:Nat) (E:Env) (fz:Nat->Prop) (S:AB) (w:World) (a:Act) (K:Frame->AB->Prop) (a':Act) (w':World):Prop:=
 ∃F' S' E' fz' mk,K F' S'/\Ext E fz S w E' fz' S' w'/\St E' fz' S' w'/\CH E' fz' w' F' a'.tmps/\a'.tmps.size=N/\a'.defers=yA mk++a.defers/\
  ∀D,mk=some D->w.heap.size<=D/\w'.heap[D]?=some (.deferred (some []))/\ ¬Own E' S' D/\ ¬fz' D
def xE (P:Program) (N:Nat):YG->(Be->Frame->AB->Prop)->Frame->AB->Prop
 | .xq x y,Q,F,S=>xE P N x (Be.D_ (vc P y Q) Q) F S
 | .xt x y,Q,F,S=>vc P x (Be.D_ (xE P N y Q) Q) F S
 | .block id x,Q,F,S=>xE P N x (Be.Hr id Q) F S
 | .xp g ps sa sb,Q,F,S=> ∃gf cap,rd F g= .fn (.func gf) [] cap/\DC P gf=true/\ ∀b L,xH P N L ps sa sb->
   AV P gf (.fn (.yield b) [] []::cap) (S++[.HD b L F]) (fun r S'=>S'[S.length]?=some (.HD b L F)/\Q .normal F (S'.set S.length .dead))
theorem IX.m {a a':Act} {W:List Nat} {K:Frame->AB->Prop} {w':World} (h:IX N E fz S w a W K a' w'):Ml N E fz S w a K a' w':=by
 obtain ⟨F',S',E',fz',q1,q2,q3,q4,q5,q6,_⟩:=h;exact ⟨F',S',E',fz',none,q1,q2,q3,q4,q5,q6,fun D h=>by cases h⟩
theorem Ml.step {a a1 a':Act} {K':Frame->AB->Prop} {w1 w':World} {W:List Nat} {S1:AB} {E1:Env} {fz1:Nat->Prop} {mk:Option Nat} (q2:Ext E fz S w E1 fz1 S1 w1) (q6:a1.defers=yA mk++a.defers)
  (q7: ∀D,mk=some D->w.heap.size<=D/\w1.heap[D]?=some (.deferred (some []))/\ ¬Own E1 S1 D/\ ¬fz1 D) (h:IX N E1 fz1 S1 w1 a1 W K' a' w'):Ml N E fz S w a K' a' w':=by
 obtain ⟨F2,S2,E2,fz2,p1,p2,p3,p4,p5,p6,_⟩:=h;refine ⟨F2,S2,E2,fz2,mk,p1,q2.trans p2,p3,p4,p5,by rw [p6,q6],fun D hD=>?_⟩;obtain ⟨d1,d2,d3,d4⟩:=q7 D hD;have hlt:=(Array.getElem?_eq_some_iff.1 d2).1;exact ⟨d1,by rw [p2.AW D hlt d3];exact d2,fun q=>(p2.own D q).elim d3 fun q=>by omega,fun q=>(p2.IE D q).elim d4 fun q=>q.elim d3 fun q=>by omega⟩
theorem Ml.pre {a a1 a':Act} {K':Frame->AB->Prop} {w1 w':World} {S1:AB} {E1:Env} {fz1:Nat->Prop} (q2:Ext E fz S w E1 fz1 S1 w1) (q6:a1.defers=a.defers) (h:Ml N E1 fz1 S1 w1 a1 K' a' w'):Ml N E fz S w a K' a' w':=by
 obtain ⟨F2,S2,E2,fz2,mk,p1,p2,p3,p4,p5,p6,p7⟩:=h;exact ⟨F2,S2,E2,fz2,mk,p1,q2.trans p2,p3,p4,p5,by rw [p6,q6],fun D hD=>by obtain ⟨d1,d⟩:=p7 D hD;exact ⟨Nat.le_trans q2.size d1,d⟩⟩
theorem Ml.mono {a a':Act} {K K':Frame->AB->Prop} {w':World} (h:Ml N E fz S w a K a' w') (hk: ∀F S,K F S->K' F S):Ml N E fz S w a K' a' w':=by
 obtain ⟨F2,S2,E2,fz2,mk,p1,p⟩:=h;exact ⟨F2,S2,E2,fz2,mk,hk _ _ p1,p⟩
def vl (P:Program) (N:Nat) (c:YG) (res:List LS) (args:List AA) (S:AB) (R:AA->AB->Prop):Prop:=
 xE P N c (fun e F' S'=>match e with
  | .normal=>Ju F' S' (fun xs=>TY xs fun r=>R r S') res
  | .ret=>Ju F' S' (fun xs=>TY xs fun r=>R r S') res
  | _=>False) (Ui 0 args) S
structure yH (P:Program) (f:FuncId) (N:Nat) (c:YG) (r:List LS):Prop where
 Hs:DC P f=true
 out: ∀ {args:List AA} {S:AB} {R:AA->AB->Prop},args.length<=N->vl P N c r args S R->AV P f args S R
end
end Go.Vc
end
section
namespace Go.Vc
open HM
def HY (P:Program) (b:Nat) (args:List AA) (m:HM) (R:AA->HM->Prop):Prop:=
 ∀S mf,Has S (m+mf)->LW P b args S fun r S'=> ∃m',R r m'/\Has S' (m'+mf)
theorem HY.use {P:Program} {b:Nat} {args:List AA} {m a:HM} {R:AA->HM->Prop} {g:HM->HM} [i:Part m a g] (hc:HY P b args a R) {S:AB} (h:Has S m) {K:AA->AB->Prop} (hk: ∀r m' S',R r m'->Has S' (g m')->K r S'):LW P b args S K:=by
 obtain ⟨R0,hR⟩:=i.split;have h:=i.eq▸h;rw [hR] at h;exact (hc S R0 h).mono fun r S' ⟨m',h1,h2⟩=>hk r m' S' h1 (by rw [hR];exact h2)
theorem HC.more {P:Program} {f:FuncId} {args:List AA} {R:AA->HM->Prop} (h:HC P f args HM.nil R) {S:AB} {m:HM} (hS:Has S m) {K:AA->AB->Prop} (hk: ∀r m' S',R r m'->Has S' (m'+m)->K r S'):AV P f args S K:=
 (h S m (by rw [HM.nil_add];exact hS)).mono fun r S' ⟨m',h1,h2⟩=>hk r m' S' h1 h2
def uG (k:Nat) (x:AA) (cells:List AA) (n:Nat) (m:HM):Prop:=(x= .AL/\n=0/\cells=[]/\m=HM.nil)\/ ∃p v,x= .sl p v 0 n/\m=pt p (.row v k cells)/\cells.length=n*k
theorem uG.r {k:Nat} {x:AA} {cells:List AA} {n:Nat} {m:HM} (h:uG k x cells n m):Ed k x cells n m:=by
 rcases h with ⟨rfl,rfl,rfl,rfl⟩ | ⟨p,v,rfl,rfl,h⟩
 ·exact .nil
 ·exact Ed.whole h
theorem uG.len {k n:Nat} {x:AA} {cells:List AA} {m:HM} (h:uG k x cells n m):dY false x=some n:=h.r.len
theorem uG.cl {k n:Nat} {x:AA} {cells:List AA} {m:HM} (h:uG k x cells n m):Mu x=some [x]:=h.r.cl
theorem uG.nil {k:Nat}:uG k .AL [] 0 HM.nil:= .inl ⟨rfl,rfl,rfl,rfl⟩
section
variable {P : Program} {N : Nat} {F : Frame} {S : AB} {Q : Be -> Frame -> AB -> Prop}
def wO:gE->List AA->Option AA
 | .pZ,[.str s,.int .u8 c]=>some (.int .i64 (Lib.indexByte s c.toNat.toUInt8))
 | _,_=>none
theorem wX {K:AA->AB->Prop} {k:gE} {yV:List AO} {r:AA} (hx:wO k (yV.map (rd F))=some r) (h:K r S):AF P F S K (.ext k yV):=by
 refine ND ?_;generalize yV.map (rd F)=xs at*;unfold wO at hx;split at hx
 ·cases hx;exact h
 ·cases hx
theorem HY.round {L:Loop} {ps:List Nat} {sa sb:Ag} {b p:Nat} {args:List AA} {C:HM} {C':HM->Prop} {G:Frame->Prop} (hL:xH P N L ps sa sb) (hl:args.length=ps.length)
  (ha: ∀S,vc P sa (fun e F1 S1=>e= .normal/\S1=S/\G F1) (km F ps args) S)
  (hb: ∀F1 S mf,G F1->Has S (C+mf)->vc P sb (fun e F2 S2=>e= .normal/\ ∃m',C' m'/\Has S2 (m'+mf)) F1 S):
  HY P b args (pt p (.HD b L F)+C) fun r m'=>r= .bool true/\ ∃c,C' c/\m'=pt p (.HD b L F)+c:=by
 intro S mf hS;have hS1:Has S (pt p (.HD b L F)+(C+mf)):=hS.eq (by ac_rfl);have hd:Has (S.set p .dead) (C+(pt p .dead+mf)):=(hS1.put .dead).eq (by ac_rfl);refine LW.of (QB P N) hL hS1.get hl (ha S) (Q2:=fun e F2 S2=>e= .normal/\ ∃m',C' m'/\Has S2 (m'+(pt p .dead+mf))) ?_ ?_
 ·rintro e F1 S1 ⟨rfl,rfl,hG⟩;exact ⟨rfl,hS1.get,hb F1 _ _ hG hd⟩
 ·rintro e F2 S2 ⟨rfl,m',h1,h2⟩;have h3:Has S2 (pt p .dead+(m'+mf)):=h2.eq (by ac_rfl);exact ⟨rfl,h3.get,_,⟨rfl,m',h1,rfl⟩,(h3.put _).eq (by ac_rfl)⟩
end
end Go.Vc
end
section
namespace Go.Vc
open HM
theorem Has.map {l v:Nat} {S:AB} {m:HM} {o:Ob} {f:Ob->HM} {es:List (AA×AA)} [i:At m l o f] (h:Has S m) {K:List (AA×AA)->Prop} (ho:o= .DA v es) (hk:K es):fm S l v K:=C7.2 ⟨es,by rw [h.here (l:=l),ho],hk⟩
def Keys (q:Ni) (es:List (AA×AA)):Prop:= ∀e∈es,I5 q e.1=true
theorem Keys.nil {q:Ni}:Keys q []:=fun _ h=>by cases h
theorem Keys.put {q:Ni} {es:List (AA×AA)} {y x:AA} (h:Keys q es) (hy:I5 q y=true):Keys q (H8 y x es):=fun e he=>by
 unfold H8 at he;split at he
 ·rcases List.mem_or_eq_of_mem_set he with he | he
  ·exact h e he
  ·rw [he];exact hy
 ·rcases List.mem_append.1 he with he | he
  ·exact h e he
  ·simp only [List.mem_singleton] at he;rw [he];exact hy
def Yp (ok:Bool) (d y:AA) (es:List (AA×AA)):AA:=match IF y es with | some (_,u)=>UJ ok u true | none=>UJ ok d false
theorem ix {ok:Bool} {d y u:AA} {es:List (AA×AA)} {j:Nat} (h:IF y es=some (j,u)):Yp ok d y es=UJ ok u true:=by unfold Yp;rw [h]
theorem iw {ok:Bool} {d y:AA} {es:List (AA×AA)} (h:IF y es=none):Yp ok d y es=UJ ok d false:=by unfold Yp;rw [h]
theorem UF {y x u:AA} {es:List (AA×AA)} {j:Nat} (h:IF y es=some (j,u)):H8 y x es=es.set j (y,x):=by unfold H8;rw [h]
theorem dR {y x:AA} {es:List (AA×AA)} (h:IF y es=none):H8 y x es=es++[(y,x)]:=by unfold H8;rw [h]
section
variable {P : Program} {F : Frame} {S : AB} {K : AA -> AB -> Prop} {m : HM} {x y z : AO} {l v : Nat} {o : Ob} {f : Ob -> HM} {es : List (AA × AA)} {q : Ni}
theorem wc {k k':IntKind} {a b:Int} {eq:lN} (hx:rd F x= .int k a) (hy:rd F y= .int k' b) (hb:0<=b) (h:K (.int k (a.fdiv (2 ^ (min b.toNat k.bits)))) S):AF P F S K (.bin eq .shr x y):=by
 refine AD.2 (AD.2 ?_);rw [hx,hy];exact ⟨hb,h⟩
theorem tU (hS:Has S m) (h: ∀v l S',Has S' (pt l (.DA v [])+m)->K (.map l v) S'):AF P F S K .NR:=fun v=>hS.SG fun l S'=>h v l S'
theorem aj {ok:Bool} {d:AA} (hS:Has S m) (hx:rd F x= .map l v) (hq:I5 q (rd F y)=true) [i:At m l o f] (ho:o= .DA v es) (hk:Keys q es) (h:K (Yp ok d (rd F y) es) S):AF P F S K (.LL q ok d x y):=by
 refine AD.2 (AD.2 ⟨hq,?_⟩);rw [hx];exact hS.map ho ⟨hk,h⟩
theorem qP (hS:Has S m) (hx:rd F x= .map l v) (hq:I5 q (rd F y)=true) [i:At m l o f] (ho:o= .DA v es) (hk:Keys q es) (h: ∀S',Has S' (f (.DA v (H8 (rd F y) (rd F z) es)))->K .C3 S'):AF P F S K (.aZ q x y z):=by
 refine AD.2 (AD.2 (AD.2 ⟨hq,?_⟩));rw [hx];exact hS.map ho ⟨hk,hS.rZ fun S'=>h S'⟩
end
end Go.Vc
end
section
namespace Go.Vc
open HM
theorem Has.iter {l v mv since last:Nat} {seen:List Nat} {S:AB} {m:HM} {o:Ob} {f:Ob->HM} [i:At m l o f] (h:Has S m) {K:Nat->Nat->Nat->List Nat->Prop} (ho:o= .FO v mv since last seen) (hk:K mv since last seen):fj S l v K:=JO.2 ⟨mv,since,last,seen,by rw [h.here (l:=l),ho],hk⟩
section
variable {P : Program} {F : Frame} {S : AB} {K : AA -> AB -> Prop} {m : HM} {x y z : AO} {l v : Nat} {o : Ob} {f : Ob -> HM} {es : List (AA × AA)}
theorem qN (hS:Has S m) (hx:rd F x= .map l v) [i:At m l o f] (ho:o= .DA v es) (h: ∀v' l' S',Has S' (pt l' (.FO v' v es.length es.length [])+m)->K (.ptr l' v' 0) S'):AF P F S K (.Ll x):=by
 refine AD.2 ?_;rw [hx];exact hS.map ho fun v'=>hS.SG fun l' S'=>h v' l' S'
theorem tW {mv since last lm:Nat} {seen:List Nat} {o':Ob} {f':Ob->HM} (hS:Has S m) (hx:rd F x= .ptr l v 0) [i:At m l o f] (ho:o= .FO v mv since last seen) [i':At m lm o' f'] (ho':o'= .DA mv es) (hl:es.length=since)
  (h0:(∀i:Nat,i<es.length->i∈seen)->K (.DH [.bool false]) S) (h1: ∀(i:Nat) (e:AA×AA) S',es[i]?=some e->i ∉ seen->Has S' (f (.FO v mv since es.length (seen++[i])))->K (.DH [.bool true,e.1,e.2]) S'):AF P F S K (.UK x):=by
 refine AD.2 ?_;rw [hx];exact hS.iter ho ⟨lm,es,by rw [hS.here (l:=lm),ho'],hl,h0,fun i e q1 q2=>hS.rZ fun S' hS'=>h1 i e S' q1 q2 hS'⟩
theorem qL {mv since lm j:Nat} {seen:List Nat} {o':Ob} {f':Ob->HM} {e:AA×AA} (hS:Has S m) (hx:rd F x= .ptr l v 0) [i:At m l o f] (ho:o= .FO v mv since es.length (seen++[j])) [i':At m lm o' f'] (ho':o'= .DA mv es) (he:es[j]?=some e)
  (h:K (.DH [e.1,e.2]) S):AF P F S K (.OA x):=by
 refine AD.2 ?_;rw [hx];exact hS.iter ho ⟨lm,es,j,e,by rw [hS.here (l:=lm),ho'],rfl,by simp,he,h⟩
theorem vH {l v off:Nat} {neg:Bool} (hx:rd F x= .ptr l v off) (hy:rd F y= .B4) (h:K (.bool neg) S):AF P F S K (.peq neg x y):=by
 refine AD.2 (AD.2 ?_);rw [hx,hy];exact h
theorem vG {l v off:Nat} {neg:Bool} (hx:rd F x= .B4) (hy:rd F y= .ptr l v off) (h:K (.bool neg) S):AF P F S K (.peq neg x y):=by
 refine AD.2 (AD.2 ?_);rw [hx,hy];exact h
theorem vI {neg:Bool} (hx:rd F x= .B4) (hy:rd F y= .B4) (h:K (.bool (!neg)) S):AF P F S K (.peq neg x y):=by
 refine AD.2 (AD.2 ?_);rw [hx,hy];exact h
theorem vF {t:TypeId} (h:K (.iface t (rd F x)) S):AF P F S K (.WR t x):=AD.2 h
end
section
variable {P : Program} {N : Nat} {F : Frame} {S : AB} {Q : Be -> Frame -> AB -> Prop}
end
theorem Has.wS {S:AB} {m:HM} (h:Has S m):Has (S++List.replicate 3 .dead) (pt S.length .dead+(pt (S.length+1) .dead+(pt (S.length+2) .dead+m))):=by
 have h1:=h.more .dead;have h2:=h1.more .dead;have h3:=h2.more .dead;simp only [List.length_append,List.length_cons,List.length_nil,Nat.zero_add,List.append_assoc,List.cons_append,List.nil_append,Nat.add_assoc,Nat.reduceAdd] at h3;refine Has.eq h3 ?_
 ac_rfl
theorem sJ {P:Program} {F:Frame} {S:AB} {Q:Be->Frame->AB->Prop} {l:List C9} {m:HM} {j:Nat} {π ks:List Nat} (hS:Has S m) (h: ∀n S',S'.length=n+3->Has S' (pt n .dead+(pt (n+1) .dead+(pt (n+2) .dead+m)))->Aj P (fun F' S'=>Kh ks F' fun F''=>Q .normal F'' S') j l F S'):vc P (.ops l (some (j,3,π)) ks) Q F S:=
 gS (h S.length _ (by simp) hS.wS)
section
variable {P : Program} {F : Frame} {S : AB} {m : HM} {K : AA -> AB -> Prop} {l d k n : Nat} {f : Ob -> HM} {x y : AO}
theorem Has.fq {o o':Ob} [i:At m l o f] (h:Has S m):Has (S.set l o') (f o'):=by
 obtain ⟨R,hR⟩:=i.split;have h:=i.eq▸h;rw [hR] at h;rw [hR];exact h.put o'
theorem qK (hS:Has S m) (hL:S.length=l+d) (hd:0<d) [i:At m l .dead f] (h: ∀v S',Has S' (f (.DA v []))->S'.length=l+d->K (.map l v) S'):AF P F S K (.J5 d):=by
 have e:S.length-d=l:=by omega
 refine ⟨hd,by omega,by rw [e];exact hS.here,fun v=>?_⟩;rw [e];exact h v _ hS.fq (by rw [List.length_set];exact hL)
theorem qE {fid:FuncId} {xs zs:List AO} (hS:Has S m) (hL:S.length=l+d) (hd:0<d) [i:At m l .dead f] (hc:HC P fid (xs.map (rd F)) HM.nil (fun r m'=> ∃l v,r= .ptr l v 0/\m'=pt l (.row v k (zs.map (rd F)))))
  (h: ∀v S',Has S' (f (.row v k (zs.map (rd F))))->S'.length=l+d->K (.ptr l v 0) S'):AF P F S K (.Lf d k fid xs zs):=by
 have e:S.length-d=l:=by omega
 refine Ar.2 (Ar.2 ⟨?_,hd,by omega,by rw [e];exact hS.here,fun v=>?_⟩)
 ·refine (hc [] HM.nil (by rw [HM.nil_add];exact Has.nil)).bh fun r S' ⟨m',⟨l,v,e1,e2⟩,h2⟩=>?_;subst e1;subst e2;rw [HM.add_nil] at h2;have hg:=Has.here (l:=l) h2;exact ⟨.ptr 0 v 0,fun _=>l,[.row v k (zs.map (rd F))],.ptr,⟨fun a b h1 h2 _=>by simp at h1 h2;omega,fun a o h=>by
   cases a with
   | zero=>simp at h;subst h;exact ⟨_,hg,.refl _⟩
   | succ a=>simp at h⟩,v,rfl,rfl⟩
 ·rw [e];exact h v _ hS.fq (by rw [List.length_set];exact hL)
theorem tV {b:Nat} {z:List AA} {ik:IntKind} (hS:Has S m) (hL:S.length=l+d) (hd:0<d) [i:At m l .dead f] (hx:rd F x= .int ik (n:Int)) (hy:rd F y=rd F x) (hb:b*n<=140737488355328)
  (h: ∀v S',Has S' (f (.row v k (List.replicate n z).flatten))->S'.length=l+d->K (.sl l v 0 n) S'):AF P F S K (.NS d k b z x y):=by
 have e:S.length-d=l:=by omega
 refine AD.2 (AD.2 ?_);rw [hy,hx];refine ⟨n,rfl,rfl,hb,hd,by omega,by rw [e];exact hS.here,fun v=>?_⟩;rw [e];exact h v _ hS.fq (by rw [List.length_set];exact hL)
theorem vC {b len n' v off:Nat} {ys cs:List AA} {o:Ob} (hS:Has S m) (hx:rd F x= .sl l v off len) (hy:DL m k (rd F y) n' ys) (h0:0<n') [i:At m l o f] (ho:o= .row v k cs) (hle:off+len*k<=cs.length) (hb:(len+n')*b<=140737488355328)
  (h1: ∀S',Has S' (f (.row v k (cs.take (off+len*k)++ys)))->K (.sl l v off (len+n')) S') (h2: ∀v' l' S',Has S' (pt l' (.row v' k (A6 cs off (len*k)++ys))+m)->K (.sl l' v' 0 (len+n')) S'):AF P F S K (.XQ k b x y):=by
 refine AD.2 (AD.2 (hy.ok hS ⟨h0,?_⟩));rw [hx];exact hS.row ho ⟨rfl,hle,hb,hS.rZ fun S'=>h1 S',fun v'=>hS.SG fun l' S'=>h2 v' l' S'⟩
end
end Go.Vc
end
section
namespace Go.Vc
open HM
def UH (Z:List Nat) (S:AB):AB:=S.mapIdx fun l o=>if l∈Z then .dead else o
def N7 (Z:List Nat) (S:AB):AB:=S.mapIdx fun l o=>if l∈Z then o else .dead
theorem dU {Z:List Nat} {S:AB} {l:Nat} {o:Ob} (h:(UH Z S)[l]?=some o):(l∈Z/\o= .dead)\/(l ∉ Z/\S[l]?=some o):=by
  unfold UH at h;rw [List.getElem?_mapIdx] at h;obtain ⟨o',h1,h2⟩:=Option.map_eq_some_iff.1 h;by_cases c:l∈Z
  · rw [if_pos c] at h2;exact .inl ⟨c,h2.symm⟩
  · rw [if_neg c] at h2;exact .inr ⟨c,by rw [<-h2];exact h1⟩
theorem dP {Z:List Nat} {S:AB} {l:Nat} {o:Ob} (h:(N7 Z S)[l]?=some o):(l ∉ Z/\o= .dead)\/(l∈Z/\S[l]?=some o):=by
  unfold N7 at h;rw [List.getElem?_mapIdx] at h;obtain ⟨o',h1,h2⟩:=Option.map_eq_some_iff.1 h;by_cases c:l∈Z
  · rw [if_pos c] at h2;exact .inr ⟨c,by rw [<-h2];exact h1⟩
  · rw [if_neg c] at h2;exact .inl ⟨c,h2.symm⟩
theorem Sq {Z:List Nat} {S:AB} {E:Env} {l b:Nat} (h:Dh E (UH Z S) l b):l ∉ Z/\Dh E S l b:=by
  obtain ⟨o,h1,h2⟩:=h;rcases dU h1 with ⟨_,rfl⟩ | ⟨c,h3⟩
  · cases h2
  · exact ⟨c,o,h3,h2⟩
theorem MB {Z:List Nat} {S:AB} {E:Env} {l b:Nat} (h:Dh E (N7 Z S) l b):l∈Z/\Dh E S l b:=by
  obtain ⟨o,h1,h2⟩:=h;rcases dP h1 with ⟨_,rfl⟩ | ⟨c,h3⟩
  · cases h2
  · exact ⟨c,o,h3,h2⟩
section
variable {E : Env} {fz : Nat -> Prop} {S : AB} {w : World} {P : Program} {f : FuncId} {args : List AA}
theorem St.N7 (Z:List Nat) (st:St E fz S w):St E fz (Go.Vc.N7 Z S) w:=
  ⟨fun l o h=>by
    rcases dP h with ⟨_,rfl⟩ | ⟨_,h⟩
    · trivial
    · exact st.ok l o h,fun l l' b h h'=>st.sep l l' b (MB h).2 (MB h').2,st.Gi,st.fresh⟩
theorem St.UH (Z:List Nat) (st:St E fz S w):St E (frozen E fz (Go.Vc.N7 Z S)) (Go.Vc.UH Z S) w:=
  ⟨fun l o h=>by
    rcases dU h with ⟨_,rfl⟩ | ⟨c,h⟩
    · trivial
    · refine (st.ok l o h).mono (fun _ _ h=>h) (fun _ h=>.inl h) (fun _ _=>rfl) fun b hb=>⟨rfl,?_⟩
      rintro (hf | ⟨l',ho⟩)
      · exact (st.Ey ⟨o,h,hb⟩).2 hf
      · obtain ⟨h1,h2⟩:=MB ho
        exact c (st.sep l l' b ⟨o,h,hb⟩ h2▸h1),
   fun l l' b h h'=>st.sep l l' b (Sq h).2 (Sq h').2,fun b hb=>hb.elim (st.Gi b) fun ⟨l,h⟩=>(st.Ey (MB h).2).1,st.fresh⟩
theorem AV.sg {R K:AA->AB->Prop} (n:Nat) (h:AV P f args S R) (hK: ∀r S',R r S'-> ∃Z,K (Bc (N7 Z S') n r) (UH Z S')):AV P f args S K:=
  ⟨fun E fz w vals st hrel=>(h.out E fz w vals st hrel).mono fun e w' ⟨r,S',v,E',fz',h1,h2,h3,h4,h5⟩=>by
    obtain ⟨Z,hZ⟩:=hK r S' h5;exact ⟨_,_,v,E',frozen E' fz' (N7 Z S'),h1,⟨h2.env,fun b hb=>.inl (h2.Yf b hb),fun b hb=>hb.elim (h2.IE b) fun ⟨l,ho⟩=>.inr (h2.own b ⟨l,(MB ho).2⟩),h2.AW,fun b ⟨l,ho⟩=>h2.own b ⟨l,(Sq ho).2⟩,h2.size,h2.os,h2.output,h2.tape⟩,
      h3.UH Z,QA (h3.N7 Z) n r v h4,hZ⟩⟩
end
theorem HC.freeze {P:Program} {f:FuncId} {args:List AA} {a:HM} {R R2:AA->HM->Prop} (n:Nat) (h:HC P f args a R)
    (hR: ∀r m',R r m'-> ∃mk mz r0,m'=mk+mz/\(∀Sz,Has Sz mz->Bc Sz n r=r0)/\R2 r0 mk):HC P f args a R2:=fun S mf hS=>by
  refine AV.sg n (h S mf hS) fun r S' ⟨m',h1,h2⟩=>?_;obtain ⟨mk,mz,r0,rfl,h3,h4⟩:=hR r m' h1;obtain ⟨x,rfl⟩:=mk.ex;obtain ⟨y,rfl⟩:=mz.ex;obtain ⟨z,rfl⟩:=mf.ex;have h2:Mm S' ((x++y)++z):=h2;have nd:=h2.nd;rw [List.map_append,List.map_append] at nd;have nxy:=List.nodup_append.1 (List.nodup_append.1 nd).1;have nz:=(List.nodup_append.1 nd).2.2;refine ⟨y.map (·.1),of x,?_,?_⟩
  · have e:Bc (N7 (y.map (·.1)) S') n r=r0:=h3 _ (show Mm _ y from ⟨nxy.2.1,fun p hp=>by
      unfold N7;rw [List.getElem?_mapIdx,h2.at_ p (by simp [hp])];simp only [Option.map_some];rw [if_pos (List.mem_map_of_mem hp)]⟩)
    rw [e];exact h4
  · show Mm _ (x++z)
    refine ⟨?_,fun p hp=>?_⟩
    · rw [List.map_append]
      exact List.nodup_append.2 ⟨nxy.1,(List.nodup_append.1 nd).2.1,fun a ha b hb=>nz a (List.mem_append_left _ ha) b hb⟩
    · have hne:p.1 ∉ y.map (·.1):=fun hy=>by
        rcases List.mem_append.1 hp with hp | hp
        · exact nxy.2.2 p.1 (List.mem_map_of_mem hp) p.1 hy rfl
        · exact nz p.1 (List.mem_append_right _ hy) p.1 (List.mem_map_of_mem hp) rfl
      unfold UH;rw [List.getElem?_mapIdx,h2.at_ p (by rcases List.mem_append.1 hp with hp | hp<;>simp [hp])];simp only [Option.map_some];rw [if_neg hne]
theorem HC.wg {P:Program} {f:FuncId} {args:List AA} {S:AB} {m a:HM} {g:HM->HM} {n k:Nat} {cs:List AA} [i:Part m a g] (hc:HC P f args a fun r m'=>(r= .AL/\n=0/\cs=[]/\m'=a)\/ ∃l v,r= .sl l v 0 n/\m'=a+pt l (.row v k cs)) (h:Has S m):
    AV P f args S fun r S'=> ∃v,r= .sl S.length v 0 n/\S'=S++[.row v k cs]:=by
  obtain ⟨R0,hm⟩:=i.split;have h:=i.eq▸h;rw [hm] at h;obtain ⟨mf,h1,h2⟩:=h.rest;have hw:AV P f args S fun r S'=>(r= .AL/\n=0/\cs=[]/\S'=S)\/ ∃v,r= .sl S.length v 0 n/\S'=S++[.row v k cs]:=by
    refine (hc S (R0+mf) (h1.eq (by ac_rfl))).bh ?_;rintro r S' ⟨m',⟨rfl,e1,e2,rfl⟩ | ⟨l,v,rfl,rfl⟩,g2⟩
    · exact ⟨.AL,id,S,PS.refl _,⟨fun _ _ _ _ e=>e,fun l o ho=>⟨o,h2 S' (g2.eq (by ac_rfl)) l o ho,.refl o⟩⟩,.inl ⟨rfl,e1,e2,rfl⟩⟩
    have g3:Has S' (pt l (.row v k cs)+(a+R0+mf)):=g2.eq (by ac_rfl);have g4:=h2 S' g3.right;have hne: ∀(l':Nat) o,S[l']?=some o->l'≠l:=fun l' o ho e=>by
      subst e;have hl:=(List.getElem?_eq_some_iff.1 g3.get).1;have q:=fun o2=>h2 _ (g3.put o2).right l' o ho;have q1:=q .dead;have q2:=q (.row 0 0 []);rw [List.getElem?_set_self hl] at q1 q2;rw [<-q1] at q2;cases q2
    refine ⟨.sl S.length v 0 n,fun j=>if j=S.length then l else j,S++[.row v k cs],PS.sl,⟨fun j j' h1 h2 e=>?_,fun j o ho=>?_⟩,.inr ⟨v,rfl,rfl⟩⟩
    · simp only [List.length_append,List.length_cons,List.length_nil] at h1 h2
      have lt: ∀ {j:Nat},j<S.length->j≠l:=fun {j} hj=>hne j _ (List.getElem?_eq_getElem hj);replace e:(if j=S.length then l else j)=(if j'=S.length then l else j'):=e;split at e<;>split at e
      · omega
      · exact absurd e.symm (lt (by omega))
      · exact absurd e (lt (by omega))
      · exact e
    · by_cases c:j=S.length
      · subst c
        simp at ho;subst ho;exact ⟨_,by simpa using g3.get,.refl _⟩
      · have hj:j<S.length:=by have:=(List.getElem?_eq_some_iff.1 ho).1;simp at this;omega
        rw [List.getElem?_append_left hj] at ho;refine ⟨o,?_,.refl o⟩;simp only [c,if_false];exact g4 j o ho
  refine ⟨fun E fz w vals st hrel=>(hw.out E fz w vals st hrel).mono ?_⟩;rintro e w' ⟨r,S',v,E',fz',he,hx,st',hr,⟨rfl,rfl,rfl,rfl⟩ | ⟨ver,rfl,rfl⟩⟩
  · obtain ⟨ver,E2,p1,p2,p3⟩:=aa st' k
    simp only [Rel] at hr;exact ⟨_,_,v,E2,fz',he,hx.trans p3,p2,by simp only [Rel];exact .inl ⟨trivial,none,hr⟩,ver,rfl,rfl⟩
  · exact ⟨_,_,v,E',fz',he,hx,st',hr,ver,rfl,rfl⟩
section
variable {P : Program} {F : Frame} {S : AB} {K : AA -> AB -> Prop} {m : HM} {l d k n : Nat} {f : Ob -> HM}
theorem tR {fid:FuncId} {xs:List AO} {cs:List AA} (hS:Has S m) (hL:S.length=l+d) (hd:0<d) [i:At m l .dead f] (hc:AV P fid (xs.map (rd F)) S fun r S'=> ∃v,r= .sl S.length v 0 n/\S'=S++[.row v k cs])
    (h: ∀v S',Has S' (f (.row v k cs))->S'.length=l+d->K (.sl l v 0 n) S'):AF P F S K (.Nv d k fid xs):=by
  have e:S.length-d=l:=by omega
  refine Ar.2 ⟨n,cs,hc,hd,by omega,by rw [e];exact hS.here,fun v=>?_⟩;rw [e];exact h v _ hS.fq (by rw [List.length_set];exact hL)
theorem tO {z:List AA} (hS:Has S m) (hL:S.length=l+d) (hd:0<d) [i:At m l .dead f] (h: ∀v S',Has S' (f (.row v k z))->S'.length=l+d->K (.ptr l v 0) S'):AF P F S K (.NN d k z):=by
  have e:S.length-d=l:=by omega
  refine ⟨hd,by omega,by rw [e];exact hS.here,fun v=>?_⟩;rw [e];exact h v _ hS.fq (by rw [List.length_set];exact hL)
theorem tZ {fid:FuncId} {xs:List AO} {r0:AA} (hc:RC P fid (xs.map (rd F)) r0) (h:K r0 S):AF P F S K (.Pr fid xs):=Ar.2 ⟨r0,hc,h⟩
theorem Has.wR (h:Has S m):Has (S++List.replicate 2 .dead) (pt S.length .dead+(pt (S.length+1) .dead+m)):=by
  have h1:=h.more .dead;have h2:=h1.more .dead;simp only [List.length_append,List.length_cons,List.length_nil,Nat.zero_add,List.append_assoc,List.cons_append,List.nil_append] at h2;refine Has.eq h2 ?_
  ac_rfl
theorem sI {Q:Be->Frame->AB->Prop} {gl:List C9} {j:Nat} {π ks:List Nat} (hS:Has S m) (h: ∀n S',S'.length=n+2->Has S' (pt n .dead+(pt (n+1) .dead+m))->Aj P (fun F' S'=>Kh ks F' fun F''=>Q .normal F'' S') j gl F S'):vc P (.ops gl (some (j,2,π)) ks) Q F S:=
  gS (h S.length _ (by simp) hS.wR)
end
end Go.Vc
end
section
namespace Go.Vc
section
variable {P : Program} {F : Frame} {S : AB} {K : Frame -> AB -> Prop} {rest : List C9} {d : Option Nat} {x y : AO} {Lg : List (Nat × Nat × Bool × AO)} {m : HM} {l v off n : Nat} {r : AA} {xs ys cs : List AA}
theorem mv (h:BK P K rest (AK F d (rd F x)) S):BK P K (⟨d,.CD x,none,false,Lg⟩::rest) F S:=AX (Am (Dj h))
theorem nc (hx:rd F x= .ptr l v off) (h:BK P K rest (AK F d (.ptr l v off)) S):BK P K (⟨d,.Fg x,none,false,Lg⟩::rest) F S:=AX (eB hx (Dj h))
theorem fa {n:Nat} (hx:rd F x= .ptr l v n) (h:BK P K rest (AK F d (.ptr l v (n+off))) S):BK P K (⟨d,.Bo off x,none,false,Lg⟩::rest) F S:=AX (kY hx (Dj h))
theorem ld {k:Nat} {ag:Bool} {o:Ob} {f:Ob->HM} (hS:Has S m) (hx:rd F x= .ptr l v off) [i:At m l o f] (ho:o= .row v k cs) (ht:takeN n (cs.drop off)=some xs) (hm:rf ag xs=some r) (h:BK P K rest (AK F d r) S):BK P K (⟨d,.load n ag x,none,false,Lg⟩::rest) F S:=AX (Lm hS hx ho ht hm (Dj h))
theorem ln {b:Bool} (hx:dY b (rd F x)=some n) (h:BK P K rest (AK F d (.int .i64 (n:Int))) S):BK P K (⟨d,.len b x,none,false,Lg⟩::rest) F S:=AX (Ri hx (Dj h))
theorem ex {j:Nat} (hx:rd F x= .DH xs) (hj:xs.drop j=r::ys) (h:BK P K rest (AK F d r) S):BK P K (⟨d,.extract x j,none,false,Lg⟩::rest) F S:=AX (Yx hx hj (Dj h))
theorem kp {ks:List Nat} {Q:Frame->AB->Prop} (h:Q (ks.map fun t=>(t,F.get t)) S):BK P (fun F' S'=>Kh ks F' fun F''=>Q F'' S') [] F S:=uX (gQ h)
end
end Go.Vc
end
section
namespace Go.Vc
theorem wQ {rs:List LS} {R:AA->AB->Prop} {F:Frame} {S:AB} (h:Ju F S (fun xs=>TY xs fun r=>R r S) rs):sY rs R .ret F S:=h
theorem wP {rs:List LS} {R:AA->AB->Prop} {F:Frame} {S:AB} (h:Ju F S (fun xs=>TY xs fun r=>R r S) rs):sY rs R .normal F S:=h
section
variable {P : Program} {F : Frame} {S : AB} {K : AA -> AB -> Prop} {m : HM} {l v k off n : Nat} {o : Ob} {f : Ob -> HM} {cs ys z : List AA} {x y : AO}
theorem jx (hS:Has S m) (hx:rd F x= .ptr l v off) [i:At m l o f] (ho:o= .row v k cs) (hc:Mu (rd F y)=some ys) (hn:ys.length=n) (hle:off+n<=cs.length) (h: ∀S',Has S' (f (.row v k (setCells cs off ys)))->K .C3 S'):AF P F S (fun x S'=>Ao false x fun x=>K x S') (.store n x y):=G4 hS hx ho hc hn hle fun S' q=>Dj (h S' q)
theorem sB (hS:Has S m) (h: ∀v l S',Has S' (pt l (.row v k z)+m)->K (.ptr l v 0) S'):AF P F S (fun x S'=>Ao false x fun x=>K x S') (.alloc k z):=tN hS fun v l S' q=>Dj (h v l S' q)
theorem wB (hS:Has S m) (hc:Mu (rd F x)=some ys) (h: ∀v l S',Has S' (pt l (.row v k ys)+m)->K (.ptr l v 0) S'):AF P F S (fun x S'=>Ao false x fun x=>K x S') (.box k x):=wW hS hc fun v l S' q=>Dj (h v l S' q)
theorem ou (hS:Has S m) (h: ∀v l S',Has S' (pt l (.row v k [])+m)->K (.sl l v 0 0) S'):AF P F S (fun x S'=>Ao false x fun x=>K x S') (.DE k):=qQ hS fun v l S' q=>Dj (h v l S' q)
theorem lZ {len:Nat} {ps:List (Nat×Nat×AO)} (hS:Has S m) (hf:T7 F z ps=some ys) (h: ∀v l S',Has S' (pt l (.row v k ys)+m)->K (.sl l v 0 len) S'):AF P F S (fun x S'=>Ao false x fun x=>K x S') (.Ax false len k z ps):=nH hS hf fun v l S' q=>Dj (h v l S' q)
theorem sC (hS:Has S m) (h: ∀v l S',Has S' (pt l (.DA v [])+m)->K (.map l v) S'):AF P F S (fun x S'=>Ao false x fun x=>K x S') .NR:=tU hS fun v l S' q=>Dj (h v l S' q)
theorem lY {b:Nat} (hS:Has S m) (hx:rd F x= .AL) (hy:DL m k (rd F y) n ys) (hb:n*b<=140737488355328) (h: ∀v l S',Has S' (pt l (.row v k ys)+m)->K (.sl l v 0 n) S'):AF P F S (fun x S'=>Ao false x fun x=>K x S') (.append k b x y):=TA hS hx hy hb fun v l S' q=>Dj (h v l S' q)
theorem cC {b len:Nat} (hS:Has S m) (hx:rd F x= .sl l v off len) (hy:DL m k (rd F y) n ys) [i:At m l o f] (ho:o= .row v k cs) (hle:off+len*k<=cs.length) (hb:(len+n)*b<=140737488355328) (h: ∀v' S',Has S' (f (.row v' k (A6 cs off (len*k)++ys)))->K (.sl l v' 0 (len+n)) S'):AF P F S (fun x S'=>Ao false x fun x=>K x S') (.append k b x y):=WW hS hx hy ho hle hb fun v S' q=>Dj (h v S' q)
end
structure Rs (q:Prop):Prop where
 o:q
theorem Z1 {p q:Prop} (h:q) (e:Rs q->p:=by
 intro h;first
 | (with_reducible first | refine wH ?_ | refine xg ?_ | refine uw ?_ | refine sH ?_ | refine xh ?_ | refine wG ?_ | refine uv ?_ | refine xf ?_ | refine xV ?_ | refine xW ?_ | refine xX ?_ | refine wF ?_ | refine uy ?_ | refine wQ ?_ | refine wP ?_)
 | with_reducible refine xY rfl ?_
 | ((with_reducible first | refine uX (gQ ?_) | refine wK (gQ ?_));(try dsimp only [List.map,AK,rd,Frame.get]))
 | ((with_reducible refine Dj ?_);(try dsimp only [AK,rd,Frame.get]))
 | (((with_reducible refine xl ?_ ?_);(· rfl));(try dsimp only [AK,rd,Frame.get]))
 | (((with_reducible refine xj ?_ ?_);(· rfl));(try dsimp only [AK,rd,Frame.get]))
 | (((with_reducible refine xm (xs:=[]) ?_ ?_);(· rfl));(try dsimp only [AK,rd,Frame.get]))
 | (((with_reducible refine xL ?_ ?_);(· rfl));(try dsimp only [AK,rd,Frame.get]))
 | (((with_reducible refine xK ?_ ?_);(· rfl));(try dsimp only [AK,rd,Frame.get]))
 | (((with_reducible refine xM (xs:=[]) ?_ ?_);(· rfl));(try dsimp only [AK,rd,Frame.get]))
 | ((first | (with_reducible refine AX ?_) | ((with_reducible refine tk ?_ ?_);(· rfl)) | ((with_reducible refine tj ?_ ?_);(· rfl)) | (((with_reducible refine o6 ?_));refine qj rfl ?_) | (((with_reducible refine xN ?_ ?_);(· rfl));refine qj rfl ?_) | (((with_reducible refine xJ ?_ ?_);(· rfl));refine qj rfl ?_));first
  | ((with_reducible refine Am ?_);(refine Dj ?_);(try dsimp only [AK,rd,Frame.get]))
  | ((with_reducible show AF _ _ _ _ (.load _ _ _));(first | refine Lm hS rfl rfl rfl rfl ?_ | refine Lm hS rfl rfl (by assumption) rfl ?_ | refine kZ rfl rfl rfl ?_ | refine kZ rfl (by assumption) rfl ?_);(refine Dj ?_);(try dsimp only [AK,rd,Frame.get]))
  | ((with_reducible show AF _ _ _ _ (.Bo _ _));(first | refine kY rfl ?_ | refine qF rfl ?_);(refine Dj ?_);(try dsimp only [AK,rd,Frame.get]);(try simp only [Nat.zero_mul,Nat.mul_zero,Nat.mul_one,Nat.add_zero,Nat.zero_add,Nat.sub_zero,Nat.reduceAdd,Nat.reduceMul]))
  | ((with_reducible show AF _ _ _ _ (.bin _ _ _ _));(first | refine wV rfl (by first | trivial | (unfold AQ;omega)) ?_);(refine Dj ?_);(try dsimp only [AK,rd,Frame.get]))
  | ((with_reducible show AF _ _ _ _ (.Fg _));(first | refine eB rfl ?_ | refine nM rfl ?_ | refine nK rfl ?_ | refine nL rfl ?_);(refine Dj ?_);(try dsimp only [AK,rd,Frame.get]))
  | ((with_reducible show AF _ _ _ _ (.extract _ _));(first | refine Yx rfl rfl ?_);(refine Dj ?_);(try dsimp only [AK,rd,Frame.get]))
  | ((with_reducible show AF _ _ _ _ (.len _ _));(first | refine Ri rfl ?_);(refine Dj ?_);(try dsimp only [AK,rd,Frame.get]))
  | ((with_reducible show AF _ _ _ _ (.pick _ _ _));(first | refine tY rfl ?_ | refine tX rfl ?_);(refine Dj ?_);(try dsimp only [AK,rd,Frame.get]))
  | ((with_reducible show AF _ _ _ _ (.DT _ _ _ _));(first | refine ah hS rfl rfl rfl (by omega) ?_ | refine qG hS rfl rfl rfl (by omega) ?_ | refine WY rfl rfl (by omega) (by assumption) ?_ | refine Jj rfl rfl (by omega) ?_ | refine nI rfl rfl (by omega) ?_);(refine Dj ?_);(try dsimp only [AK,rd,Frame.get]);(try simp only [Nat.zero_mul,Nat.mul_zero,Nat.mul_one,Nat.add_zero,Nat.zero_add,Nat.sub_zero,Nat.reduceAdd,Nat.reduceMul]))
  | ((with_reducible show AF _ _ _ _ (.not _));(first | refine wb rfl ?_);(refine Dj ?_);(try dsimp only [AK,rd,Frame.get]))
  | ((with_reducible show AF _ _ _ _ (.build _ _));(first | refine tQ rfl ?_);(refine Dj ?_);(try dsimp only [AK,rd,Frame.get,setCells,over]))
  | ((with_reducible show AF _ _ _ _ (.Ax _ _ _ _ _));(refine nG rfl ?_);(refine Dj ?_);(try dsimp only [AK,rd,Frame.get,setCells,over]))
  | ((with_reducible show AF _ _ _ _ (.index _ _ _ _ _));(first | refine qI rfl rfl (by assumption) ?_ | refine qH rfl rfl (by omega) rfl rfl ?_);(refine Dj ?_);(try dsimp only [AK,rd,Frame.get]))
  | ((with_reducible show AF _ _ _ _ (.field _ _ _ _));(first | refine tS rfl rfl rfl ?_);(refine Dj ?_);(try dsimp only [AK,rd,Frame.get]))
  | ((with_reducible show AF _ _ _ _ (.again _ _ _ _));(first | refine kX hS rfl rfl rfl rfl rfl ?_ | refine kX hS rfl rfl (by assumption) rfl rfl ?_ | refine eA rfl rfl rfl rfl ?_ | refine eA rfl (by assumption) rfl rfl ?_);(refine Dj ?_);(try dsimp only [AK,rd,Frame.get]))
  | ((with_reducible show AF _ _ _ _ (.min _));(first | refine wZ rfl rfl ?_);(refine Dj ?_);(try dsimp only [AK,rd,Frame.get]))
  | ((with_reducible show AF _ _ _ _ (.max _));(first | refine wY rfl rfl ?_);(refine Dj ?_);(try dsimp only [AK,rd,Frame.get]))
  | ((with_reducible show AF _ _ _ _ (.HJ _ _ _));(first | refine qM ?_);(refine Dj ?_);(try dsimp only [AK,rd,Frame.get]))
  | ((with_reducible show AF _ _ _ _ (.Od _));(first | refine td rfl ?_);(refine Dj ?_);(try dsimp only [AK,rd,Frame.get]))
  | ((with_reducible show AF _ _ _ _ (.ext _ _));(first | refine wX rfl ?_);(refine Dj ?_);(try dsimp only [AK,rd,Frame.get]))
  | ((with_reducible show AF _ _ _ _ (.WR _ _));(first | refine vF ?_);(refine Dj ?_);(try dsimp only [AK,rd,Frame.get]))
  | ((with_reducible show AF _ _ _ _ (.peq _ _ _));(first | refine vH rfl rfl ?_ | refine vG rfl rfl ?_ | refine vI rfl rfl ?_);(refine Dj ?_);(try dsimp only [AK,rd,Frame.get]))
  | ((with_reducible show AF _ _ _ _ (.LL _ _ _ _ _));(first | refine aj hS rfl rfl rfl (by assumption) ?_);(refine Dj ?_);(try dsimp only [AK,rd,Frame.get]))
  | ((with_reducible show AF _ _ _ _ (.neg _));(first | refine wa rfl (by first | trivial | (unfold Tr AQ;omega)) ?_);(refine Dj ?_);(try dsimp only [AK,rd,Frame.get]))
  | ((with_reducible show AF _ _ _ _ (.conv _ _));(first | refine vE rfl (by first | trivial | (simp only [Tr,AQ];omega)) ?_);(refine Dj ?_);(try dsimp only [AK,rd,Frame.get]))
  | ((with_reducible show AF _ _ _ _ (.Ms _ _));(first | refine WX hS rfl rfl (by first | omega | (simp;done)) ?_);(refine Dj ?_);(try dsimp only [AK,rd,Frame.get]))
  | ((with_reducible show AF _ _ _ _ (.HB _ _));(first | refine qJ rfl ?_);(refine Dj ?_);(try dsimp only [AK,rd,Frame.get]))
  | ((with_reducible show AF _ _ _ _ (.store _ _ _));(first | refine jx hS rfl rfl rfl rfl (by simp) ?_ | refine jx hS rfl rfl rfl rfl (by assumption) ?_);(try dsimp only [AK,rd,Frame.get,setCells,over]))
  | ((with_reducible show AF _ _ _ _ (.alloc _ _));(first | refine sB hS ?_);(try dsimp only [AK,rd,Frame.get,setCells,over]))
  | ((with_reducible show AF _ _ _ _ (.box _ _));(first | refine wB hS rfl ?_);(try dsimp only [AK,rd,Frame.get,setCells,over]))
  | ((with_reducible show AF _ _ _ _ (.DE _));(first | refine ou hS ?_);(try dsimp only [AK,rd,Frame.get,setCells,over]))
  | ((with_reducible show AF _ _ _ _ (.Ax _ _ _ _ _));(first | refine lZ hS rfl ?_);(try dsimp only [AK,rd,Frame.get,setCells,over]))
  | ((with_reducible show AF _ _ _ _ (.NR));(first | refine sC hS ?_);(try dsimp only [AK,rd,Frame.get,setCells,over]))
  | ((with_reducible show AF _ _ _ _ (.append _ _ _ _));(first | refine cC hS rfl ⟨rfl,by simp,rfl⟩ rfl (by assumption) (by omega) ?_ | refine cC hS rfl ⟨rfl,by simp,rfl⟩ rfl (by simp;omega) (by omega) ?_ | refine lY hS rfl ⟨rfl,by simp,rfl⟩ (by omega) ?_);(try dsimp only [AK,rd,Frame.get,setCells,over]))
  | ((with_reducible refine vD ?_);(try dsimp only [List.map,AK,rd,Frame.get]))
  )
 | ((with_reducible first | refine w6 ?_ | refine w5 ?_);(try dsimp only [TY,Frame.get]))
 | ((with_reducible show Ju _ _ _ (.cell _ _ _::_));(refine vn hS rfl rfl rfl rfl ?_);(try dsimp only [TY,Frame.get]))
 exact h.o):p:=e ⟨h⟩
theorem Z2 {p q:Prop} (h:q) (e:Rs q->p:=by intro h;refine Z1 ?_;refine Z1 ?_;exact h.o):p:=e ⟨h⟩
theorem Z3 {p q:Prop} (h:q) (e:Rs q->p:=by intro h;refine Z2 ?_;refine Z1 ?_;exact h.o):p:=e ⟨h⟩
theorem Z4 {p q:Prop} (h:q) (e:Rs q->p:=by intro h;refine Z2 ?_;refine Z2 ?_;exact h.o):p:=e ⟨h⟩
theorem Z5 {p q:Prop} (h:q) (e:Rs q->p:=by intro h;refine Z4 ?_;refine Z1 ?_;exact h.o):p:=e ⟨h⟩
theorem Z6 {p q:Prop} (h:q) (e:Rs q->p:=by intro h;refine Z4 ?_;refine Z2 ?_;exact h.o):p:=e ⟨h⟩
theorem Z7 {p q:Prop} (h:q) (e:Rs q->p:=by intro h;refine Z4 ?_;refine Z3 ?_;exact h.o):p:=e ⟨h⟩
theorem Z8 {p q:Prop} (h:q) (e:Rs q->p:=by intro h;refine Z4 ?_;refine Z4 ?_;exact h.o):p:=e ⟨h⟩
theorem Z9 {p q:Prop} (h:q) (e:Rs q->p:=by intro h;refine Z8 ?_;refine Z1 ?_;exact h.o):p:=e ⟨h⟩
theorem Nn {p q:Prop} (h:q) (e:Rs q->p:=by intro h;refine Z8 ?_;refine Z2 ?_;exact h.o):p:=e ⟨h⟩
theorem SI {p q:Prop} (h:q) (e:Rs q->p:=by intro h;refine Z8 ?_;refine Z3 ?_;exact h.o):p:=e ⟨h⟩
theorem ra {p q:Prop} (h:q) (e:Rs q->p:=by intro h;refine Z8 ?_;refine Z4 ?_;exact h.o):p:=e ⟨h⟩
theorem ju {p q:Prop} (h:q) (e:Rs q->p:=by intro h;refine Z8 ?_;refine Z5 ?_;exact h.o):p:=e ⟨h⟩
theorem gJ {p q:Prop} (h:q) (e:Rs q->p:=by intro h;refine Z8 ?_;refine Z6 ?_;exact h.o):p:=e ⟨h⟩
theorem rz {p q:Prop} (h:q) (e:Rs q->p:=by intro h;refine Z8 ?_;refine Z7 ?_;exact h.o):p:=e ⟨h⟩
theorem YI {p q:Prop} (h:q) (e:Rs q->p:=by intro h;refine Z8 ?_;refine Z8 ?_;exact h.o):p:=e ⟨h⟩
theorem w7 {p q:Prop} (h:q) (e:Rs q->p:=by intro h;refine YI ?_;refine Z1 ?_;exact h.o):p:=e ⟨h⟩
theorem xI {p q:Prop} (h:q) (e:Rs q->p:=by intro h;refine YI ?_;refine Z2 ?_;exact h.o):p:=e ⟨h⟩
theorem yI {p q:Prop} (h:q) (e:Rs q->p:=by intro h;refine YI ?_;refine Z3 ?_;exact h.o):p:=e ⟨h⟩
theorem x7 {p q:Prop} (h:q) (e:Rs q->p:=by intro h;refine YI ?_;refine Z4 ?_;exact h.o):p:=e ⟨h⟩
theorem yJ {p q:Prop} (h:q) (e:Rs q->p:=by intro h;refine YI ?_;refine Z6 ?_;exact h.o):p:=e ⟨h⟩
theorem x9 {p q:Prop} (h:q) (e:Rs q->p:=by intro h;refine YI ?_;refine Z7 ?_;exact h.o):p:=e ⟨h⟩
theorem yK {p q:Prop} (h:q) (e:Rs q->p:=by intro h;refine YI ?_;refine Nn ?_;exact h.o):p:=e ⟨h⟩
theorem yL {p q:Prop} (h:q) (e:Rs q->p:=by intro h;refine YI ?_;refine SI ?_;exact h.o):p:=e ⟨h⟩
theorem yM {p q:Prop} (h:q) (e:Rs q->p:=by intro h;refine YI ?_;refine gJ ?_;exact h.o):p:=e ⟨h⟩
theorem JU {P:Program} {f n:Nat} {c:Ag} {r:List LS} {args:List AA} {S:AB} {R:AA->AB->Prop} {q:Prop} (ok:Mn P f n c r) (h:q) (hl:Nat.ble args.length n=true:=by rfl) (e:Rs q->vc P c (sY r R) (Ui 0 args) S:=by intro h;dsimp only [Ui];exact h.o):AV P f args S R:=ok.2 (e ⟨h⟩) (Nat.le_of_ble_eq_true hl)
end Go.Vc
end
section
set_option maxRecDepth 100000
namespace Go.Proofs.YtlibocgedgdmlaaGreat.E
open Go.Vc
abbrev EF:Nat:=3
abbrev DW:Nat:=5
abbrev B1:Nat:=6
abbrev DJ:Nat:=7
abbrev Da:Nat:=8
abbrev Gy:Nat:=15
abbrev DB:Nat:=16
abbrev Br:Nat:=17
abbrev D9:Nat:=18
abbrev B_:Nat:=19
abbrev B9:Nat:=20
abbrev Jh:Nat:=22
abbrev Dw:Nat:=23
abbrev Ge:Nat:=24
abbrev Bv:Nat:=25
abbrev CX:Nat:=26
abbrev Cs:Nat:=27
abbrev CM:Nat:=28
abbrev CN:Nat:=29
abbrev CL:Nat:=30
abbrev Cp:Nat:=31
abbrev B3:Nat:=32
abbrev Co:Nat:=33
abbrev DS:Nat:=34
abbrev CU:Nat:=35
abbrev Cx:Nat:=36
abbrev FC:Nat:=37
abbrev D4:Nat:=38
abbrev Db:Nat:=39
abbrev ET:Nat:=40
abbrev CS:Nat:=42
abbrev Dc:Nat:=45
abbrev Ah:Nat:=47
abbrev CA:Nat:=48
abbrev Bq:Nat:=49
abbrev Bp:Nat:=50
abbrev Bu:Nat:=51
abbrev CY:Nat:=52
abbrev CO:Nat:=53
abbrev Fq:Nat:=54
abbrev Bb:Nat:=55
abbrev DD:Nat:=56
abbrev Df:Nat:=57
abbrev CB:Nat:=58
abbrev BM:Nat:=59
abbrev Ai:Nat:=60
abbrev C2:Nat:=61
abbrev D3:Nat:=62
abbrev C1:Nat:=63
abbrev Gf:Nat:=64
abbrev B0:Nat:=65
abbrev BN:Nat:=68
abbrev CK:Nat:=69
abbrev Bf:Nat:=70
abbrev FB:Nat:=71
abbrev A_:Nat:=72
abbrev BT:Nat:=73
abbrev BU:Nat:=74
abbrev A9:Nat:=75
abbrev BI:Nat:=76
abbrev BQ:Nat:=77
abbrev Cy:Nat:=78
abbrev Ae:Nat:=79
abbrev FA:Nat:=80
abbrev EV:Nat:=81
abbrev FX:Nat:=82
abbrev BB:Nat:=83
abbrev B8:Nat:=86
abbrev CZ:Nat:=87
abbrev E6:Nat:=89
abbrev Cv:Nat:=90
abbrev CE:Nat:=95
abbrev Aw:Nat:=96
abbrev EG:Nat:=97
abbrev E5:Nat:=98
abbrev C8:Nat:=99
abbrev Ch:Nat:=113
abbrev Ho:Nat:=115
abbrev A8:Nat:=116
abbrev Dg:Nat:=118
abbrev Az:Nat:=119
abbrev Dv:Nat:=120
abbrev Zz:Ag:=(sq [oV 2 (.c .B4)] [0] (sq [oM 4 0,oG 5 Dw [(.t 4)],oM 3 5] [0,3] (.seq (.ops [oM 6 0,oM 8 0,oM 9 3,oM 11 0,oT 12 11,gp 13 (.build [(.int .i64 0),(.int .i64 0)] [(1,1,(.t 12))]),oM 15 3,oN 16 15,gp 7 (.Lf 3 0 Ge [(.t 6)] [(.t 6),(.c .AL),(.c .AL),(.c (.bool false))]),gp 14 (.Pr Bv [(.c .AL),(.t 13)]),gp 10 (.J5 2),gp 17 (.NS 1 2 16 [(.int .i64 0),(.bool false)] (.t 16) (.t 16)),gp 18 (.build [.B4,(.str []),.AL,.I4,.AL,.AL,.B4,.B4,.B4,.B4] [(0,1,(.t 7)),(1,1,(.t 8)),(2,1,(.t 9)),(3,1,(.t 10)),(4,1,(.t 14)),(5,1,(.t 17))]),gp 19 (.box 0 (.t 18)),oM 2 19] (some (8,3,[0,2,3,5,6,7,9,10,1,8,4,11,12,13,14])) [2]) .ret)))
theorem XZ:Mn Tryz.prog Gy 20 Zz [.tmp 2]:=okW Tryz.func15
abbrev Nd:Ag:=(sq [gp 3 (.box 0 (.t 1)),gp 4 (.alloc 0 [(.int .i64 0),(.int .i64 0),(.int .i64 0),.AL,(.str [])])] [0,3,4] (.seq (sq [oF 5 0 3,oL 6 5] [0,3,4,6] (.block 0 (sq [oJ 8 .eql 6 1,oM 7 8] [0,3,4,6,7] (.cond (.t 7) (sq [oM 9 0,oF 10 1 3,oA 11 4 10,oG 12 CX [(.t 9),(.t 11)],oS 5 4 12] [4] .ret) (sq [oJ 14 .eql 6 2,oM 13 14] [0,3,4,6,13] (.cond (.t 13) (sq [oM 15 0,oA 16 8 3,oG 17 Cs [(.t 15),(.t 16)],oS 5 4 17] [4] .ret) (sq [oJ 19 .eql 6 3,oM 18 19] [0,3,4,6,18] (.cond (.t 18) (sq [oM 20 0,oF 21 5 3,oL 22 21,oG 23 CM [(.t 20),(.t 22)],oS 5 4 23] [4] .ret) (sq [oJ 25 .eql 6 4,oM 24 25] [0,3,4,6,24] (.cond (.t 24) (sq [oM 26 0,oF 27 7 3,oL 28 27,oG 29 CN [(.t 26),(.t 28)],oS 5 4 29] [4] .ret) (sq [oJ 31 .eql 6 5,oM 30 31] [0,3,4,6,30] (.cond (.t 30) (sq [oM 32 0,oF 33 5 3,oL 34 33,oG 35 CL [(.t 32),(.t 34)],oS 5 4 35] [4] .ret) (sq [oJ 37 .eql 6 6,oM 36 37] [0,3,4,6,36] (.cond (.t 36) (sq [oM 38 0,oG 39 Cp [(.t 38)],oS 5 4 39] [4] .ret) (.join [0,3,4,6] [40] 2 (sq [oJ 41 .eql 6 7,oM 40 41] [0,3,4,6,40] (.cond (.t 40) .skip (.ops [oJ 42 .eql 6 8,oM 40 42] none [0,3,4,6,40]))) (.cond (.t 40) (sq [oM 43 0,oA 44 8 3,oG 45 B3 [(.t 43),(.t 44)],oS 5 4 45] [4] .ret) (sq [oJ 47 .eql 6 9,oM 46 47] [0,4,46] (.cond (.t 46) (.seq (sq [oM 48 0,oG 49 Co [(.t 48)]] [4,49] (.cond (.t 49) (sq [gp 50 (.build [(.int .i64 0),(.int .i64 0),(.int .i64 0),.AL,(.str [])] [(1,1,(ci 1))]),oS 5 4 50] [4] .ret) .skip)) (sq [gp 51 (.build [(.int .i64 0),(.int .i64 0),(.int .i64 0),.AL,(.str [])] []),oS 5 4 51] [4] .ret)) .skip)))))))))))))))))) (sq [oG 52 DS [(ci 3)],oS 5 4 52] [4] .ret)))
theorem Mo:Mn Tryz.prog DB 53 Nd [.cell 4 5 true]:=okW Tryz.func16
abbrev LX:Ag:=(sq [gp 3 (.box 0 (.t 1)),gp 4 (.alloc 0 [(.int .i64 0),(.int .i64 0),(.int .i64 0),.AL,(.str [])])] [0,3,4] (.seq (.ops [oM 10 0,oK 11 10,oF 12 0 11,oL 13 12,oA 14 4 3,oG 15 CS [(.t 13),(.t 14)],oM 9 15,oX 16 9 0,oX 17 9 1,oM 5 16,oM 6 17] (some (0,0,[0,1,2,3,4,5,6,7,8,9,10])) [0,4,5,6]) (.seq (sq [oM 18 5,oN 19 18,oC 20 0] [0,4,6,18,19,20] (.block 0 (.loop [0,4,6,18,19] [20] 2 (sq [oB 21 .lss 20 19] [0,4,6,18,19,20,21] (.seq (.cond (.t 21) .skip (.exit 0)) (.seq (.block 1 (sq [oI 22 3 18 20,oA 23 3 22,gp 8 (.alloc 0 [(.int .i64 0),(.int .i64 0),(.str [])]),oS 3 8 23] [0,4,6,8,18,19,20] (.ops [oM 24 0,oA 25 3 8,oG 26 CA [(.t 24),(.t 25)]] none [0,4,6,18,19,20]))) (.ops [oJ 27 .add 20 1,oM 20 27] none [0,4,6,18,19,20]))))))) (sq [oM 28 6,oG 29 DS [(.t 28)],oS 5 4 29] [4] .ret))))
theorem K0:Mn Tryz.prog CX 30 LX [.cell 4 5 true]:=okW Tryz.func26
abbrev L3:Ag:=(sq [gp 3 (.box 0 (.t 1)),gp 4 (.alloc 0 [(.int .i64 0),(.int .i64 0),(.int .i64 0),.AL,(.str [])])] [0,3,4] (.join [4] [] 2 (.block 0 (sq [oF 10 5 3,oL 11 10,oJ 12 .lss 11 0,gb 13 (.CD (.t 12)),gq 14 (.Bo 5 (.t 3)) 13 false,gq 15 (.load 1 false (.t 14)) 13 false,gq 16 (.bin .none .gtr (.t 15) (ci 1)) 13 false,gp 17 (.pick (.t 13) (.c (.bool true)) (.t 16)),gb 18 (.CD (.t 17)),gq 19 (.Bo 6 (.t 3)) 18 false,gq 20 (.load 1 false (.t 19)) 18 false,gq 21 (.bin .none .lss (.t 20) (ci 1)) 18 false,gp 22 (.pick (.t 18) (.c (.bool true)) (.t 21)),gb 23 (.CD (.t 22)),gq 24 (.Bo 6 (.t 3)) 23 false,gq 25 (.load 1 false (.t 24)) 23 false,gq 26 (.bin .none .gtr (.t 25) (ci 50)) 23 false,gp 27 (.pick (.t 23) (.c (.bool true)) (.t 26)),oM 9 27] [0,3,4,9] (.cond (.t 9) (sq [oG 28 DS [(ci 2)],oS 5 4 28] [4] .ret) (sq [oF 30 5 3,oL 31 30,oJ 32 .eql 31 0,oM 29 32] [0,3,4,29] (.cond (.t 29) (.ops [oM 33 0,oF 34 6 3,oL 35 34,oG 36 Bq [(.t 33),(.t 35)]] none [4]) (.ops [oM 5 0,oF 6 6 3,oL 7 6,oG 8 Bp [(.t 5),(.t 7)]] none [4])))))) (sq [gp 37 (.build [(.int .i64 0),(.int .i64 0),(.int .i64 0),.AL,(.str [])] []),oS 5 4 37] [4] .ret)))
theorem Lb:Mn Tryz.prog Cs 38 L3 [.cell 4 5 true]:=okW Tryz.func27
abbrev K5:Ag:=(sq [gp 4 (.alloc 0 [(.int .i64 0),(.int .i64 0),(.int .i64 0),.AL,(.str [])])] [0,1,4] (.seq (sq [oM 7 1,oJ 8 .lss 7 0,gb 9 (.CD (.t 8)),gq 10 (.CD (.t 1)) 9 false,gq 11 (.CD (.t 0)) 9 false,gq 12 (.Fg (.t 11)) 9 false,gq 13 (.Bo 1 (.t 12)) 9 false,gq 14 (.load 1 false (.t 13)) 9 false,gq 15 (.len true (.t 14)) 9 false,gq 16 (.bin .none .gtr (.t 10) (.t 15)) 9 false,gp 17 (.pick (.t 9) (.c (.bool true)) (.t 16))] [0,1,4,17] (.cond (.t 17) (sq [oG 18 DS [(ci 2)],oS 5 4 18] [4] .ret) .skip)) (sq [oM 20 0,oK 21 20,oF 22 2 21,oL 23 22,oM 24 1,oG 25 Bu [(.t 23),(.t 24)],oM 19 25,oX 26 19 0,oX 27 19 1,oM 5 26,oM 6 27] [0,1,4,5] (sq [oM 28 5,oM 29 1,oM 30 0,oK 31 30,oF 32 2 31,oL 33 32,oM 34 5,oI 35 1 33 34,oL 36 35,oB 37 .sub 29 36,gp 38 (.build [(.int .i64 0),(.int .i64 0),(.int .i64 0),.AL,(.str [])] [(1,1,(.t 28)),(2,1,(.t 37))]),oS 5 4 38] [4] .ret))))
theorem KU:Mn Tryz.prog CM 39 K5 [.cell 4 5 true]:=okW Tryz.func28
abbrev K6:Ag:=(sq [gp 3 (.box 0 (.t 1)),gp 4 (.alloc 0 [(.int .i64 0),(.int .i64 0),(.int .i64 0),.AL,(.str [])])] [0,3,4] (.seq (sq [oL 8 3,oG 9 CY [(.t 8)],gp 10 (.not (.t 9))] [0,3,4,10] (.cond (.t 10) (sq [oG 11 DS [(ci 4)],oS 5 4 11] [4] .ret) .skip)) (.seq (.ops [oM 12 0,oK 13 12,oF 14 3 13,oL 15 14,oL 16 3,gp 17 (.LL .str false .AL (.t 15) (.t 16)),gp 18 (.Nv 2 1 CO [(.t 17)]),gp 5 (.NN 1 0 [.AL]),oS 1 5 18] (some (6,2,[0,1,2,3,4,5,6,7,8])) [0,3,4,5]) (.seq (sq [oM 19 0,oK 20 19,oF 21 4 20,oL 22 21,oN 23 22,oC 24 0] [0,3,4,5,22,23,24] (.block 0 (.loop [0,3,4,5,22,23] [24] 3 (sq [oB 25 .lss 24 23] [0,3,4,5,22,23,24,25] (.seq (.cond (.t 25) .skip (.exit 0)) (.seq (.block 1 (sq [oI 26 2 22 24,oA 27 2 26,gp 7 (.alloc 0 [(.int .i64 0),(.int .i64 0)]),oS 2 7 27] [0,3,4,5,7,22,23,24] (.ops [oM 28 0,oK 29 28,oF 30 1 29,oL 31 30,oF 32 0 7,oL 33 32,oF 34 1 7,oL 35 34,gp 36 (.HJ (.func Bb) [] [(.t 3),(.t 5)]),oG 37 Fq [(.t 31),(.t 33),(.t 35),(.t 36)]] (some (0,0,[0,1,2,3,4,5,6,7,8,9])) [0,3,4,5,22,23,24]))) (.ops [oJ 38 .add 24 1,oM 24 38] none [0,3,4,5,22,23,24]))))))) (sq [oL 39 5,oG 40 DD [(.t 39)]] [4,5] (sq [oL 41 5,gp 42 (.build [(.int .i64 0),(.int .i64 0),(.int .i64 0),.AL,(.str [])] [(3,1,(.t 41))]),oS 5 4 42] [4] .ret))))))
theorem KV:Mn Tryz.prog CN 43 K6 [.cell 4 5 true]:=okW Tryz.func29
abbrev KF:Ag:=(sq [oM 6 0,oL 7 2,oB 8 .eql 6 7] [1,3,8] (.cond (.t 8) (.ops [oL 9 3,oM 10 1,gp 11 (.Ax true 1 1 [(.int .i64 0)] [(0,1,(.t 10))]),oP 12 1 8 9 11,oS 1 3 12] none []) .skip))
theorem Jy:Mn Tryz.prog Bb 13 KF []:=okW Tryz.func55
abbrev K4:Ag:=(sq [gp 4 (.alloc 0 [(.int .i64 0),(.int .i64 0),(.int .i64 0),.AL,(.str [])])] [0,1,4] (.seq (.block 0 (sq [oM 6 1,oJ 7 .lss 6 0,gb 8 (.CD (.t 7)),gq 9 (.CD (.t 1)) 8 false,gq 10 (.CD (.t 0)) 8 false,gq 11 (.Fg (.t 10)) 8 false,gq 12 (.Bo 5 (.t 11)) 8 false,gq 13 (.load 1 false (.t 12)) 8 false,gq 14 (.len false (.t 13)) 8 false,gq 15 (.bin .none .geq (.t 9) (.t 14)) 8 false,gp 16 (.pick (.t 8) (.c (.bool true)) (.t 15)),oM 5 16] [0,1,4,5] (.cond (.t 5) (sq [oG 17 DS [(ci 2)],oS 5 4 17] [4] .ret) (sq [oM 19 0,oK 20 19,oF 21 5 20,oL 22 21,oM 23 1,oI 24 2 22 23,oF 25 1 24,oL 26 25,oM 18 26] [0,1,4,18] (.cond (.t 18) (sq [oM 27 0,oK 28 27,oF 29 5 28,oL 30 29,oM 31 1,oI 32 2 30 31,oF 33 0 32,oL 34 33,gp 35 (.build [(.int .i64 0),(.int .i64 0),(.int .i64 0),.AL,(.str [])] [(1,1,(.t 34))]),oS 5 4 35] [4] .ret) .skip))))) (sq [oM 36 0,oM 37 1,oG 38 CB [(.t 36),(.t 37)],oG 39 Df [(.t 38)],gp 40 (.field 0 1 false (.t 39)),gp 41 (.build [(.int .i64 0),(.int .i64 0),(.int .i64 0),.AL,(.str [])] [(1,1,(.t 40))]),oS 5 4 41] [4] .ret)))
theorem KT:Mn Tryz.prog CL 42 K4 [.cell 4 5 true]:=okW Tryz.func30
abbrev L0:Ag:=(sq [gp 2 (.alloc 0 [(.int .i64 0),(.int .i64 0),(.int .i64 0),.AL,(.str [])])] [0,2] (sq [oM 5 0,oK 6 5,oF 7 6 6,gp 8 (.Ms 4 (.t 7)),oG 9 BM [(.t 8),(.c .B4)],oM 3 9] [0,2,3] (.seq (sq [oM 10 3,oJ 11 .lss 10 0] [0,2,3,11] (.cond (.t 11) (sq [oG 12 DS [(ci 8)],oS 5 2 12] [2] .ret) .skip)) (sq [oM 13 0,oK 14 13,oF 15 1 14,oL 16 15,gp 4 (.alloc 0 [(.str [])]),oS 1 4 16] [0,2,3,4] (sq [oM 17 0,oM 18 3,oK 19 17,oF 20 6 19,gp 21 (.DT 1 (some 4) (.t 20) (.t 18)),oS 1 21 4] [2,3] (sq [oM 22 3,gp 23 (.build [(.int .i64 0),(.int .i64 0),(.int .i64 0),.AL,(.str [])] [(1,1,(.t 22))]),oS 5 2 23] [2] .ret))))))
theorem La:Mn Tryz.prog Cp 24 L0 [.cell 2 5 true]:=okW Tryz.func31
abbrev KE:Ag:=(sq [gp 3 (.box 0 (.t 1)),gp 4 (.alloc 0 [(.int .i64 0),(.int .i64 0),(.int .i64 0),.AL,(.str [])])] [0,3,4] (.seq (.seq (.ops [oF 5 5 3,oL 6 5,oJ 7 .lss 6 0,gb 8 (.CD (.t 7)),gq 9 (.Bo 5 (.t 3)) 8 false,gq 10 (.load 1 false (.t 9)) 8 false,gq 11 (.bin .none .geq (.t 10) (ci 4)) 8 false,gp 12 (.pick (.t 8) (.c (.bool true)) (.t 11)),gb 13 (.CD (.t 12)),gq 14 (.CD (.t 0)) 13 false,gq 15 (.Bo 5 (.t 3)) 13 false,gq 16 (.load 1 false (.t 15)) 13 false,gq 17 (.Fg (.t 14)) 13 false,gq 18 (.Bo 6 (.t 17)) 13 false,gq 19 (.DT 1 (some 4) (.t 18) (.t 16)) 13 false,gq 20 (.load 1 false (.t 19)) 13 false,gq 21 (.bin .ptr .eql (.t 20) (.c .B4)) 13 false,gp 22 (.pick (.t 13) (.c (.bool true)) (.t 21))] (some (0,0,[0,1,2,3,4,5,6,7,8,9,10,11,12,13,14,15,16,17])) [0,3,4,22]) (.cond (.t 22) (sq [oG 23 DS [(ci 7)],oS 5 4 23] [4] .ret) .skip)) (.seq (sq [oF 24 0 3,oL 25 24,oJ 26 .eql 25 8] [0,3,4,26] (.cond (.t 26) (.seq (.ops [oM 27 0,oF 28 5 3,oL 29 28,oK 30 27,oF 31 6 30,gp 32 (.DT 1 (some 4) (.t 31) (.t 29)),oL 33 32,oK 34 33,oL 35 34,gp 36 (.build [(.int .i64 0),(.int .i64 0),(.int .i64 0),.AL,(.str [])] [(4,1,(.t 35))]),oS 5 4 36] (some (0,0,[0,1,2,3,4,5,6,7,8,9,10])) [4]) .ret) .skip)) (.seq (.ops [oM 37 0,oF 38 5 3,oL 39 38,oK 40 37,oF 41 6 40,gp 42 (.DT 1 (some 4) (.t 41) (.t 39)),gn (.store 1 (.t 42) (.c .B4))] (some (0,0,[0,1,2,3,4,5,6])) [4]) (sq [gp 43 (.build [(.int .i64 0),(.int .i64 0),(.int .i64 0),.AL,(.str [])] []),oS 5 4 43] [4] .ret)))))
theorem Jx:Mn Tryz.prog B3 44 KE [.cell 4 5 true]:=okW Tryz.func32
abbrev Lx:Ag:=(sq [oV 2 (.c (.bool false))] [0] (sq [oM 3 0,oK 4 3,oF 5 4 4,oL 6 5,oN 7 6,oJ 8 .eql 7 0,gb 9 (.CD (.t 8)),gq 10 (.CD (.t 0)) 9 true,gq 11 (.Fg (.t 10)) 9 true,gq 12 (.Bo 5 (.t 11)) 9 true,gq 13 (.load 1 false (.t 12)) 9 true,gq 14 (.call Ai [(.t 13),(.c (.fn (.func C2) [] []))]) 9 true,gq 15 (.not (.t 14)) 9 true,gp 16 (.pick (.t 9) (.t 15) (.c (.bool false))),oM 2 16] [2] .ret))
theorem LY:Mn Tryz.prog Co 17 Lx [.tmp 2]:=okW Tryz.func33
abbrev cx:Ag:=(sq [gp 2 (.alloc 0 [(.int .i64 0),(.int .i64 0),(.int .i64 0),.AL,(.str [])])] [0,2] (sq [oM 3 0,gp 4 (.build [(.int .i64 0),(.int .i64 0),(.int .i64 0),.AL,(.str [])] [(0,1,(.t 3))]),oS 5 2 4] [2] .ret))
theorem Z0:Mn Tryz.prog DS 5 cx [.cell 2 5 true]:=okW Tryz.func34
abbrev KR:Ag:=(sq [gp 3 (.box 0 (.t 1))] [0,3] (.seq (.ops [oM 13 0,oK 14 13,oF 15 1 14,oL 16 15,oF 17 0 3,oL 18 17,oF 19 0 3,oL 20 19,oF 21 1 3,oL 22 21,oB 23 .add 20 22,oG 24 BN [(.t 16),(.t 18),(.t 23)],oM 12 24,oX 25 12 0,oX 26 12 1,oM 4 25,oM 5 26] (some (0,0,[0,1,2,3,4,5,6,7,8,9,10,11,12,13,14,15,16])) [0,3,4,5]) (sq [oF 27 2 3,oL 28 27,oT 29 28,oF 30 1 3,oL 31 30,oB 32 .sub 29 31,oM 6 32] [0,3,4,5,6] (sq [oM 33 0,oM 34 4,oM 35 5,oM 36 6,oG 37 CK [(.t 33),(.t 34),(.t 35),(.t 36)]] [0,3,4,5,6] (.seq (.ops [oM 38 0,oM 39 0,oK 40 39,oF 41 4 40,oL 42 41,oA 43 3 3,oM 45 4,oM 46 5,oM 47 6,oB 48 .add 46 47,gp 49 (.build [(.int .i64 0),(.int .i64 0)] [(0,1,(.t 45)),(1,1,(.t 48))]),oG 44 Bf [(.t 42),(.t 43)],oG 50 Bv [(.t 44),(.t 49)],oK 51 38,oF 52 4 51,oS 1 52 50] (some (0,0,[0,1,2,3,4,5,7,8,9,10,11,6,12,13,14,15])) [0,3]) (.seq (.ops [oM 54 0,oK 55 54,oF 56 2 55,oL 57 56,oF 58 0 3,oL 59 58,oG 60 Bu [(.t 57),(.t 59)],oM 53 60,oX 61 53 0,oX 62 53 1,oM 7 61,oM 8 62] (some (0,0,[0,1,2,3,4,5,6,7,8,9,10,11])) [0,3,7]) (.seq (.ops [oM 64 0,oK 65 64,oF 66 2 65,oL 67 66,oF 68 0 3,oL 69 68,oF 70 1 3,oL 71 70,oB 72 .add 69 71,oG 73 Bu [(.t 67),(.t 72)],oM 63 73,oX 74 63 0,oX 75 63 1,oM 9 74,oM 10 75] (some (0,0,[0,1,2,3,4,5,6,7,8,9,10,11,12,13,14])) [0,3,7,9]) (sq [oF 76 2 3,oL 77 76,oG 78 FB [(.t 77)],gp 79 (.field 1 1 false (.t 78)),oJ 80 .add 79 1,gp 81 (.Hq 2 16 [(.int .i64 0),(.bool false)] (.t 80) (.t 80)),oM 11 81] [0,3,7,9,11] (sq [oM 82 0,oM 83 0,oK 84 83,oF 85 5 84,oL 86 85,oM 87 7,oM 88 9,oJ 89 .add 88 1,oM 90 11,oG 91 A_ [(.t 86),(.t 87),(.t 89),(.t 90)],oK 92 82,oF 93 5 92,oS 1 93 91] [0,3] (.seq (.ops [oM 94 0,oM 95 0,oK 96 95,oF 97 2 96,oL 98 97,oA 99 3 3,oG 100 BT [(.t 98),(.t 99)],oK 101 94,oF 102 2 101,oS 1 102 100] (some (0,0,[0,1,2,3,4,5,6,7,8,9])) [0,3]) (.ops [oM 103 0,oM 104 0,oK 105 104,oF 106 1 105,oL 107 106,oA 108 3 3,oG 109 BU [(.t 107),(.t 108)],oK 110 103,oF 111 1 110,oS 1 111 109] (some (0,0,[0,1,2,3,4,5,6,7,8,9])) [])))))))))))
theorem KD:Mn Tryz.prog CA 112 KR []:=okW Tryz.func48
abbrev Jw:Ag:=(sq [gp 2 (.box 0 (.t 0))] [1,2] (.seq (sq [oL 7 2,oK 8 7,oF 9 4 8,oL 10 9,oN 11 10,oJ 12 .eql 11 0] [1,2,12] (.cond (.t 12) .ret .skip)) (sq [oL 13 2,oK 14 13,oF 15 4 14,oL 16 15,gp 17 (.DT 2 none (.t 16) (ci 0)),oA 18 2 17,gp 4 (.alloc 0 [(.int .i64 0),(.int .i64 0)]),oS 2 4 18] [1,2,4] (.seq (.ops [oL 20 2,oK 21 20,oF 22 1 21,oL 23 22,oF 24 0 4,oL 25 24,oF 26 1 4,oL 27 26,oF 28 0 4,oL 29 28,oM 30 1,oB 31 .add 29 30,gp 32 (.min [(.t 27),(.t 31)]),oG 33 BN [(.t 23),(.t 25),(.t 32)],oM 19 33,oX 34 19 0,oX 35 19 1,oM 5 34,oM 6 35] (some (0,0,[0,1,2,3,4,5,6,7,8,9,10,11,12,13,14,15,16,17,18])) [2,4,6]) (sq [oF 36 1 4,oL 37 36,oM 38 6,gp 39 (.min [(.t 37),(.t 38)]),oF 40 1 4,oS 1 40 39] [2,4] (.seq (.ops [oL 41 2,oL 42 2,oK 43 42,oF 44 4 43,oL 45 44,oA 46 2 4,⟨(some 47),.call A9 [(.t 45),(.t 46)],none,false,[(41,1,false,(.t 2))]⟩,gn (.again 41 1 false (.t 2)),oK 48 41,oF 49 4 48,oS 1 49 47] (some (0,0,[0,1,2,3,4,5,6,7,8,9])) [2,4]) (.ops [oL 50 2,oK 51 50,oF 52 1 51,oL 53 52,oF 54 0 4,oL 55 54,oF 56 1 4,oL 57 56,gp 58 (.HJ (.func BI) [] [(.t 2)]),oG 59 Fq [(.t 53),(.t 55),(.t 57),(.t 58)]] (some (0,0,[0,1,2,3,4,5,6,7,8,9])) [])))))))
theorem Ja:Mn Tryz.prog Bq 60 Jw []:=okW Tryz.func49
abbrev JA:Ag:=(sq [oL 8 2,oK 9 8,oF 10 3 9,oL 11 10,oM 12 0,gp 13 (.LL .str false .AL (.t 11) (.t 12)),oM 5 13] [0,1,2,5] (sq [oM 15 5,oM 16 1,oG 17 BQ [(.t 15),(.t 16)],oM 14 17,oX 18 14 0,oX 19 14 1,oM 6 18,oM 7 19] [0,1,2,5,6] (.ops [oL 20 2,oK 21 20,oF 22 3 21,oL 23 22,oM 24 0,oM 25 5,oM 26 6,oM 27 1,⟨(some 28),.Ax false 1 0 [(.int .i64 0)] [(0,1,(.t 27))],none,false,[(20,1,false,(.t 2)),(23,1,false,(.t 22))]⟩,gn (.again 20 1 false (.t 2)),gn (.again 23 1 false (.t 22)),⟨(some 29),.call Cy [(.t 25),(.t 26),(.t 28)],none,false,[(20,1,false,(.t 2)),(23,1,false,(.t 22))]⟩,gn (.again 20 1 false (.t 2)),gn (.again 23 1 false (.t 22)),gn (.aZ .str (.t 23) (.t 24) (.t 29))] (some (0,0,[0,1,2,3,4,5,6,7,8,9,10])) [])))
theorem Iz:Mn Tryz.prog BI 30 JA []:=okW Tryz.func76
abbrev Jv:Ag:=(.block 0 (.loop [0] [1] 0 (.seq (sq [oM 6 1,oJ 7 .gtr 6 0] [0,1,7] (.cond (.t 7) .skip (.exit 0))) (.block 1 (sq [oM 8 0,oK 9 8,oF 10 5 9,oL 11 10,oG 12 Ae [(.t 11),(.c (.fn (.func C2) [] []))],oM 4 12] [0,1,4] (.seq (sq [oM 13 4,oJ 14 .lss 13 0] [0,1,4,14] (.cond (.t 14) .ret .skip)) (sq [oM 15 0,oM 16 4,oG 17 CB [(.t 15),(.t 16)],oM 5 17] [0,1,4,5] (.seq (.ops [oM 18 0,oK 19 18,oF 20 5 19,oL 21 20,oM 22 4,oM 23 5,oG 24 Df [(.t 23)],gp 25 (.field 0 1 false (.t 24)),gp 26 (.build [(.int .i64 0),(.bool false)] [(0,1,(.t 25)),(1,1,(.c (.bool true)))]),oI 27 2 21 22,oS 2 27 26] (some (7,0,[0,1,2,3,4,5,6,7,8,9,10])) [0,1,5]) (.ops [oM 28 1,oM 29 5,oT 30 29,oJ 31 .add 30 1,oB 32 .sub 28 31,oM 1 32] none [0,1])))))))))
theorem JZ:Mn Tryz.prog Bp 33 Jv []:=okW Tryz.func50
abbrev Ly:Ag:=(sq [oV 4 (.c (.str []))] [0,1] (sq [oM 6 0,oK 7 6,oF 8 1 7,oL 9 8,oT 10 9,oM 5 10] [0,1,5] (.join [0,1] [5] 0 (sq [oM 11 1,oJ 12 .add 11 1,oM 13 0,oK 14 13,oF 15 2 14,oL 16 15,oN 17 16,oB 18 .lss 12 17] [0,1,5,18] (.cond (.t 18) (.ops [oM 19 0,oK 20 19,oF 21 2 20,oL 22 21,oM 23 1,oJ 24 .add 23 1,oI 25 1 22 24,oL 26 25,oJ 27 .sub 26 1,oM 5 27] none [0,1,5]) .skip)) (.seq (.ops [oM 28 0,oK 29 28,oF 30 1 29,oL 31 30,oM 32 0,oK 33 32,oF 34 2 33,oL 35 34,oM 36 1,oI 37 1 35 36,oL 38 37,oM 39 5,gp 40 (.slice 0 (.t 31) (some (.t 38)) (some (.t 39))),oM 4 40] (some (0,0,[0,1,2,3,4,5,6,7,8,9,10,11,12,13])) [4]) .ret))))
theorem LZ:Mn Tryz.prog CB 41 Ly [.tmp 4]:=okW Tryz.func58
abbrev SY:Ag:=(sq [gp 1 (.box 0 (.t 0)),oV 2 (.c (.bool false))] [1] (sq [oF 3 1 1,oL 4 3,gp 5 (.not (.t 4)),oM 2 5] [2] .ret))
theorem RB:Mn Tryz.prog C2 6 SY [.tmp 2]:=okW Tryz.func61
abbrev K3:Ag:=(sq [oM 13 0,oK 14 13,oF 15 3 14,oL 16 15,gp 17 (.Ll (.t 16))] [0,1,2,3,17] (.block 0 (.loop [0,1,2,3,17] [] 0 (sq [gp 18 (.UK (.t 17)),oX 19 18 0] [0,1,2,3,17,19] (.seq (.cond (.t 19) .skip (.exit 0)) (.block 1 (sq [gp 20 (.OA (.t 17)),oX 21 20 0,oX 22 20 1,oM 8 21,oM 9 22] [0,1,2,3,8,9,17] (sq [gp 10 (.DE 1)] [0,1,2,3,8,9,10,17] (.seq (sq [oM 23 9,oN 24 23,oC 25 0] [0,1,2,3,8,10,17,23,24,25] (.block 2 (.loop [0,1,2,3,8,17,23,24] [10,25] 1 (sq [oB 26 .lss 25 24] [0,1,2,3,8,10,17,23,24,25,26] (.seq (.cond (.t 26) .skip (.exit 2)) (.join [0,1,2,3,8,17,23,24,25] [10] 1 (.block 3 (sq [oI 27 1 23 25,oL 28 27,oM 12 28] [0,1,2,3,8,10,12,17,23,24,25] (.block 4 (sq [oM 30 12,oM 31 1,oB 32 .lss 30 31,oM 29 32] [0,1,2,3,8,10,12,17,23,24,25,29] (.cond (.t 29) (.ops [oM 33 10,oM 34 12,gp 35 (.Ax true 1 1 [(.int .i64 0)] [(0,1,(.t 34))]),oP 36 1 8 33 35,oM 10 36] none [0,1,2,3,8,10,17,23,24,25]) (sq [oM 38 12,oM 39 2,oB 40 .geq 38 39,oM 37 40] [0,1,2,3,8,10,12,17,23,24,25,37] (.cond (.t 37) (.ops [oM 41 10,oM 42 12,oM 43 3,oB 44 .add 42 43,gp 45 (.Ax true 1 1 [(.int .i64 0)] [(0,1,(.t 44))]),oP 46 1 8 41 45,oM 10 46] none [0,1,2,3,8,10,17,23,24,25]) .skip))))))) (.ops [oJ 47 .add 25 1,oM 25 47] none [0,1,2,3,8,10,17,23,24,25]))))))) (.ops [oM 48 0,oK 49 48,oF 50 3 49,oL 51 50,oM 52 8,oM 53 10,gn (.aZ .str (.t 51) (.t 52) (.t 53))] none [0,1,2,3,17]))))))))))
theorem KS:Mn Tryz.prog CK 54 K3 []:=okW Tryz.func69
abbrev IW:Ag:=(sq [oC 4 0] [0,1] (.seq (sq [oM 6 0,oN 7 6,oC 8 0] [0,1,7,8] (.block 0 (.loop [0,1,7] [8] 0 (sq [oB 9 .lss 8 7] [0,1,7,8,9] (.seq (.cond (.t 9) .skip (.exit 0)) (.seq (.block 1 (sq [oM 10 8,oM 5 10] [0,1,5,7,8] (sq [oM 11 1,oM 12 0,oM 13 5,oI 14 1 12 13,oL 15 14,gp 16 (.peq false (.t 11) (.t 15))] [0,1,5,7,8,16] (.cond (.t 16) (sq [oM 17 5,oM 4 17] [4] .ret) .skip)))) (.ops [oJ 18 .add 8 1,oM 8 18] none [0,1,7,8]))))))) (sq [oC 4 (-1)] [4] .ret)))
theorem H9:Mn Tryz.prog BM 19 IW [.tmp 4]:=okW Tryz.func59
abbrev E4:Ag:=(sq [oV 4 (.c (.bool false))] [0,1] (sq [oM 5 0,oM 6 1,oG 7 Ae [(.t 5),(.t 6)],oJ 8 .geq 7 0,oM 4 8] [4] .ret))
theorem Eu:Mn Tryz.prog Ai 9 E4 [.tmp 4]:=okW Tryz.func60
abbrev FR:Ag:=(sq [oC 4 0] [0,1] (.seq (sq [oM 6 0,oN 7 6,oC 8 0] [0,1,7,8] (.block 0 (.loop [0,1,7] [8] 0 (sq [oB 9 .lss 8 7] [0,1,7,8,9] (.seq (.cond (.t 9) .skip (.exit 0)) (.seq (.block 1 (sq [oM 10 8,oM 5 10] [0,1,5,7,8] (sq [oM 11 1,oM 12 0,oM 13 5,oI 14 2 12 13,oA 15 2 14,gp 16 (.GZ (.t 11) [(.t 15)])] [0,1,5,7,8,16] (.cond (.t 16) (sq [oM 17 5,oM 4 17] [4] .ret) .skip)))) (.ops [oJ 18 .add 8 1,oM 8 18] none [0,1,7,8]))))))) (sq [oC 4 (-1)] [4] .ret)))
theorem FN:Mn Tryz.prog Ae 19 FR [.tmp 4]:=okW Tryz.func79
abbrev K_:Ag:=(sq [oV 2 (.c .AL)] [0] (.seq (sq [oM 3 0,gp 4 (.HB false (.t 3))] [0,4] (.cond (.t 4) (sq [oV 2 (.c .AL)] [2] .ret) .skip)) (sq [gp 5 (.Ax false 0 1 [] []),oM 6 0,oP 7 1 8 5 6,oM 2 7] [2] .ret)))
theorem Ko:Mn Tryz.prog CO 8 K_ [.tmp 2]:=okW Tryz.func53
abbrev Iu:Ag:=(sq [oC 4 0,oV 5 (.c (.bool false))] [0,1] (sq [oM 10 0,oN 11 10,oM 6 11] [0,1,6] (sq [oM 12 6,oC 7 0,oM 8 12] [0,1,6,7,8] (.seq (.block 0 (.loop [0,1,6] [7,8] 0 (.seq (sq [oM 13 7,oM 14 8,oB 15 .lss 13 14] [0,1,6,7,8,15] (.cond (.t 15) .skip (.exit 0))) (.block 1 (sq [oM 16 7,oM 17 8,oB 18 .add 16 17,gp 19 (.conv .u64 (.t 18)),gp 20 (.bin .none .shr (.t 19) (.c (.int .u64 1))),gp 21 (.conv .i64 (.t 20)),oM 9 21] [0,1,6,7,8,9] (sq [oM 22 0,oM 23 9,oI 24 1 22 23,oL 25 24,oM 26 1,oG 27 E5 [(.t 25),(.t 26)]] [0,1,6,7,8,9,27] (.cond (.t 27) (.ops [oM 28 9,oJ 29 .add 28 1,oM 7 29] none [0,1,6,7,8]) (.ops [oM 30 9,oM 8 30] none [0,1,6,7,8])))))))) (sq [oM 31 7,oM 32 7,oM 33 6,oB 34 .lss 32 33,gb 35 (.CD (.t 34)),gq 36 (.CD (.t 0)) 35 true,gq 37 (.CD (.t 7)) 35 true,gq 38 (.DT 1 none (.t 36) (.t 37)) 35 true,gq 39 (.load 1 false (.t 38)) 35 true,gq 40 (.CD (.t 1)) 35 true,gq 41 (.bin .none .eql (.t 39) (.t 40)) 35 true,⟨(some 42),.CD (.t 41),(some (35,true)),true,[]⟩,gq 43 (.CD (.t 0)) 42 false,gq 44 (.CD (.t 7)) 42 false,gq 45 (.DT 1 none (.t 43) (.t 44)) 42 false,gq 46 (.load 1 false (.t 45)) 42 false,gq 47 (.call C8 [(.t 46)]) 42 false,⟨(some 48),.CD (.t 47),(some (42,false)),true,[]⟩,gq 49 (.CD (.t 1)) 48 true,gq 50 (.call C8 [(.t 49)]) 48 true,gq 51 (.pick (.t 48) (.t 50) (.c (.bool false))) 42 false,gq 52 (.pick (.t 42) (.c (.bool true)) (.t 51)) 35 true,gp 53 (.pick (.t 35) (.t 52) (.c (.bool false))),oM 4 31,oM 5 53] [4,5] .ret)))))
theorem IV:Mn Tryz.prog BQ 54 Iu [.tmp 4,.tmp 5]:=okW Tryz.func77
abbrev Xa:Ag:=(sq [gp 4 (.DE 5),gp 5 (.DE 1),oC 6 0] [0,1,4,5] (.seq (sq [oM 10 0,oT 11 10,oJ 12 .gtr 11 600,gb 13 (.CD (.t 12)),gq 14 (.CD (.t 1)) 13 false,gq 15 (.len false (.t 14)) 13 false,gq 16 (.bin .none .gtr (.t 15) (ci 80)) 13 false,gp 17 (.pick (.t 13) (.c (.bool true)) (.t 16))] [0,1,4,5,17] (.cond (.t 17) (sq [gp 4 (.DE 5),gp 5 (.DE 1),oC 6 1] [4,5,6] .ret) .skip)) (sq [oM 18 0,oG 19 Gy [(.t 18)],oM 7 19] [1,4,5,7] (.seq (sq [oM 20 1,oN 21 20,oC 22 0] [4,5,7,20,21,22] (.block 0 (.loop [7,20,21] [4,5,22] 4 (sq [oB 23 .lss 22 21] [4,5,7,20,21,22,23] (.seq (.cond (.t 23) .skip (.exit 0)) (.seq (.block 1 (sq [oI 24 8 20 22,oA 25 8 24,gp 9 (.alloc 0 [(.int .i64 0),(.int .i64 0),(.int .i64 0),(.int .i64 0),(.str []),(.int .i64 0),(.int .i64 0),(.str [])]),oS 8 9 25] [4,5,7,9,20,21,22] (sq [oM 26 4,oM 27 7,oA 28 8 9,oG 29 DB [(.t 27),(.t 28)],gp 30 (.Ax true 1 5 [(.int .i64 0),(.int .i64 0),(.int .i64 0),.AL,(.str [])] [(0,5,(.t 29))]),oP 31 5 64 26 30,oM 4 31] [4,5,7,20,21,22] (.ops [oM 32 5,oM 33 7,oK 34 33,oF 35 1 34,oL 36 35,gp 37 (.Ax true 1 1 [(.str [])] [(0,1,(.t 36))]),oP 38 1 16 32 37,oM 5 38] none [4,5,7,20,21,22])))) (.ops [oJ 39 .add 22 1,oM 22 39] none [4,5,7,20,21,22]))))))) (sq [oM 40 4,oM 41 5,oM 4 40,oM 5 41,oC 6 0] [4,5,6] .ret)))))
theorem Nz:Mn Tryz.prog DW 42 Xa [.tmp 4,.tmp 5,.tmp 6]:=okW Tryz.func5
abbrev bj:Ag:=(sq [oM 10 1,oM 8 10] [0,2,3,8] (.block 0 (.loop [0,2,3] [8] 0 (.seq (sq [oM 11 8,oM 12 2,oB 13 .lss 11 12] [0,2,3,8,13] (.cond (.t 13) .skip (.exit 0))) (.join [0,2,3] [8] 0 (.block 1 (sq [oM 16 8,oM 9 16] [0,2,3,8,9] (.seq (.block 2 (.loop [0,2,3,9] [8] 0 (.seq (sq [oM 17 8,oM 18 2,oB 19 .lss 17 18,gb 20 (.CD (.t 19)),gq 21 (.CD (.t 0)) 20 true,gq 22 (.CD (.t 8)) 20 true,gq 23 (.index 1 none false (.t 21) (.t 22)) 20 true,gq 24 (.call BB [(.t 23)]) 20 true,gp 25 (.pick (.t 20) (.t 24) (.c (.bool false)))] [0,2,3,8,9,25] (.cond (.t 25) .skip (.exit 2))) (.block 3 (.ops [oM 26 8,oJ 27 .add 26 1,oM 8 27] none [0,2,3,8,9]))))) (sq [oM 28 8,oM 29 9,oB 30 .gtr 28 29,gb 31 (.CD (.t 30)),gq 32 (.CD (.t 8)) 31 true,gq 33 (.CD (.t 9)) 31 true,gq 34 (.bin .none .sub (.t 32) (.t 33)) 31 true,gq 35 (.bin .none .leq (.t 34) (ci 12)) 31 true,gp 36 (.pick (.t 31) (.t 35) (.c (.bool false)))] [0,2,3,8,9,36] (.cond (.t 36) (.ops [oM 37 3,oM 38 0,oM 39 9,oM 40 8,gp 41 (.slice 0 (.t 38) (some (.t 39)) (some (.t 40))),oM 42 9,gp 43 (.GZ (.t 37) [(.t 41),(.t 42)])] none [0,2,3,8]) .skip))))) (.ops [oM 14 8,oJ 15 .add 14 1,oM 8 15] none [0,2,3,8]))))))
theorem YA:Mn Tryz.prog Fq 44 bj []:=okW Tryz.func54
abbrev Uj:Ag:=(sq [oV 4 (.c (.bool false))] [0,1] (sq [oM 5 0,oG 6 Dv [(.t 5)],gb 7 (.CD (.t 6)),gq 8 (.CD (.t 1)) 7 true,gq 9 (.call Dv [(.t 8)]) 7 true,gq 10 (.not (.t 9)) 7 true,gp 11 (.pick (.t 7) (.t 10) (.c (.bool false))),gb 12 (.CD (.t 11)),gq 13 (.CD (.t 0)) 12 false,gq 14 (.CD (.t 1)) 12 false,gq 15 (.bin .none .lss (.t 13) (.t 14)) 12 false,gp 16 (.pick (.t 12) (.c (.bool true)) (.t 15)),oM 4 16] [4] .ret))
theorem SN:Mn Tryz.prog E5 17 Uj [.tmp 4]:=okW Tryz.func98
abbrev SO:Ag:=(sq [oV 2 (.c (.bool false))] [0] (sq [oM 3 0,oM 4 0,oB 5 .neq 3 4,oM 2 5] [2] .ret))
theorem Qz:Mn Tryz.prog Dv 6 SO [.tmp 2]:=okW Tryz.func120
abbrev PM:Ag:=(sq [oV 2 (.c (.bool false))] [0] (sq [oM 3 0,oM 4 0,oB 5 .neq 3 4,oM 2 5] [2] .ret))
theorem OV:Mn Tryz.prog C8 6 PM [.tmp 2]:=okW Tryz.func99
end Go.Proofs.YtlibocgedgdmlaaGreat.E
end
section
set_option maxRecDepth 100000
namespace Go.Proofs.YtlibocgedgdmlaaGreat.H
open Go.Vc
abbrev EF:Nat:=3
abbrev DW:Nat:=5
abbrev B1:Nat:=6
abbrev DJ:Nat:=7
abbrev Da:Nat:=8
abbrev Gy:Nat:=15
abbrev DB:Nat:=16
abbrev Br:Nat:=17
abbrev D9:Nat:=18
abbrev B_:Nat:=19
abbrev B9:Nat:=20
abbrev Jh:Nat:=22
abbrev Dw:Nat:=23
abbrev Ge:Nat:=24
abbrev Bv:Nat:=25
abbrev CX:Nat:=26
abbrev Cs:Nat:=27
abbrev CM:Nat:=28
abbrev CN:Nat:=29
abbrev CL:Nat:=30
abbrev Cp:Nat:=31
abbrev B3:Nat:=32
abbrev Co:Nat:=33
abbrev DS:Nat:=34
abbrev CU:Nat:=35
abbrev Cx:Nat:=36
abbrev FC:Nat:=37
abbrev D4:Nat:=38
abbrev Db:Nat:=39
abbrev ET:Nat:=40
abbrev CS:Nat:=42
abbrev Dc:Nat:=45
abbrev Ah:Nat:=47
abbrev CA:Nat:=48
abbrev Bq:Nat:=49
abbrev Bp:Nat:=50
abbrev Bu:Nat:=51
abbrev CY:Nat:=52
abbrev CO:Nat:=53
abbrev Fq:Nat:=54
abbrev Bb:Nat:=55
abbrev DD:Nat:=56
abbrev Df:Nat:=57
abbrev CB:Nat:=58
abbrev BM:Nat:=59
abbrev Ai:Nat:=60
abbrev C2:Nat:=61
abbrev D3:Nat:=62
abbrev C1:Nat:=63
abbrev Gf:Nat:=64
abbrev B0:Nat:=65
abbrev BN:Nat:=68
abbrev CK:Nat:=69
abbrev Bf:Nat:=70
abbrev FB:Nat:=71
abbrev A_:Nat:=72
abbrev BT:Nat:=73
abbrev BU:Nat:=74
abbrev A9:Nat:=75
abbrev BI:Nat:=76
abbrev BQ:Nat:=77
abbrev Cy:Nat:=78
abbrev Ae:Nat:=79
abbrev FA:Nat:=80
abbrev EV:Nat:=81
abbrev FX:Nat:=82
abbrev BB:Nat:=83
abbrev B8:Nat:=86
abbrev CZ:Nat:=87
abbrev E6:Nat:=89
abbrev Cv:Nat:=90
abbrev CE:Nat:=95
abbrev Aw:Nat:=96
abbrev EG:Nat:=97
abbrev E5:Nat:=98
abbrev C8:Nat:=99
abbrev Ch:Nat:=113
abbrev Ho:Nat:=115
abbrev A8:Nat:=116
abbrev Dg:Nat:=118
abbrev Az:Nat:=119
abbrev Dv:Nat:=120
abbrev Mq:Ag:=(sq [gp 3 (.box 0 (.t 1)),oC 4 0] [0,3] (.seq (.seq (.ops [oM 7 0,oK 8 7,oF 9 0 8,oL 10 9,oT 11 10,oA 12 3 3,oG 13 B8 [(.t 11),(.t 12)],oM 5 13] (some (0,0,[0,1,2,3,4,5,6,7])) [0,3,5]) (sq [oM 14 5,oJ 15 .neq 14 0] [0,3,5,15] (.cond (.t 15) (sq [oM 16 5,oM 4 16] [4] .ret) .skip))) (.join [0,3] [] 1 (sq [oM 17 0,oK 18 17,oF 19 3 18,oL 20 19,gp 21 (.not (.t 20))] [0,3,21] (.cond (.t 21) (sq [oM 22 0,oM 23 0,oK 24 23,oF 25 1 24,oL 26 25,gp 27 (.build [.AL,.AL] []),gp 28 (.Ax true 1 2 [.AL,.AL] [(0,2,(.t 27))]),oP 29 2 48 26 28,oK 30 22,oF 31 1 30,oS 1 31 29] [0,3] (.join [0,3] [] 1 (sq [oM 32 0,oK 33 32,oF 34 1 33,oL 35 34,oN 36 35,oJ 37 .gtr 36 20] [0,3,37] (.cond (.t 37) (.ops [oM 38 0,oM 39 0,oK 40 39,oF 41 1 40,oL 42 41,gp 43 (.slice 2 (.t 42) (some (ci 1)) none),oK 44 38,oF 45 1 44,oS 1 45 43] none [0,3]) .skip)) (.ops [oM 46 0,oK 47 46,oF 48 3 47,gn (.store 1 (.t 48) (.c (.bool true)))] none [0,3]))) .skip)) (.seq (.ops [oM 49 0,oK 50 49,oF 51 1 50,oL 52 51,oM 53 0,oK 54 53,oF 55 1 54,oL 56 55,oN 57 56,oJ 58 .sub 57 1,oI 59 2 52 58,oM 6 59] (some (0,0,[0,1,2,3,4,5,6,7,8,9,10,11])) [0,3,6]) (.seq (.ops [oM 60 6,oM 61 6,oK 62 61,oF 63 0 62,oL 64 63,oA 65 3 3,gp 66 (.Ax true 1 3 [(.int .i64 0),(.int .i64 0),(.str [])] [(0,3,(.t 65))]),oP 67 3 32 64 66,oK 68 60,oF 69 0 68,oS 1 69 67] (some (0,0,[0,1,2,3,4,5,6,7,8,9,10])) [0,3,6]) (.seq (.ops [oM 70 6,oM 71 6,oK 72 71,oF 73 1 72,oL 74 73,oM 75 0,oK 76 75,oF 77 0 76,oL 78 77,oA 79 3 3,oG 80 CZ [(.t 78),(.t 79)],gp 81 (.Ax true 1 3 [(.int .i64 0),(.int .i64 0),(.str [])] [(0,3,(.t 80))]),oP 82 3 32 74 81,oK 83 70,oF 84 1 83,oS 1 84 82] (some (11,0,[0,1,2,3,4,5,6,7,8,9,10,11,12,13,14,15])) [0,3]) (.seq (.ops [oM 85 0,oM 86 0,oK 87 86,oF 88 0 87,oL 89 88,oA 90 3 3,oG 91 BU [(.t 89),(.t 90)],oK 92 85,oF 93 0 92,oS 1 93 91] (some (0,0,[0,1,2,3,4,5,6,7,8,9])) [0]) (sq [oM 94 0,oK 95 94,oF 96 2 95,gn (.store 1 (.t 96) (.c .AL))] [] (sq [oC 4 0] [4] .ret)))))))))
theorem L5:Mn Tryz.prog C1 97 Mq [.tmp 4]:=okW Tryz.func63
abbrev iT:Ag:=(sq [gp 2 (.alloc 0 [.AL,.AL]),oV 3 (.c (.bool false))] [0,2] (sq [oM 6 0,oK 7 6,oL 8 7,oN 9 8,oJ 10 .sub 9 1,oM 4 10] [0,2,4] (.seq (sq [oM 11 4,oJ 12 .lss 11 0] [0,2,4,12] (.cond (.t 12) (sq [gp 13 (.build [.AL,.AL] []),oS 2 2 13,oV 3 (.c (.bool false))] [2,3] .ret) .skip)) (sq [oM 14 0,oK 15 14,oL 16 15,oM 17 4,oI 18 2 16 17,oA 19 2 18,gp 5 (.alloc 0 [.AL,.AL]),oS 2 5 19] [0,2,4,5] (sq [oM 20 0,oM 21 0,oK 22 21,oL 23 22,oM 24 4,gp 25 (.slice 2 (.t 23) none (some (.t 24))),oK 26 20,oS 1 26 25] [2,5] (sq [oA 27 2 5,oS 2 2 27,oV 3 (.c (.bool true))] [2,3] .ret))))))
theorem UC:Mn Tryz.prog Gf 28 iT [.cell 2 2 true,.tmp 3]:=okW Tryz.func64
abbrev Lc:Ag:=(sq [oV 4 (.c .AL)] [0,1] (.seq (sq [oM 7 1,oN 8 7,oC 9 0] [0,1,7,8,9] (.block 0 (.loop [0,1,7,8] [9] 0 (sq [oB 10 .lss 9 8] [0,1,7,8,9,10] (.seq (.cond (.t 10) .skip (.exit 0)) (.seq (.block 1 (sq [oI 11 3 7 9,oA 12 3 11,gp 6 (.alloc 0 [(.int .i64 0),(.int .i64 0),(.str [])]),oS 3 6 12] [0,1,6,7,8,9] (.ops [oM 13 0,oM 14 0,oK 15 14,oF 16 0 15,oL 17 16,oA 18 3 6,oG 19 BU [(.t 17),(.t 18)],oK 20 13,oF 21 0 20,oS 1 21 19] (some (0,0,[0,1,2,3,4,5,6,7,8,9])) [0,1,7,8,9]))) (.ops [oJ 22 .add 9 1,oM 9 22] none [0,1,7,8,9]))))))) (sq [oM 23 0,oK 24 23,oF 25 3 24,gn (.store 1 (.t 25) (.c (.bool false)))] [1] (sq [oM 26 1,oM 4 26] [4] .ret))))
theorem K7:Mn Tryz.prog B0 27 Lc [.tmp 4]:=okW Tryz.func65
abbrev Mp:Ag:=(sq [gp 3 (.box 0 (.t 1)),oV 4 (.c .AL),oC 5 0] [0,3] (.seq (sq [oF 13 0 3,oL 14 13] [0,3,14] (.block 0 (sq [oJ 16 .eql 14 1,oM 15 16] [0,3,14,15] (.cond (.t 15) (.seq (sq [oM 17 0,oF 18 1 3,oA 19 3 18,oG 20 C1 [(.t 17),(.t 19)],oM 6 20] [3,6] (sq [oM 21 6,oJ 22 .neq 21 0] [3,6,22] (.cond (.t 22) (sq [oM 23 6,oV 4 (.c .AL),oM 5 23] [4,5] .ret) .skip))) (sq [oF 24 1 3,oA 25 3 24,gp 26 (.Ax false 1 3 [(.int .i64 0),(.int .i64 0),(.str [])] [(0,3,(.t 25))]),oM 4 26,oC 5 0] [4,5] .ret)) (sq [oJ 28 .eql 14 2,oM 27 28] [0,14,27] (.cond (.t 27) (sq [oM 29 0,oK 30 29,oF 31 3 30,gn (.store 1 (.t 31) (.c (.bool false)))] [] (sq [oV 4 (.c .AL),oC 5 0] [4,5] .ret)) (sq [oJ 33 .eql 14 3,oM 32 33] [0,14,32] (.cond (.t 32) (sq [oM 35 0,oK 36 35,oF 37 1 36,oG 38 Gf [(.t 37)],oM 34 38,oX 39 34 0,oX 40 34 1,gp 7 (.alloc 0 [.AL,.AL]),oS 2 7 39,oM 8 40] [0,7,8] (.seq (sq [oM 41 8,gp 42 (.not (.t 41))] [0,7,42] (.cond (.t 42) (sq [oV 4 (.c .AL),oC 5 7] [4,5] .ret) .skip)) (sq [gp 9 (.DE 3)] [0,7,9] (.seq (sq [oF 43 1 7,oL 44 43,oN 45 44,oJ 46 .sub 45 1,oM 10 46] [0,7,9,10] (.block 1 (.loop [0,7] [9,10] 3 (.seq (sq [oM 47 10,oJ 48 .geq 47 0] [0,7,9,10,48] (.cond (.t 48) .skip (.exit 1))) (.seq (.block 2 (.ops [oM 51 9,oF 52 1 7,oL 53 52,oM 54 10,oI 55 3 53 54,oA 56 3 55,gp 57 (.Ax true 1 3 [(.int .i64 0),(.int .i64 0),(.str [])] [(0,3,(.t 56))]),oP 58 3 32 51 57,oM 9 58] none [0,7,9,10])) (.ops [oM 49 10,oJ 50 .sub 49 1,oM 10 50] none [0,7,9,10])))))) (.seq (.ops [oM 59 0,oM 60 0,oK 61 60,oF 62 2 61,oL 63 62,oA 64 2 7,gp 65 (.Ax true 1 2 [.AL,.AL] [(0,2,(.t 64))]),oP 66 2 48 63 65,oK 67 59,oF 68 2 67,oS 1 68 66] (some (0,0,[0,1,2,3,4,5,6,7,8,9,10])) [0,9]) (sq [oM 69 0,oM 70 9,oG 71 B0 [(.t 69),(.t 70)],oM 4 71,oC 5 0] [4,5] .ret)))))) (sq [oJ 73 .eql 14 4,oM 72 73] [0,72] (.cond (.t 72) (sq [oM 75 0,oK 76 75,oF 77 2 76,oG 78 Gf [(.t 77)],oM 74 78,oX 79 74 0,oX 80 74 1,gp 11 (.alloc 0 [.AL,.AL]),oS 2 11 79,oM 12 80] [0,11,12] (.seq (sq [oM 81 12,gp 82 (.not (.t 81))] [0,11,82] (.cond (.t 82) (sq [oV 4 (.c .AL),oC 5 7] [4,5] .ret) .skip)) (.seq (.ops [oM 83 0,oM 84 0,oK 85 84,oF 86 1 85,oL 87 86,oA 88 2 11,gp 89 (.Ax true 1 2 [.AL,.AL] [(0,2,(.t 88))]),oP 90 2 48 87 89,oK 91 83,oF 92 1 91,oS 1 92 90] (some (0,0,[0,1,2,3,4,5,6,7,8,9,10])) [0,11]) (sq [oM 93 0,oF 94 0 11,oL 95 94,oG 96 B0 [(.t 93),(.t 95)],oM 4 96,oC 5 0] [4,5] .ret)))) .skip)))))))))) (sq [oV 4 (.c .AL),oC 5 3] [4,5] .ret)))
theorem L4:Mn Tryz.prog CS 97 Mp [.tmp 4,.tmp 5]:=okW Tryz.func42
abbrev iS:Ag:=(sq [oV 2 (.c .B4)] [0] (sq [oM 3 0,gp 4 (.build [(.str []),.AL,.AL,(.bool false)] [(0,1,(.t 3))]),gp 5 (.box 0 (.t 4)),oM 2 5] [2] .ret))
theorem UB:Mn Tryz.prog Ge 6 iS [.tmp 2]:=okW Tryz.func24
abbrev dJ:Ag:=(sq [oV 4 (.c .B4),oV 5 (.c .AL),oV 6 (.c .AL),oC 7 0] [0,1] (.seq (sq [oM 15 0,oT 16 15,oJ 17 .gtr 16 600,gb 18 (.CD (.t 17)),gq 19 (.CD (.t 1)) 18 false,gq 20 (.len false (.t 19)) 18 false,gq 21 (.bin .none .gtr (.t 20) (ci 80)) 18 false,gp 22 (.pick (.t 18) (.c (.bool true)) (.t 21))] [0,1,22] (.cond (.t 22) (sq [oV 4 (.c .B4),oV 5 (.c .AL),oV 6 (.c .AL),oC 7 1] [4,5,6,7] .ret) .skip)) (sq [oM 23 0,oG 24 Ge [(.t 23)],oM 8 24] [1,8] (sq [gp 9 (.DE 1)] [1,8,9] (sq [gp 10 (.DE 1)] [1,8,9,10] (.seq (sq [oM 25 1,oN 26 25,oC 27 0] [8,9,10,25,26,27] (.block 0 (.loop [8,25,26] [9,10,27] 2 (sq [oB 28 .lss 27 26] [8,9,10,25,26,27,28] (.seq (.cond (.t 28) .skip (.exit 0)) (.seq (.block 1 (sq [oI 29 4 25 27,oA 30 4 29,gp 12 (.alloc 0 [(.int .i64 0),(.int .i64 0),(.int .i64 0),(.str [])]),oS 4 12 30] [8,9,10,12,25,26,27] (sq [oM 32 8,oA 33 4 12,oG 34 CS [(.t 32),(.t 33)],oM 31 34,oX 35 31 0,oX 36 31 1,oM 13 35,oM 14 36] [8,9,10,14,25,26,27] (.ops [oM 37 9,oM 38 8,oK 39 38,oF 40 0 39,oL 41 40,gp 42 (.Ax true 1 1 [(.str [])] [(0,1,(.t 41))]),oP 43 1 16 37 42,oM 44 10,oM 45 14,gp 46 (.Ax true 1 1 [(.int .i64 0)] [(0,1,(.t 45))]),oP 47 1 8 44 46,oM 9 43,oM 10 47] none [8,9,10,25,26,27])))) (.ops [oJ 48 .add 27 1,oM 27 48] none [8,9,10,25,26,27]))))))) (sq [oM 49 8,oM 50 9,oM 51 10,oM 4 49,oM 5 50,oM 6 51,oC 7 0] [4,5,6,7] .ret)))))))
theorem aG:Mn Tryz.prog Jh 52 dJ [.tmp 4,.tmp 5,.tmp 6,.tmp 7]:=okW Tryz.func22
end Go.Proofs.YtlibocgedgdmlaaGreat.H
end
section
namespace Go.Vc
section
variable {H : HF} {TS : List CI} {S : AB} {E : Env} {fz : Nat -> Prop} {w : World}
end
structure Cr where
 args:Ky
 kt:Ky
 wI:Ts kt->List TV
 dec:List TV->Option (Ts kt)
 pre:Ts kt->Ts args->Prop
 rt:Ty
 fn:Ts kt->Ts args->T rt
section
variable {P : Program} {Γ : List (Nat × Ct)}
end
theorem AN.split {H:HF}: ∀ {xs zs:List TV} {ys:List AA},AN H (xs++zs) ys-> ∃us ws,ys=us++ws/\AN H xs us/\AN H zs ws
 | [],zs,ys,h=>⟨[],ys,rfl,by simp [AN],h⟩
 | x::xs,zs,ys,h=>by
  simp only [List.cons_append,AN] at h;obtain ⟨y,ys',rfl,h1,h2⟩:=h;obtain ⟨us,ws,rfl,g1,g2⟩:=AN.split h2;exact ⟨y::us,ws,rfl,by simp only [AN];exact ⟨_,_,rfl,h1,g1⟩,g2⟩
end Go.Vc
end
section
namespace Go.Vc
open Go.Sort Go.Shelf Go.Proofs
structure xF {α:Type} (cf:α->α->Int) (ls:List α):Prop where
 irrefl: ∀x∈ls,¬cf x x<0
 trans: ∀x∈ls,∀y∈ls,∀z∈ls,cf x y<0->cf y z<0->cf x z<0
 ntrans: ∀x∈ls,∀y∈ls,∀z∈ls,¬cf x y<0-> ¬cf y z<0-> ¬cf x z<0
theorem W8 {α:Type} [Inhabited α] {enc:α->Value} {w:World} {b off m:Nat} {dk:Array α} {os:Array Obj} {arr:Array Value} {T:TypeId} {fr:Nat×Nat} (hb:w.heap[b]?=some (.cells arr T fr)):
  (sortWorld enc w b off m dk os).heap[b]?=some (.cells (putCells enc off dk arr) T fr)/\(∀b':Nat,b'≠b->b'<w.heap.size->(sortWorld enc w b off m dk os).heap[b']?=w.heap[b']?)/\w.heap.size<=(sortWorld enc w b off m dk os).heap.size:=by
 have e:(sortWorld enc w b off m dk os).heap=w.heap.modify b (onCells (putCells enc off dk))++os:=rfl;have hlt:b<w.heap.size:=(Array.getElem?_eq_some_iff.1 hb).1;refine ⟨?_,fun b' hb' hl=>?_,?_⟩
 ·rw [e,Array.getElem?_append_left (by simpa using hlt),Array.getElem?_modify,if_pos rfl,hb];rfl
 ·rw [e,Array.getElem?_append_left (by simpa using hl),Array.getElem?_modify,if_neg (Ne.symm hb')]
 ·rw [e];simp
abbrev Hz (ls:List Int):List AA:=ls.map (AA.int .i64)
structure Cq where
 g:Nat
 kt:Ky
 wI:Ts kt->List TV
 dec:List TV->Option (Ts kt)
 pre:Ts kt->Int->Int->Prop
 fn:Ts kt->Int->Int->Int
def Cq.cr (q:Cq):Cr:=⟨.cons (.int .i64) (.cons (.int .i64) .nil),q.kt,q.wI,q.dec,fun k x=>q.pre k x.1 x.2,.int .i64,fun k x=>q.fn k x.1 x.2⟩
end Go.Vc
end
section
namespace Go.Vc
open Go.Sort Go.Shelf Go.Proofs
def Kp (ls:List Int):List Int:=ls.mergeSort fun x y=>decide (x<=y)
theorem bR (ls:List Int):(Kp ls).length=ls.length:=by unfold Kp;exact List.length_mergeSort ls
theorem dO {P:Program} {ρ:Ren} (L:SlLaysM.n5 P ρ) (ha:DC P (ρ.f 5)=true) {p ver:Nat} {S:AB} {ls:List Int} (hp:S[p]?=some (.row ver 1 (Hz ls))) (hlen:ls.length<4611686018427387904):
  AV P (ρ.f 5) [.sl p ver 0 ls.length] S fun r S'=>r= .DH []/\S'=S.set p (.row ver 1 (Hz (Kp ls))):=by
 refine ⟨fun E fz w vals st hrel=>?_⟩;simp only [AZ] at hrel;obtain ⟨v1,_,rfl,r1,rfl⟩:=hrel;simp only [Rel] at r1;have hlt:p<S.length:=(List.getElem?_eq_some_iff.1 hp).1;cases ls with
 | nil=>
  have e: ∃a c,v1= .slice a 0 c:=by
   rcases r1 with ⟨_,a,rfl⟩ | ⟨b,base,cap,kk,c,e1,e2,e3,rfl⟩
   ·exact ⟨a,0,rfl⟩
   ·exact ⟨_,c,rfl⟩
  obtain ⟨a,c,rfl⟩:=e;refine .inl ⟨ha,(AnyM.slices_Sort_int_none L a c w).mono ?_⟩;rintro e w' ⟨rfl,rfl⟩;have e0:S.set p (.row ver 1 (Hz (Kp [])))=S:=by
   apply List.ext_getElem?
   intro i;by_cases h:i=p
   ·subst h;rw [List.getElem?_set_self hlt,hp,show Kp []=[] by simp [Kp]]
   ·rw [List.getElem?_set_ne (Ne.symm h)]
  refine ⟨.DH [],_,.tuple #[],E,fz,rfl,?_,?_,?_,rfl,rfl⟩
  ·rw [e0];exact Ext.refl
  ·rw [e0];exact st
  ·simp only [Rel,AZ];exact ⟨[],rfl,rfl⟩
 | cons a r=>
  rcases r1 with ⟨h0,_⟩ | ⟨b,base,cap,kk,c,e1,e2,e3,rfl⟩
  ·cases h0
  rcases st.ok p _ hp with ⟨g1,g2⟩ | ⟨b',base',cap',arr,T,lo,hi,g1,g2,g3,g4,g5,g6,g7⟩
  ·rw [e1] at g1;cases g1
  rw [e1] at g1;cases g1;have hlt':b<w.heap.size:=(Array.getElem?_eq_some_iff.1 g2).1;have hln:(Hz (a::r)).length=(a::r).length:=by simp
  have hH:Holds (Value.int .i64) w b base (a::r).toArray:=fun j hj=>by
   have hj:j<(a::r).length:=by simpa using hj
   have hx:(Hz (a::r))[j]?=some (.int .i64 (a::r)[j]):=by
    rw [List.getElem?_map,List.getElem?_eq_getElem hj];rfl
   obtain ⟨c',hc,_,hrel⟩:=g6.get hx;simp only [Rel] at hrel;subst hrel;refine ⟨by rw [hc,getElem!_pos _ j (by simpa using hj)];simp,?_⟩;rw [Gz g2];rw [hln] at g4;rcases g5 with g5 | g5
   ·subst g5;by_cases q:lo<=base+j
    ·have: ¬base+j<lo:=by omega
     simp [this]
    ·simp [q]
   ·have: ¬lo<=base+j:=by omega
    simp [this]
  refine .inl ⟨ha,(AnyM.slices_Sort_int L b base c (a::r) w hH hlt' hlen).mono ?_⟩;rintro e w' ⟨rfl,n,os,rfl⟩;have hsl:=bR (a::r);obtain ⟨k1,k2,k3⟩:=W8 (enc:=Value.int .i64) (off:=base) (m:=n) (dk:=(Kp (a::r)).toArray) (os:=os) g2;obtain ⟨q1,q2⟩:=st.fy (E':=E) (S':=S.set p (.row ver 1 (Hz (Kp (a::r))))) (w':=sortWorld (Value.int .i64) w b base n (Kp (a::r)).toArray os) p (.row ver 1 (Hz (Kp (a::r)))) (fun _ _ h=>h) st.fresh
   (fun l' hl'=>by rw [List.getElem?_set_ne (Ne.symm hl')]) (by rw [List.getElem?_set_self hlt]) k3 (fun b' hb' hno=>k2 b' (fun e=>hno (by subst e;exact ⟨_,hp,by simp [AU,e1]⟩)) hb')
   (fun b' hb'=>.inl (by simp [AU,e1] at hb';subst hb';exact ⟨_,hp,by simp [AU,e1]⟩))
   (.inr ⟨b,base,cap,putCells (Value.int .i64) base (Kp (a::r)).toArray arr,T,lo,hi,e1,k1,by simpa [putCells] using g3,by
    rw [hln] at g4;simp only [Hz,List.length_map,hsl];exact g4,by simpa [putCells] using g5,Ck.mk fun i x hx=>(by
     have hi':i<(Kp (a::r)).length:=by
      rcases Nat.lt_or_ge i (Kp (a::r)).length with h | h
      ·exact h
      ·rw [List.getElem?_eq_none (by simpa using h)] at hx;cases hx
     have ex:x= .int .i64 ((Kp (a::r))[i]'hi'):=by
      simp only [Hz,List.getElem?_map,List.getElem?_eq_getElem hi',Option.map_some,Option.some.injEq] at hx;exact hx.symm
     subst ex;rw [hln] at g4;rw [hsl] at hi';refine ⟨.int .i64 ((Kp (a::r))[i]'(by rw [hsl];exact hi')),?_,rfl,by simp only [Rel]⟩;rw [Ce k1];simp only [putCells,Array.getElem?_mapIdx,Array.getElem?_eq_getElem (show base+i<arr.size by omega),Option.map_some];rw [if_pos ⟨by omega,by simp only [List.size_toArray];omega⟩,show base+i-base=i by omega,getElem!_pos _ i (by simp only [List.size_toArray];omega)];simp),g7⟩) rfl rfl (Tp.of rfl (by show w.drawn<=w.drawn+n;omega))
  exact ⟨.DH [],_,.tuple #[],E,fz,rfl,q2,q1,by simp only [Rel,AZ];exact ⟨[],rfl,rfl⟩,rfl,rfl⟩
end Go.Vc
end
section
set_option maxRecDepth 100000
namespace Go.Proofs.YtlibocgedgdmlaaGreat.E
open Go.Vc Go.Fu
abbrev ints (l:List Int):List AA:=l.map (AA.int .i64)
theorem JV (l:List Int):DV (.sl tI) l= .Ez l.length (ints l):=by
 show AA.Ez l.length (l.flatMap (fun a=>[AA.int .i64 a]))=_;congr 1
 induction l with
 | nil=>rfl
 | cons a l ih=>rw [List.flatMap_cons,ih];rfl
theorem ints_at {l:List Int} {j:Nat} {a:Int} (h:l[j]?=some a):takeN 1 ((ints l).drop (j*1))=some [.int .i64 a]:=by
 have hj:=(List.getElem?_eq_some_iff.1 h).1;rw [Nat.mul_one,List.drop_eq_getElem_cons (by simpa using hj)];simp [takeN,(List.getElem?_eq_some_iff.1 h).2]
abbrev cq (D:List Span):List AA:=D.flatMap fun s=>[AA.int .i64 s.1,.int .i64 s.2]
theorem iJ (s:Span) (D:List Span):cq (s::D)= .int .i64 s.1:: .int .i64 s.2::cq D:=rfl
theorem cv: ∀ {D:List Span} {j:Nat} {s:Span},D[j]?=some s->takeN 2 ((cq D).drop (j*2))=some [.int .i64 s.1,.int .i64 s.2]
 | [],j,s,h=>by simp at h
 | a::D,0,s,h=>by simp at h;subst h;rfl
 | a::D,j+1,s,h=>by
  have:=cv (D:=D) (j:=j) (s:=s) (by simpa using h);rw [show (j+1)*2=j*2+1+1 by omega,iJ,List.drop_succ_cons,List.drop_succ_cons];exact this
def cellsOf:List Bytes->List Bool->List AA
 | l::L,k::K=>.int .i64 (if k=true then (BJ l).1 else 0):: .bool k::cellsOf L K
 | _,_=>[]
theorem Jc: ∀ {L:List Bytes} {K:List Bool},K.length=L.length->(cellsOf L K).length=K.length*2
 | [],[],_=>rfl
 | l::L,k::K,h=>by simp only [cellsOf,List.length_cons];have:=Jc (L:=L) (K:=K) (by simpa using h);omega
 | [],k::K,h=>by simp at h
 | l::L,[],h=>by simp at h
theorem P8: ∀ {L:List Bytes} {K:List Bool} {j:Nat} {l:Bytes} {k:Bool},L[j]?=some l->K[j]?=some k->takeN 2 ((cellsOf L K).drop (j*2))=some [.int .i64 (if k=true then (BJ l).1 else 0),.bool k]
 | [],K,j,l,k,h,_=>by simp at h
 | a::L,[],j,l,k,_,h=>by simp at h
 | a::L,b::K,0,l,k,h,h'=>by simp at h h';subst h h';rfl
 | a::L,b::K,j+1,l,k,h,h'=>by
  have:=P8 (L:=L) (K:=K) (j:=j) (l:=l) (k:=k) (by simpa using h) (by simpa using h');rw [show (j+1)*2=j*2+1+1 by omega];simpa [cellsOf] using this
def GJ:List (Option Bytes)->List AA->HM->Prop
 | [],cs,m=>cs=[]/\m=HM.nil
 | none::l,cs,m=> ∃cs',cs= .B4::cs'/\GJ l cs' m
 | some t::l,cs,m=> ∃p v cs' m',cs= .ptr p v 0::cs'/\m=pt p (.row v 0 [.str t])+m'/\GJ l cs' m'
theorem GJ.len: ∀ {l:List (Option Bytes)} {cs:List AA} {m:HM},GJ l cs m->cs.length=l.length
 | [],cs,m,h=>by rw [h.1];rfl
 | none::l,cs,m,⟨cs',h1,h⟩=>by rw [h1,List.length_cons,GJ.len h];rfl
 | some t::l,cs,m,⟨p,v,cs',m',h1,_,h⟩=>by rw [h1,List.length_cons,GJ.len h];rfl
theorem GJ.at_: ∀ {l:List (Option Bytes)} {cs:List AA} {m:HM},GJ l cs m-> ∀ {j:Nat},j<l.length->(l[j]?=some none/\cs[j]?=some .B4/\ ∀t p v,GJ (l.set j (some t)) (cs.set j (.ptr p v 0)) (pt p (.row v 0 [.str t])+m))\/
  ∃t p v R,l[j]?=some (some t)/\cs[j]?=some (.ptr p v 0)/\m=pt p (.row v 0 [.str t])+R/\GJ (l.set j none) (cs.set j .B4) R
 | [],cs,m,h,j,hj=>by simp at hj
 | none::l,cs,m,⟨cs',h1,h⟩,0,hj=>by
  subst h1;exact .inl ⟨rfl,rfl,fun t p v=>⟨p,v,cs',m,rfl,rfl,h⟩⟩
 | some t::l,cs,m,⟨p,v,cs',m',h1,h2,h⟩,0,hj=>by
  subst h1;exact .inr ⟨t,p,v,m',rfl,rfl,h2,cs',rfl,h⟩
 | none::l,cs,m,⟨cs',h1,h⟩,j+1,hj=>by
  subst h1;rcases GJ.at_ h (j:=j) (by simpa using hj) with ⟨g1,g2,g3⟩ | ⟨t,p,v,R,g1,g2,g3,g4⟩
  ·exact .inl ⟨by simpa using g1,by simpa using g2,fun t p v=>⟨_,rfl,g3 t p v⟩⟩
  ·exact .inr ⟨t,p,v,R,by simpa using g1,by simpa using g2,g3,_,rfl,g4⟩
 | some t0::l,cs,m,⟨p0,v0,cs',m',h1,h2,h⟩,j+1,hj=>by
  subst h1;rcases GJ.at_ h (j:=j) (by simpa using hj) with ⟨g1,g2,g3⟩ | ⟨t,p,v,R,g1,g2,g3,g4⟩
  ·refine .inl ⟨by simpa using g1,by simpa using g2,fun t p v=>⟨p0,v0,_,_,rfl,?_,g3 t p v⟩⟩;rw [h2];ac_rfl
  ·refine .inr ⟨t,p,v,pt p0 (.row v0 0 [.str t0])+R,by simpa using g1,by simpa using g2,?_,p0,v0,_,R,rfl,rfl,g4⟩;rw [h2,g3];ac_rfl
abbrev vZ (s:Bytes):AA:= .Ez (Ab s).length (ints (Ab s))
abbrev rC (D:List Span):AA:= .Ez D.length (cq D)
abbrev gC (lh vh:Nat) (s:Bytes) (lm vm:Nat) (D:List Span) (xc:AA) (sc:List AA):List AA:= .ptr lh vh 0:: .str s::vZ s:: .map lm vm::rC D::xc::sc
def D0 (t:P4) (r:AA) (m:HM):Prop:= ∃x,r= .agg [.int .i64 t.1,.int .i64 t.2.1,.int .i64 t.2.2.1,x,.str t.2.2.2.2]/\Ed 1 x (ints t.2.2.2.1) t.2.2.2.1.length m
theorem D0.plain {c n m:Int} {s:Bytes}:D0 (c,n,m,[],s) (.agg [.int .i64 c,.int .i64 n,.int .i64 m,.AL,.str s]) HM.nil:=⟨.AL,rfl,Ed.nil⟩
theorem Kg (c:Int):RC Tryz.prog DS [.int .i64 c] (.agg [.int .i64 c,.int .i64 0,.int .i64 0,.AL,.str []]):=by
 refine RC.val ?_;intro S mf hS;refine JU Z0 ?_;refine Z3 fun v2 l2 S hS=>?_;refine Z7 fun S hS=>?_;refine Z6 ?_;exact ⟨_,rfl,hS.right⟩
theorem ji (v:Int) (k:Bool):RC Tryz.prog C2 [.agg [.int .i64 v,.bool k]] (.bool (!k)):=by
 refine RC.val ?_;intro S mf hS;refine JU RB ?_;refine Z3 fun v1 l1 S hS=>?_;refine rz ?_;exact ⟨_,rfl,hS.right⟩
end Go.Proofs.YtlibocgedgdmlaaGreat.E
end
section
set_option maxRecDepth 100000
namespace Go.Proofs.YtlibocgedgdmlaaGreat.E
open Go.Vc Go.Fu
variable {lg vg lh vh lm vm : Nat} {s : Bytes} {D : List Span} {xc : AA} {sc : List AA}
theorem WJ (hL:BV Tryz.prog Bu DX) (hs:s.length<=600) {at_:Int} {S:AB} {K:AA->AB->Prop} (h0:0<=at_) (h1:at_<=s.length) (h:K (.DH [.int .i64 (posOf (s.take at_.toNat)).2.1,.int .i64 0]) S):AV Tryz.prog Bu [vZ s,.int .i64 at_] S K:=by
 have ok:=Oc hs;have e:E7 (Ab s) at_=((posOf (s.take at_.toNat)).2.1,0):=by
  unfold E7 H6;rw [if_neg (by simpa using ok),if_neg (by omega),ir h0 h1]
 have:=hL.plain (S:=S) (K:=K) (Ab s,at_) (by show (Ab s).length<=_;have:=Qb ok;omega) rfl (by
  show K (.DH [.int .i64 (E7 (Ab s) at_).1,.int .i64 (E7 (Ab s) at_).2]) S;rw [e];exact h)
 have e2:F5 (Mg (.sl tI) tI) (Ab s,at_)=[vZ s,.int .i64 at_]:=by
  show [DV (.sl tI) (Ab s),.int .i64 at_]=_;rw [JV]
 rw [<-e2];exact this
theorem WI {i:Nat} {l:Bytes} (hl:(AH s)[i]?=some l) (hs:s.length<=1000000):HC Tryz.prog CB [.ptr lg vg 0,.int .i64 (i:Int)] (pt lg (.row vg 0 (gC lh vh s lm vm D xc sc))) fun r m'=>r= .str l/\m'=pt lg (.row vg 0 (gC lh vh s lm vm D xc sc)):=by
 intro S mf hS;obtain ⟨k,h1,h2,h3,h4,h5⟩:=tE hl;have hn:=Qa s;have hi:=(List.getElem?_eq_some_iff.1 hl).1;have hcl:=(DY s).1;have t1:=ints_at h1;refine JU LZ ?_;refine rz ?_;refine Hu fun K hK=>?_;have rest:K [.int .i64 ((k+l.length:Nat):Int)] S:=by
  refine hK _ _ rfl ?_;dsimp only [Er,List.map,Frame.get];refine Z1 ?_;refine Cw hS fun S hS=>?_;refine ju ?_;refine AX (WZ rfl ⟨_,rfl⟩ ⟨_,rfl⟩ (by omega) (by omega) (Dj ?_));dsimp only [AK,rd,Frame.get];refine Z7 ?_;exact ⟨_,⟨by rw [h3],rfl⟩,hS⟩
 refine ra ?_;refine Av rfl (fun hlt=>?_) (fun hlt=>?_)
 ·have t2:=ints_at (h4 (by omega));refine Z7 ?_;refine AX ?_;rw [show ((i:Int)+1)=((i+1:Nat):Int) by omega];refine WY rfl rfl (by omega) t2 ?_;refine Z6 ?_;rw [show ((k+l.length:Nat):Int)+1-1=((k+l.length:Nat):Int) by omega];exact rest
 ·have:=h5 (by omega);refine Z2 ?_;rw [<-this];exact rest
theorem dZ (hL:BV Tryz.prog Bu DX) (hs:s.length<=600) (n:Int):HC Tryz.prog CM [.ptr lg vg 0,.int .i64 n] (pt lg (.row vg 0 (gC lh vh s lm vm D xc sc))) fun r m'=>D0 (Gk s n) r HM.nil/\m'=pt lg (.row vg 0 (gC lh vh s lm vm D xc sc)):=by
 intro S mf hS;refine JU KU ?_;by_cases c1:n<0
 ·have e:Gk s n=(2,0,0,[],[]):=by unfold Gk FP;rw [if_pos (.inl c1)]
  refine Z3 fun v4 l4 S hS=>?_;refine Z7 ?_;refine AX ?_;refine Am (BF (fun hg=>?_) (fun hg=>by exfalso;omega));dsimp only [AK,rd,Frame.get];refine Nn ?_;refine BS rfl (fun _=>?_) (fun hb=>by cases hb);refine Z3 ?_;refine (Kg 2).use ?_;refine Z2 fun S hS=>?_;refine Z7 ?_;rw [e];exact ⟨_,⟨D0.plain,rfl⟩,hS.right⟩
 by_cases c2:(s.length:Int)<n
 ·have e:Gk s n=(2,0,0,[],[]):=by unfold Gk FP;rw [if_pos (.inr c2)]
  refine Z3 fun v4 l4 S hS=>?_;refine Z7 ?_;refine AX ?_;refine Am (BF (fun hg=>by exfalso;omega) (fun hg=>?_));dsimp only [AK,rd,Frame.get];refine Nn ?_;refine Av rfl (fun _=>?_) (fun hb=>by exfalso;omega);refine Z3 ?_;refine (Kg 2).use ?_;refine Z2 fun S hS=>?_;refine Z7 ?_;rw [e];exact ⟨_,⟨D0.plain,rfl⟩,hS.right⟩
 obtain ⟨i,hi,hi2,k,hk,hk2⟩:=nt (s:=s) (at_:=n) (by omega) (by omega);have e:Gk s n=(0,(i:Int),n-k,[],[]):=by unfold Gk FP;rw [if_neg (by omega),hi,hk2]
 have t1:=ints_at hk;have ok:=Oc hs;have hkm:=XB ok (List.mem_of_getElem? hk);refine Z3 fun v4 l4 S hS=>?_;refine Z7 ?_;refine AX ?_;refine Am (BF (fun hg=>by exfalso;omega) (fun hg=>?_));dsimp only [AK,rd,Frame.get];refine Nn ?_;refine Av rfl (fun hb=>by exfalso;omega) (fun _=>?_);refine Nn ?_;refine WJ hL hs (by omega) (by omega) ?_;rw [<-hi];refine yJ fun S hS=>?_;refine Z6 ?_;rw [e];exact ⟨_,⟨D0.plain,rfl⟩,hS.right⟩
theorem V9 {p v off:Nat} {cs:List AA} {L:List Bytes} {K:List Bool} (hK:K.length=L.length) (hle:off+K.length*2<=cs.length) (hcs:cellsOf L K=A6 cs off (K.length*2)) (hl:K.length<=140737488351232):
  HC Tryz.prog Ae [.sl p v off K.length,.fn (.func C2) [] []] (pt p (.row v 2 cs)) fun r m'=>m'=pt p (.row v 2 cs)/\((r= .int .i64 (-1)/\ ∀k∈K,k=true)\/ ∃i:Nat,r= .int .i64 (i:Int)/\K[i]?=some false/\ ∀k∈K.take i,k=true):=by
 intro S mf hS;refine JU FN ?_;refine gJ ?_;refine GY (fun k xs S=> ∃j:Nat,xs=[.int .i64 (j:Int)]/\j<=K.length/\k=K.length-j/\(∀k∈K.take j,k=true)/\Has S (pt p (.row v 2 cs)+mf)) K.length ⟨0,rfl,Nat.zero_le _,rfl,fun s hs=>by simp at hs,hS⟩ ?_;clear hS;rintro k xs S hl' ⟨j,rfl,hj,rfl,he,hS⟩;dsimp only [Er,List.map,Frame.get];refine Z6 ?_;refine Av rfl (fun hlt=>?_) (fun hlt=>?_)
 ·have h1:L[j]?=some L[j]:=List.getElem?_eq_getElem (by omega);obtain ⟨b,h2⟩: ∃b,K[j]?=some b:=⟨_,List.getElem?_eq_getElem (by omega)⟩
  have ht:takeN 2 (List.drop (off+j*2) cs)=some [.int .i64 (if b=true then (BJ L[j]).1 else 0),.bool b]:=by
   rw [Ku hle (show j<K.length by omega),<-hcs];have:=P8 h1 h2;rw [FJ _ _ (by rw [List.length_drop,Jc hK];omega)] at this;exact this
  refine w7 ?_;refine AX (af rfl ?_);dsimp only [List.map,AK,rd,Frame.get];refine (ji _ _).use ?_;refine Z3 ?_;refine BS rfl (fun hd=>?_) (fun hd=>?_)
  ·have hb:b=false:=by simpa using hd
   subst hb;refine rz ?_;exact ⟨_,⟨rfl,.inr ⟨j,rfl,h2,he⟩⟩,hS⟩
  ·have hb:b=true:=by simpa using hd
   subst hb;refine Z8 ?_;refine ⟨K.length-(j+1),by omega,j+1,rfl,by omega,rfl,fun s hs=>?_,hS⟩;rw [List.take_add_one,h2] at hs;rcases List.mem_append.1 hs with hs | hs
   ·exact he s hs
   ·simp at hs;exact hs
 ·obtain rfl:j=K.length:=by omega
  rw [List.take_of_length_le (Nat.le_refl _)] at he;refine gJ ?_;exact ⟨_,⟨rfl,.inl ⟨rfl,he⟩⟩,hS⟩
theorem YM (s:Bytes):0<(AH s).length:=List.length_pos_iff.2 (Je s)
theorem XT {p v off:Nat} {cs:List AA} {L:List Bytes} {K:List Bool} (hK:K.length=L.length) (hle:off+K.length*2<=cs.length) (hcs:cellsOf L K=A6 cs off (K.length*2)) (hl:K.length<=140737488351232):
  HC Tryz.prog Ai [.sl p v off K.length,.fn (.func C2) [] []] (pt p (.row v 2 cs)) fun r m'=>m'=pt p (.row v 2 cs)/\ ∃b:Bool,r= .bool b/\(b=false↔ ∀k∈K,k=true):=by
 intro S mf hS;refine JU Eu ?_;refine Nn ?_;refine HC.use (V9 hK hle hcs hl) hS ?_;rintro r m' S ⟨rfl,hr⟩ hS;obtain ⟨i,rfl,hi⟩: ∃i:Int,r= .int .i64 i/\(decide (0<=i)=false↔ ∀k∈K,k=true):=(by
   rcases hr with ⟨rfl,h⟩ | ⟨i,rfl,h1,h2⟩
   ·exact ⟨-1,rfl,fun _=>h,fun _=>rfl⟩
   ·exact ⟨(i:Int),rfl,fun q=>absurd q (by simp),fun q=>absurd (q false (List.mem_of_getElem? h1)) (by simp)⟩)
 refine Z9 ?_;exact ⟨_,⟨rfl,_,rfl,hi⟩,hS⟩
end Go.Proofs.YtlibocgedgdmlaaGreat.E
end
