/- Part of the proof of enginePlays_holds: the whole is true of every input. Conditions: none. -/
import Derived.Test.YtlibocgedgdmlaaGreatP8
import Derived.Test.YtlibocgedgdmlaaGreatProg
set_option linter.all false
section
namespace Go.Vc
theorem IP {p q:Prop} (h:p) (e:p=q):q:=e▸h
def Yl (ts:Ky):Ct:=⟨ts,[.val .bool],eC ts,fun _=>true⟩
theorem tC {P:Program} {f:FuncId} {ts:Ky} (h:BV P f (Yl ts)) (x:Ts ts) (hx:eC ts x):DC P f=true/\AV P f (F5 ts x) [] (fun r _=>r= .bool true):=
 ⟨h.1,⟨fun E fz w vals st hrel=>((h.2 x hx).out E fz w vals st hrel).mono fun e w' ⟨r,S',v,E',fz',h1,h2,h3,h4,h5⟩=>by
  obtain ⟨ys,h6,rfl⟩:=h5;simp only [Yl,IQ] at h6;obtain ⟨ys',rfl,rfl,h7⟩:=h6;exact ⟨_,S',v,E',fz',h1,h2,h3,h4,rfl⟩⟩⟩
def xG (P:Program) (f:Nat) (s:Sp):Prop:= ∀ {xs:List TV} {G:List RF} {TS:List CI} {ps:List Prop} {y:TV} {G':List RF} {TS':List CI},s.ev xs G TS=some (ps,y,G',TS')->GI ps->
 ∀ {H:HF} {S:AB} {AG:List Frame} {ys:List AA},Dn H TS S->EE H G AG->AN H xs ys->AV P f ys S fun r S'=> ∃H',Dn H' TS' S'/\EE H' G' AG/\AE H' y r
structure Ex (P:Program) (f:Nat) (fi:Fi):Prop where
 Hs:fi.sp=none->DC P f=true
 out: ∀ {args:List AA} {S:AB} {R:AA->AB->Prop},fi.sp=none->lI P fi.code fi.res args S R->args.length<=fi.n->AV P f args S R
 sum: ∀s,fi.sp=some s->xG P f s
def ug (P:Program):List (Nat×Fi)->Prop
 | []=>True
 | (f,fi)::L=>Ex P f fi/\ug P L
theorem ug.look {P:Program}: ∀ {L:List (Nat×Fi)} {f:Nat} {fi:Fi},ug P L->BL L f=some fi->Ex P f fi
 | [],_,_,_,h=>by simp [BL] at h
 | (g,c)::L,f,ct,hc,h=>by
  simp only [BL] at h;split at h
  ·rename_i hb;cases h;rw [<-beq_eq hb];exact hc.1
  ·exact ug.look hc.2 h
theorem jv {H:HF}: ∀ {xs:List TV} {ys:List AA} (i:Nat),AN H xs ys->Cl H (gL i xs) (Ui i ys)/\ZX (gL i xs)
 | [],ys,i,h=>⟨fun s gs P x hx=>by simp [gL,BL] at hx,fun s gs P x hx=>by simp [gL,BL] at hx⟩
 | x::xs,ys,i,h=>by
  simp only [AN] at h;obtain ⟨y,zs,rfl,h1,h2⟩:=h;obtain ⟨g1,g2⟩:=jv (i+1) h2;refine ⟨fun s gs P z hz=>?_,fun s gs P z hz=>?_⟩<;>simp only [gL,BL] at hz
  ·simp only [Ui];split at hz
   ·rename_i hb;cases hz;rw [<-beq_eq hb];exact Il (by rw [HU,if_pos rfl];exact h1)
   ·rename_i hb;have hne:i≠s:=fun e=>by subst e;simp at hb
    obtain ⟨rfl,rfl⟩:=g2 _ _ _ _ hz;exact Il (by rw [HU,if_neg hne];exact (g1 _ _ _ _ hz).on BD)
  ·split at hz
   ·cases hz;exact ⟨rfl,rfl⟩
   ·exact g2 _ _ _ _ hz
theorem TX {H:HF} {TS:List CI} {S:AB} {F:RF} {A:Frame} (st:Dn H TS S) (hF:Cl H F A): ∀ {rs:List LS} {xs:List TV} {K:List AA->Prop},e_ F TS rs=some xs->(∀ys,AN H xs ys->K ys)->Ju A S K rs
 | [],xs,K,h,hk=>by simp only [e_,Option.some.injEq] at h;subst h;exact hk _ (by simp [AN])
 | .tmp t::rs,xs,K,h,hk=>by
  simp only [e_] at h;split at h<;>cases h;rename_i zs hz;simp only [Ju,Bj];exact TX st hF hz fun ys hs=>hk _ (by simp only [AN];exact ⟨_,_,rfl,S6 hF t,hs⟩)
 | .cell t n ag::rs,xs,K,h,hk=>by
  simp only [e_] at h;split at h
  ·rename_i l off hl;split at h
   ·rename_i k cs ho;split at h
    ·rename_i us hu;split at h<;>cases h;rename_i y zs hm hz;simp only [Ju,Bj];have hs:=S6 hF t;rw [hl] at hs;have he:Sb TS n ag (.ptr l off)=some ([],y):=by simp [Sb,ho,UP,hu,hm]
     exact N_ st he hs fun z hz'=>TX st hF hz fun ys hs=>hk _ (by simp only [AN];exact ⟨_,_,rfl,hz',hs⟩)
    ·cases h
   ·cases h
  ·cases h
theorem qx {ys:List AA} {K:AA->Prop}:TY ys K↔K (MT ys):=by
 match ys with
 | []=>exact Iff.rfl
 | [x]=>exact Iff.rfl
 | x::y::ys=>exact Iff.rfl
section
variable {P : Program} {Γ : List (Nat × Ct)} {call : Nat -> List TV -> List RF -> List CI -> (TV -> List RF -> List CI -> Prop) -> Prop}
theorem Ub (hΓ:Cons P Γ) (hC:ZV P call) {hi:Hi} {c:Ag} {an:An} {res:List LS} {xs:List TV} {G:List RF} {TS:List CI} {K:List TV->List RF->List CI->Prop} {H:HF} {S:AB} {AG:List Frame} {ys:List AA} {R:AA->AB->Prop}
  (h:rI Γ call hi c an res xs G TS K) (st:Dn H TS S) (hG:EE H G AG) (hs:AN H xs ys) (hR: ∀zs us S' H' G' TS',K zs G' TS'->Dn H' TS' S'->EE H' G' AG->AN H' zs us->R (MT us) S'):lI P c res ys S R:=by
 unfold lI;have fin: ∀ {A':Frame} {S':AB} {H':HF} {F':RF} {G':List RF} {TS':List CI},Dn H' TS' S'->Cl H' F' A'->EE H' G' AG->(match e_ F' TS' res with | some xs=>K xs G' TS' | none=>False)->Ju A' S' (fun xs=>TY xs fun r=>R r S') res:=fun q1 q2 q3 q4=>by
  split at q4
  ·rename_i zs hz;exact TX q1 q2 hz fun us hu=>qx.2 (hR _ _ _ _ _ _ q4 q1 q3 hu)
  ·exact q4.elim
 refine n_ hΓ hC hi c an st (jv 0 hs).1 hG h fun e A' S' H' F' G' TS' q1 q2 q3 q4=>?_;cases e with
 | normal=>exact fin q1 q2 q3 q4
 | exit id=>exact q4.elim
 | ret=>exact fin q1 q2 q3 q4
theorem cF (hΓ:Cons P Γ) {L:List (Nat×Fi)} (hL:ug P L): ∀n,ZV P (j2 Γ L n)
 | 0=>⟨fun h=>h.elim⟩
 | n+1=>by
  have ih:=cF hΓ hL n;refine ⟨fun {f xs G TS K} h {H S AG ys} st hG hs=>?_⟩;simp only [j2] at h
  ·split at h
   ·rename_i fi hf;split at h
    ·rename_i s hs';split at h
     ·rename_i ps y G' TS' he;obtain ⟨h1,h2⟩:=Ef.1 h;exact DM ((hL.look hf).sum s hs' he h1 st hG hs) fun r S' ⟨H',q1,q2,q3⟩=>⟨H',G',TS',y,h2,q1,q2,q3⟩
     ·exact h.elim
    rename_i hsn;split at h
    ·rename_i hb;have ok:=hL.look hf;refine ok.out hsn (Ub hΓ ih (R:=fun r S'=> ∃H' G' TS' x,K x G' TS'/\Dn H' TS' S'/\EE H' G' AG/\AE H' x r) h st hG hs fun zs us S' H' G' TS' q1 q2 q3 q4=>⟨H',G',TS',bH zs,q1,q2,q3,bJ q4⟩) ?_;rw [hs.length];exact Nat.le_of_ble_eq_true hb
    ·exact h.elim
   ·exact h.elim
theorem o7 {H:HF} {t:Ty} {x:TV} {a:T t} {y:AA} (h:P_ [] t x=some a) (hs:AE H x y):PS y (DV t a):=by
 intro E fz w v hr;cases t with
 | sl e=>
  simp only [P_] at h;unfold Vm at h;split at h
  ·split at h<;>cases h;rename_i hh _;subst hh;simp only [AE] at hs;subst hs;exact hr
  ·cases h;simp only [AE] at hs;subst hs;simp only [Rel,DV] at hr |-;exact .inl ⟨rfl,none,0,hr⟩
  ·simp [B5] at h
  ·simp [B5] at h
  ·cases h
 | int k=>
  simp only [P_,cP] at h;split at h
  ·rename_i k' n hi;split at h<;>cases h;rename_i hk;have hk:=H7 hk;subst hk;rw [E9 hi hs] at hr;exact hr
  ·cases h
 | str=>
  simp only [P_] at h;unfold cQ at h;split at h<;>cases h;simp only [AE] at hs;subst hs;exact hr
 | bool=>
  simp only [P_] at h;rw [VH h hs] at hr;exact hr
 | st fs=>
  simp only [P_] at h;unfold cT at h;split at h
  ·split at h<;>cases h;rename_i hd;simp only [AE] at hs;obtain ⟨xs,rfl,hs⟩:=hs;obtain ⟨zs,rfl,hz⟩:=L8 fs hd hs;simp only [AN] at hz;subst hz;rw [List.append_nil] at hr;exact hr
  ·cases h
theorem dH: ∀ {l:List Nat} {n:Nat},pW l n=false->n ∉ l
 | [],_,_=>by simp
 | a::l,n,h=>by
  simp only [pW] at h;split at h
  ·cases h
  ·rename_i hb;intro hm;rcases List.mem_cons.1 hm with e | e
   ·subst e;simp at hb
   ·exact dH h e
def xi (r:Nc) (a:RT r) (n:Nat) (y y':AA) (S:AB) (L:List (Nat×Ob)):Prop:=
 match r,a with
 | .val t,a=>PS y y'/\y'=DV t a/\L=[]
 | .own t,a=>(∃p v o0,y= .sl p v 0 (List.length (α:=T t) a)/\y'= .sl n v 0 (List.length (α:=T t) a)/\S[p]?=some o0/\oU o0 (.row v (G9 t) (List.flatMap (α:=T t) (BP t) a))/\L=[(p,.row v (G9 t) (List.flatMap (α:=T t) (BP t) a))])\/(a=([]:List (T t))/\y= .AL/\y'= .AL/\L=[])
def Wa (x:TV) (l:Nat):Prop:=x= .IU l\/ ∃o n,x= .sl l o n
theorem jV {H:HF} {TS:List CI} {S:AB} (st:Dn H TS S) {r:Nc} {x:TV} {ps:List Prop} {a:RT r} {y:AA} (h:nZ TS r x=some (ps,a)) (FL:GI ps) (hs:AE H x y) (n:Nat):
  ∃y' L,xi r a n y y' S L/\ ∀q∈L,∃l hd v,Wa x l/\(∃t,r= .own t)/\H l=some hd/\hd.loc=some (q.1,v):=by
 cases r with
 | val t=>
  simp only [nZ] at h;split at h<;>cases h;rename_i ha;exact ⟨DV t a,[],⟨o7 ha hs,rfl,rfl⟩,by simp⟩
 | own t=>
  simp only [nZ] at h;unfold wm at h;split at h
  ·rename_i l off len;split at h
   ·rename_i e ls ho;split at h<;>cases h;rename_i hh _;subst hh;have h0:off=0:=FL.cons.1;obtain ⟨loc,q1,q2⟩:=Dl st ho;simp only [AE] at hs;obtain ⟨hd,e1,r1,r2,r3,e2⟩:=hs;rw [q1] at e1;cases e1;simp only at r3 e2;have hl:(ls.take len.toNat).length=len.toNat:=by simp;omega
    cases loc with
    | none=>
     simp only [Cd] at q2;subst q2;simp only [K9] at e2;exact ⟨.AL,[],.inr ⟨by simp,e2,rfl,rfl⟩,by simp⟩
    | some q=>
     obtain ⟨p,v⟩:=q;simp only [K9,h0,Int.toNat_zero,Nat.zero_mul] at e2;simp only [Cd] at q2;refine ⟨.sl n v 0 (ls.take len.toNat).length,_,.inl ⟨p,v,_,by rw [hl];exact e2,rfl,q2,?_,rfl⟩,fun p' hp=>?_⟩
     ·have e5:ls.flatMap (BP e)=(ls.take len.toNat).flatMap (BP e)++(ls.drop len.toNat).flatMap (BP e):=by rw [<-List.flatMap_append,List.take_append_drop]
      have e6:=BO (A7 e) (ls.take len.toNat);have:=oU.XE (v:=v) (k:=G9 e) (cs:=ls.flatMap (BP e)) ((ls.take len.toNat).length*G9 e);rw [e5,List.take_left' e6,<-e5] at this;exact this
     ·simp at hp;subst hp;exact ⟨l,_,v,.inr ⟨off,len,rfl⟩,⟨_,rfl⟩,q1,rfl⟩
   ·cases h
  ·split at h<;>cases h;rename_i h;unfold wL at h;split at h
   ·cases h;simp only [AE] at hs;exact ⟨.AL,[],.inr ⟨rfl,hs,rfl,rfl⟩,by simp⟩
   ·rename_i l _;split at h
    ·rename_i e ls ho;split at h<;>cases h;rename_i hh _;subst hh;obtain ⟨loc,q1,q2⟩:=Dl st ho;simp only [AE] at hs;obtain ⟨hd,e1,rfl⟩:=hs;rw [q1] at e1;cases e1;cases loc with
     | none=>
      simp only [Cd] at q2;subst q2;exact ⟨.AL,[],.inr ⟨rfl,rfl,rfl,rfl⟩,by simp⟩
     | some q=>
      obtain ⟨p,v⟩:=q;refine ⟨.sl n v 0 ls.length,_,.inl ⟨p,v,_,rfl,rfl,q2,.refl _,rfl⟩,fun p' hp=>?_⟩;simp at hp;subst hp;exact ⟨l,_,v,.inl rfl,⟨_,rfl⟩,q1,rfl⟩
    ·cases h
   ·cases h
theorem nY {TS:List CI} {r:Nc} {rs:List Nc} {x:TV} {xs:List TV} {K:Qn (r::rs)->Prop} (h:OM TS (r::rs) (x::xs) K):
  ∃ps a,nZ TS r x=some (ps,a)/\GI ps/\OM TS rs xs fun y=> ∀z:Qn (r::rs),oa r rs z=a->oc r rs z=y->K z:=by
 cases rs with
 | nil=>
  simp only [OM] at h;split at h
  ·rename_i e;cases e;split at h
   ·rename_i ps a ha;rw [Ef] at h;refine ⟨ps,a,ha,h.1,?_⟩;simp only [OM];intro z hz _;have:z=a:=hz;rw [this];exact h.2
   ·exact h.elim
  ·exact h.elim
 | cons s rs=>
  simp only [OM] at h;split at h
  ·rename_i ps a ha;rw [Ef] at h;refine ⟨ps,a,ha,h.1,?_⟩;have mono: ∀(rs:List Nc) (xs:List TV) {K K':Qn rs->Prop},(∀y,K y->K' y)->OM TS rs xs K->OM TS rs xs K':=by
    intro rs
    induction rs with
    | nil=>intro xs K K' hm h;cases xs<;>simp only [OM] at* ;exact hm _ h
    | cons r rs ih=>
     intro xs K K' hm h;cases rs with
     | nil=>
      simp only [OM] at*;split at h
      ·split at h
       ·rw [Ef] at h |-;exact ⟨h.1,hm _ h.2⟩
       ·exact h.elim
      ·exact h.elim
     | cons s rs=>
      simp only [OM] at*;cases xs with
      | nil=>exact h
      | cons x xs=>
       simp only at*;split at h
       ·rw [Ef] at h |-;exact ⟨h.1,ih _ (fun y hy=>hm _ hy) h.2⟩
       ·exact h.elim
   exact mono _ _ (fun y hy z h1 h2=>by
    have:z=(a,y):=by
     obtain ⟨z1,z2⟩:=z;simp only [oa,oc] at h1 h2;rw [h1,h2]
    rw [this];exact hy) h.2
  ·exact h.elim
theorem wU (r:Nc): ∀(rs:List Nc) (a:RT r) (y:Qn rs),∃z:Qn (r::rs),oa r rs z=a/\oc r rs z=y
 | [],a,y=>⟨a,rfl,rfl⟩
 | _::_,a,y=>⟨(a,y),rfl,rfl⟩
theorem eF {t:Ty} {rs:List Nc} {x:TV} {xs:List TV} {l:Nat} (h:Wa x l):OE (.own t::rs) (x::xs)=l::OE rs xs:=by
 rcases h with rfl | ⟨o,n,rfl⟩<;>rfl
theorem qW {t:Ty} {rs:List Nc} {x:TV} {xs:List TV} (h: ∀l,¬Wa x l):OE (.own t::rs) (x::xs)=OE rs xs:=by
 cases x<;>first | rfl | exact (h _ (.inl rfl)).elim | exact (h _ (.inr ⟨_,_,rfl⟩)).elim
theorem qR {x:TV} {l m:Nat} (h:Wa x l) (g:Wa x m):l=m:=by
 rcases h with rfl | ⟨o,n,rfl⟩<;>rcases g with g | ⟨_,_,g⟩<;>cases g<;>rfl
theorem Wy {H:HF} {TS:List CI} {S:AB} (st:Dn H TS S): ∀(rs:List Nc) {xs:List TV} {ys:List AA} {K:Qn rs->Prop} (n:Nat),OM TS rs xs K->AN H xs ys->distinct (OE rs xs)=true->
  ∃(z:Qn rs) (L:List (Nat×Ob)) (ys':List AA),K z/\bn ys ys'/\IQ rs z n ys' (L.map (·.2))/\(∀q∈L,∃o0,S[q.1]?=some o0/\oU o0 q.2)/\(L.map (·.1)).Nodup/\ ∀q∈L,∃l∈OE rs xs,∃hd v,H l=some hd/\hd.loc=some (q.1,v)
 | [],xs,ys,K,n,h,hs,hd=>by
  cases xs with
  | nil=>
   simp only [OM] at h;simp only [AN] at hs;subst hs;exact ⟨(),[],[],h,.nil,by simp [IQ],by simp,by simp,by simp⟩
  | cons=>simp only [OM] at h
 | r::rs,[],ys,K,n,h,hs,hd=>by cases rs<;>simp only [OM] at h
 | r::rs,x::xs,ys,K,n,h,hs,hd=>by
  obtain ⟨ps,a,ha,FL,h⟩:=nY h;simp only [AN] at hs;obtain ⟨y,zs,rfl,s1,s2⟩:=hs;obtain ⟨y',L1,o1,o2⟩:=jV st ha FL s1 n;have hd2:distinct (OE rs xs)=true/\ ∀l,Wa x l->(∃t,r= .own t)->l ∉ OE rs xs:=by
   cases r with
   | val t=>
    simp only [OE] at hd;exact ⟨hd,fun l _ ⟨t',e⟩=>by cases e⟩
   | own t=>
    by_cases hx: ∃l,Wa x l
    ·obtain ⟨l,hx⟩:=hx;rw [eF hx] at hd;simp only [distinct] at hd;split at hd
     ·cases hd
     ·rename_i hh;exact ⟨hd,fun l' e _=>by rw [qR e hx];exact dH hh⟩
    ·rw [qW fun l hl=>hx ⟨l,hl⟩] at hd;exact ⟨hd,fun l e=>(hx ⟨l,e⟩).elim⟩
  have sub: ∀l,l∈OE rs xs->l∈OE (r::rs) (x::xs):=fun l hl=>by
   cases r<;>cases x<;>simp only [OE]<;>first | exact hl | exact List.mem_cons_of_mem _ hl
  obtain ⟨z,L2,ys',g1,g2,g3,g4,g5,g6⟩:=Wy st rs (n+L1.length) h s2 hd2.1;obtain ⟨Z,e1,e2⟩:=wU r rs a z;refine ⟨Z,L1++L2,y'::ys',g1 Z e1 e2,?_,?_,?_,?_,?_⟩
  ·refine .cons ?_ g2;cases r with
   | val t=>exact o1.1
   | own t=>
    rcases o1 with ⟨p,v,o0,rfl,rfl,_⟩ | ⟨_,rfl,rfl,_⟩
    ·exact .sl
    ·exact .refl _
  ·cases r with
   | val t=>
    obtain ⟨_,rfl,rfl⟩:=o1;simp only [IQ];refine ⟨ys',by rw [e1],?_⟩;rw [e2];simpa using g3
   | own t=>
    rcases o1 with ⟨p,v,o0,rfl,rfl,q3,_,rfl⟩ | ⟨q1,rfl,rfl,rfl⟩
    ·simp only [IQ];refine .inl ⟨v,ys',L2.map (·.2),by rw [e1],?_,?_⟩
     ·rw [e1];simp
     ·rw [e2];simpa using g3
    ·simp only [IQ];refine .inr ⟨by rw [e1];exact q1,ys',rfl,?_⟩;rw [e2];simpa using g3
  ·intro q hq;rcases List.mem_append.1 hq with hq | hq
   ·cases r with
    | val t=>obtain ⟨_,_,rfl⟩:=o1;cases hq
    | own t=>
     rcases o1 with ⟨p,v,o0,_,_,q3,q4,rfl⟩ | ⟨_,_,_,rfl⟩
     ·simp at hq;subst hq;exact ⟨o0,q3,q4⟩
     ·cases hq
   ·exact g4 q hq
  ·rw [List.map_append,List.nodup_append];refine ⟨?_,g5,fun p hp q hq e=>?_⟩
   ·cases r with
    | val t=>obtain ⟨_,_,rfl⟩:=o1;simp
    | own t=>rcases o1 with ⟨_,_,_,_,_,_,_,rfl⟩ | ⟨_,_,_,rfl⟩<;>simp
   ·subst e;obtain ⟨a1,ha1,rfl⟩:=List.mem_map.1 hp;obtain ⟨a2,ha2,he⟩:=List.mem_map.1 hq;obtain ⟨l,hd,v,h0,h0',h1,h2⟩:=o2 a1 ha1;obtain ⟨l',hl',hd',v',h3,h4⟩:=g6 a2 ha2;rw [he] at h4;have:=st.inj _ _ _ _ _ _ _ h1 h3 h2 h4;subst this;exact hd2.2 l h0 h0' hl'
  ·intro p hp;rcases List.mem_append.1 hp with hp | hp
   ·obtain ⟨l,hd',v,h0,⟨t,h0'⟩,h1,h2⟩:=o2 p hp;subst h0';exact ⟨l,by rw [eF h0];simp,hd',v,h1,h2⟩
   ·obtain ⟨l,hl,q⟩:=g6 p hp;exact ⟨l,sub l hl,q⟩
theorem pH: ∀(rs:List Nc) {x y:Qn rs},wN rs x y->x=y
 | [],_,_,_=>rfl
 | [_],_,_,h=>h
 | r::s::rs,(x1,x2),(y1,y2),h=>by
  simp only [wN] at h;rw [h.1,pH (s::rs) h.2]
theorem tz: ∀ {xs ys:List AA},bn xs ys->PS (MT xs) (MT ys):=fun {xs ys} h=>by
 cases h with
 | nil=>exact .refl _
 | cons h1 h2=>cases h2 with
  | nil=>exact h1
  | cons h3 h4=>exact .DH (.cons h1 (.cons h3 h4))
def WG:Ky->Nat
 | .nil=>0
 | .cons _ ts=>WG ts+1
theorem Q9: ∀(ts:Ky) (x:Ts ts),(F5 ts x).length=WG ts
 | .nil,_=>rfl
 | .cons t .nil,x=>rfl
 | .cons t (.cons u ts),(x,y)=>by
  have:=Q9 (.cons u ts) y;simp only [F5,List.length_cons,this,WG]
theorem ux (hΓ:Cons P Γ) {L:List (Nat×Fi)} (hL:ug P L) {f:Nat} {fi:Fi} {ct:Ct} (hf:Ex P f fi) {depth:Nat} (hsp:fi.sp=none) (hn:Nat.ble (WG ct.args) fi.n=true) (x:Ts ct.args) (h:wv Γ L depth fi ct x):AV P f (F5 ct.args x) [] (qw ct.res (ct.fn x)):=by
 have hlen:(F5 ct.args x).length<=fi.n:=by rw [Q9];exact Nat.le_of_ble_eq_true hn
 refine (hf.out hsp (R:=fun r S'=> ∃H' TS' zs us,(match distinct (OE ct.res zs) with | true=>OM TS' ct.res zs fun y=>wN ct.res y (ct.fn x) | false=>False)/\Dn H' TS' S'/\AN H' zs us/\r=MT us)
  (Ub hΓ (cF hΓ hL depth) h Dn.nil .nil (fW ct.args x) fun zs us S' H' G' TS' q1 q2 q3 q4=>⟨H',TS',zs,us,q1,q2,q4,rfl⟩) hlen).bh ?_
 rintro r S' ⟨H',TS',zs,us,h1,h2,h3,rfl⟩;split at h1
 ·rename_i hd;obtain ⟨z,L,ys',g1,g2,g3,g4,g5,_⟩:=Wy h2 ct.res 0 h1 h3 hd;have e:=pH ct.res g1;subst e;refine ⟨MT ys',fun l=>(L.map (·.1)).getD l 0,L.map (·.2),tz g2,⟨fun l l' hl hl' e=>?_,fun l o hl=>?_⟩,ys',g3,rfl⟩
  ·have h1:l<(L.map (·.1)).length:=by simpa using hl
   have h2:l'<(L.map (·.1)).length:=by simpa using hl'
   simp only [List.getD_eq_getElem?_getD,List.getElem?_eq_getElem h1,List.getElem?_eq_getElem h2,Option.getD_some] at e;exact (List.getElem_inj g5).1 e
  ·rw [List.getElem?_map] at hl;cases hp:L[l]? with
   | none=>rw [hp] at hl;cases hl
   | some p=>
    rw [hp] at hl;simp at hl;subst hl;obtain ⟨o0,k1,k2⟩:=g4 p (List.mem_of_getElem? hp);refine ⟨o0,?_,k2⟩;simp only [List.getD_eq_getElem?_getD,List.getElem?_map,hp,Option.map_some,Option.getD_some];exact k1
 ·exact h1.elim
theorem DU (hΓ:Cons P Γ) {L:List (Nat×Fi)} (hL:ug P L) {f:Nat} {fi:Fi} {ct:Ct} (hf:Ex P f fi) {depth:Nat} (hsp:fi.sp=none) (hn:Nat.ble (WG ct.args) fi.n=true) (x:Ts ct.args) {T:Prop} (h:T) (e:T=wv Γ L depth fi ct x):AV P f (F5 ct.args x) [] (qw ct.res (ct.fn x)):=
 ux hΓ hL hf hsp hn x (e▸h)
end
theorem BV.frozen {P:Program} {f:FuncId} {args:Ky} {t:Ty} {pre:Ts args->Prop} {fn:Ts args->List (T t)} (h:BV P f ⟨args,[.own t],pre,fn⟩):BV P f ⟨args,[.val (.sl t)],pre,fn⟩:=by
 refine ⟨h.1,fun x hx=>AV.freeze 1 (DM (h.2 x hx) fun r S' hr=>?_)⟩;obtain ⟨ys,h1,rfl⟩:=hr;refine ⟨[DV (.sl t) (fn x)],⟨[],rfl,rfl,rfl⟩,?_⟩;rcases h1 with ⟨v,ys',S1,rfl,rfl,rfl,rfl⟩ | ⟨h0,ys',rfl,rfl,rfl⟩
 ·simp only [MT,deref,oa,DV,List.getElem?_cons_zero,if_pos,List.drop_zero];simp [deref]
 ·simp only [MT,deref,DV];have h0:fn x=[]:=h0;rw [h0];rfl
def stM:List (List AA)->(Nat->Nat)->Nat->AB
 | [],_,_=>[]
 | cs::L,vs,k=>.row (vs k) 0 cs::stM L vs (k+1)
inductive lO (H:HF) (S:AB):List Nat->List (Nat×Nat)->List (List AA)->Prop
 | nil:lO H S [] [] []
 | cons {l p v:Nat} {cs:List AA} {ls:List Nat} {pvs:List (Nat×Nat)} {L:List (List AA)} (h:H l=some ⟨some (p,v),0,cs.length,[]⟩) (hS:S[p]?=some (.row v 0 cs)) (hr:lO H S ls pvs L):lO H S (l::ls) ((p,v)::pvs) (cs::L)
theorem lO.append {H:HF} {S:AB} {ls ls':List Nat} {pvs pvs':List (Nat×Nat)} {L L':List (List AA)} (h:lO H S ls pvs L) (h':lO H S ls' pvs' L'):lO H S (ls++ls') (pvs++pvs') (L++L'):=by
 induction h with
 | nil=>exact h'
 | cons h1 h2 _ ih=>exact .cons h1 h2 ih
theorem lO.len {H:HF} {S:AB} {ls:List Nat} {pvs:List (Nat×Nat)} {L:List (List AA)} (h:lO H S ls pvs L):pvs.length=L.length/\ls.length=L.length:=by
 induction h with
 | nil=>exact ⟨rfl,rfl⟩
 | cons _ _ _ ih=>exact ⟨by simp [ih.1],by simp [ih.2]⟩
theorem lO.mem {H:HF} {S:AB} {ls:List Nat} {pvs:List (Nat×Nat)} {L:List (List AA)} (h:lO H S ls pvs L): ∀ {p:Nat},p∈pvs.map (·.1)-> ∃l∈ls,∃v n,H l=some ⟨some (p,v),0,n,[]⟩:=by
 induction h with
 | nil=>intro p hp;simp at hp
 | cons h1 _ _ ih=>
  intro p hp;simp only [List.map_cons,List.mem_cons] at hp;rcases hp with rfl | hp
  ·exact ⟨_,by simp,_,_,h1⟩
  ·obtain ⟨l,hl,g⟩:=ih hp;exact ⟨l,by simp [hl],g⟩
theorem lO.at {H:HF} {S:AB} {ls:List Nat} {pvs:List (Nat×Nat)} {L:List (List AA)} (h:lO H S ls pvs L): ∀(vs:Nat->Nat) (k:Nat),(∀(i:Nat) pv,pvs[i]?=some pv->vs (k+i)=pv.2)-> ∀(i:Nat) o q,(stM L vs k)[i]?=some o->(pvs.map (·.1))[i]?=some q->S[q]?=some o:=by
 induction h with
 | nil=>intro vs k _ i o q h;simp [stM] at h
 | cons h1 h2 hr ih=>
  intro vs k hv i o q g1 g2;cases i with
  | zero=>
   simp [stM] at g1 g2;have:=hv 0 _ rfl;simp only [Nat.add_zero] at this;subst g1;subst g2;rw [this];exact h2
  | succ i=>
   simp only [stM,List.map_cons,List.getElem?_cons_succ] at g1 g2;exact ih vs (k+1) (fun j pv hj=>by have:=hv (j+1) pv (by simpa using hj);rwa [show k+1+j=k+(j+1) by omega]) i o q g1 g2
inductive gH (H:HF):List (List TV)->List (List AA)->List (List AA)->Prop
 | nil:gH H [] [] []
 | cons {cs:List TV} {xs ys:List AA} {L:List (List TV)} {M N:List (List AA)} (h:AN H cs xs) (hl:xs.length=ys.length) (hr:gH H L M N):gH H (cs::L) (xs::M) (ys::N)
theorem gH.append {H:HF} {L L':List (List TV)} {M M' N N':List (List AA)} (h:gH H L M N) (h':gH H L' M' N'):gH H (L++L') (M++M') (N++N'):=by
 induction h with
 | nil=>exact h'
 | cons h1 h2 _ ih=>exact .cons h1 h2 ih
inductive ZW:List (List TV)->List (List AA)->Prop
 | nil:ZW [] []
 | cons {cs:List TV} {xs:List AA} {L:List (List TV)} {M:List (List AA)} (h: ∀H,AN H cs xs) (hr:ZW L M):ZW (cs::L) (xs::M)
theorem ZW.append {L L':List (List TV)} {M M':List (List AA)} (h:ZW L M) (h':ZW L' M'):ZW (L++L') (M++M'):=by
 induction h with
 | nil=>exact h'
 | cons h1 _ ih=>exact .cons h1 ih
theorem ZW.len {L:List (List TV)} {M:List (List AA)} (h:ZW L M):L.length=M.length:=by
 induction h with
 | nil=>rfl
 | cons _ _ ih=>simp [ih]
end Go.Vc
namespace Go.Vc
abbrev gp (d:Nat) (o:EL):C9:=⟨some d,o,none,false,[]⟩
abbrev gb (d:Nat) (o:EL):C9:=⟨some d,o,none,true,[]⟩
abbrev gq (d:Nat) (o:EL) (g:Nat) (b:Bool):C9:=⟨some d,o,some (g,b),false,[]⟩
abbrev gn (o:EL):C9:=⟨none,o,none,false,[]⟩
abbrev ci (n:Int):AO:= .c (.int .i64 n)
theorem xa {P:Program} {f:Nat} {fi:Fi} {fn:Func} {c:Code} (h0:DC P f=true) (h1:fi.sp=none) (hf:P.funcs[f]?=some fn) (hb:fn.body=some c) (hc:comp P fn.ntmps c fi.code=some fi.code) (hr:XR P fn.results.toList=some fi.res) (hn:fi.n=fn.ntmps:=by rfl):Ex P f fi:=
 ⟨fun _=>h0,fun _ h hlen=>Yg h0 (QB _ _) hf hb hc hr (hn▸hlen) h,fun s h=>by rw [h1] at h;cases h⟩
end Go.Vc
end
section
namespace Go.Vc
abbrev oM (d s:Nat):C9:=⟨some d,.CD (.t s),none,false,[]⟩
abbrev oC (d:Nat) (n:Int):C9:=⟨some d,.CD (.c (.int .i64 n)),none,false,[]⟩
abbrev oV (d:Nat) (x:AO):C9:=⟨some d,.CD x,none,false,[]⟩
abbrev oL (d s:Nat):C9:=⟨some d,.load 1 false (.t s),none,false,[]⟩
abbrev oA (d n s:Nat):C9:=⟨some d,.load n true (.t s),none,false,[]⟩
abbrev oF (d o s:Nat):C9:=⟨some d,.Bo o (.t s),none,false,[]⟩
abbrev oK (d s:Nat):C9:=⟨some d,.Fg (.t s),none,false,[]⟩
abbrev oI (d k s i:Nat):C9:=⟨some d,.DT k none (.t s) (.t i),none,false,[]⟩
abbrev oX (d s i:Nat):C9:=⟨some d,.extract (.t s) i,none,false,[]⟩
abbrev oT (d s:Nat):C9:=⟨some d,.len true (.t s),none,false,[]⟩
abbrev oN (d s:Nat):C9:=⟨some d,.len false (.t s),none,false,[]⟩
abbrev oB (d:Nat) (o:BinOp) (a b:Nat):C9:=⟨some d,.bin .none o (.t a) (.t b),none,false,[]⟩
abbrev oJ (d:Nat) (o:BinOp) (a:Nat) (n:Int):C9:=⟨some d,.bin .none o (.t a) (.c (.int .i64 n)),none,false,[]⟩
abbrev oG (d f:Nat) (xs:List AO):C9:=⟨some d,.call f xs,none,false,[]⟩
abbrev oP (d k b s x:Nat):C9:=⟨some d,.append k b (.t s) (.t x),none,false,[]⟩
abbrev oS (n a b:Nat):C9:=⟨none,.store n (.t a) (.t b),none,false,[]⟩
abbrev sq (l:List C9) (ks:List Nat) (r:Ag):Ag:= .seq (.ops l none ks) r
def sY (res:List LS) (R:AA->AB->Prop):Be->Frame->AB->Prop:=fun e F' S'=>match e with
 | .normal=>Ju F' S' (fun xs=>TY xs fun r=>R r S') res
 | .ret=>Ju F' S' (fun xs=>TY xs fun r=>R r S') res
 | _=>False
def Mn (P:Program) (f n:Nat) (c:Ag) (res:List LS):Prop:=DC P f=true/\ ∀ {args:List AA} {S:AB} {R:AA->AB->Prop},vc P c (sY res R) (Ui 0 args) S->args.length<=n->AV P f args S R
theorem okW {P:Program} {f n:Nat} {fn:Func} {b:Code} {c:Ag} {res:List LS} (hf:P.funcs[f]?=some fn) (h0:DC P f=true:=by kernel_rfl) (hb:fn.body=some b:=by rfl) (hn:fn.ntmps=n:=by rfl) (hc:comp P n b c=some c:=by kernel_rfl) (hr:XR P fn.results.toList=some res:=by kernel_rfl):Mn P f n c res:=
 ⟨h0,fun {_ _ _} h hlen=>Yg h0 (QB _ _) hf hb (hn▸hc) hr (hn▸hlen) h⟩
theorem M_ {P:Program} {f:Nat} {fi:Fi} {fn:Func} {c:Code} (hf:P.funcs[f]?=some fn) (h0:DC P f=true:=by kernel_rfl) (h1:fi.sp=none:=by rfl) (hb:fn.body=some c:=by rfl) (hc:comp P fn.ntmps c fi.code=some fi.code:=by kernel_rfl) (hr:XR P fn.results.toList=some fi.res:=by kernel_rfl) (hn:fi.n=fn.ntmps:=by rfl):Ex P f fi:=xa h0 h1 hf hb hc hr hn
end Go.Vc
end
section
set_option maxRecDepth 100000
namespace Go.Proofs.YtlibocgedgdmlaaGreat
open Go.Vc
abbrev EF:Nat:=3
abbrev DW:Nat:=5
abbrev B1:Nat:=6
abbrev DJ:Nat:=7
abbrev Da:Nat:=8
abbrev Gy:Nat:=15
abbrev DB:Nat:=16
abbrev Br:Nat:=17
abbrev D9:Nat:=18
abbrev B_:Nat:=19
abbrev B9:Nat:=20
abbrev Jh:Nat:=22
abbrev Dw:Nat:=23
abbrev Ge:Nat:=24
abbrev Bv:Nat:=25
abbrev CX:Nat:=26
abbrev Cs:Nat:=27
abbrev CM:Nat:=28
abbrev CN:Nat:=29
abbrev CL:Nat:=30
abbrev Cp:Nat:=31
abbrev B3:Nat:=32
abbrev Co:Nat:=33
abbrev DS:Nat:=34
abbrev CU:Nat:=35
abbrev Cx:Nat:=36
abbrev FC:Nat:=37
abbrev D4:Nat:=38
abbrev Db:Nat:=39
abbrev ET:Nat:=40
abbrev CS:Nat:=42
abbrev Dc:Nat:=45
abbrev Ah:Nat:=47
abbrev CA:Nat:=48
abbrev Bq:Nat:=49
abbrev Bp:Nat:=50
abbrev Bu:Nat:=51
abbrev CY:Nat:=52
abbrev CO:Nat:=53
abbrev Fq:Nat:=54
abbrev Bb:Nat:=55
abbrev DD:Nat:=56
abbrev Df:Nat:=57
abbrev CB:Nat:=58
abbrev BM:Nat:=59
abbrev Ai:Nat:=60
abbrev C2:Nat:=61
abbrev D3:Nat:=62
abbrev C1:Nat:=63
abbrev Gf:Nat:=64
abbrev B0:Nat:=65
abbrev BN:Nat:=68
abbrev CK:Nat:=69
abbrev Bf:Nat:=70
abbrev FB:Nat:=71
abbrev A_:Nat:=72
abbrev BT:Nat:=73
abbrev BU:Nat:=74
abbrev A9:Nat:=75
abbrev BI:Nat:=76
abbrev BQ:Nat:=77
abbrev Cy:Nat:=78
abbrev Ae:Nat:=79
abbrev FA:Nat:=80
abbrev EV:Nat:=81
abbrev FX:Nat:=82
abbrev BB:Nat:=83
abbrev B8:Nat:=86
abbrev CZ:Nat:=87
abbrev E6:Nat:=89
abbrev Cv:Nat:=90
abbrev CE:Nat:=95
abbrev Aw:Nat:=96
abbrev EG:Nat:=97
abbrev E5:Nat:=98
abbrev C8:Nat:=99
abbrev Ch:Nat:=113
abbrev Ho:Nat:=115
abbrev A8:Nat:=116
abbrev Dg:Nat:=118
abbrev Az:Nat:=119
abbrev Dv:Nat:=120
def Zs:Ag:=(sq [gp 3 (.box 0 (.t 1)),oC 4 0] [0,3] (.seq (.block 0 (sq [oM 6 0,oJ 7 .lss 6 0,gb 8 (.CD (.t 7)),gq 9 (.CD (.t 0)) 8 false,gq 10 (.bin .none .gtr (.t 9) (ci 600)) 8 false,gp 11 (.pick (.t 8) (.c (.bool true)) (.t 10)),gb 12 (.CD (.t 11)),gq 13 (.Bo 0 (.t 3)) 12 false,gq 14 (.load 1 false (.t 13)) 12 false,gq 15 (.bin .none .lss (.t 14) (ci 0)) 12 false,gp 16 (.pick (.t 12) (.c (.bool true)) (.t 15)),gb 17 (.CD (.t 16)),gq 18 (.Bo 0 (.t 3)) 17 false,gq 19 (.load 1 false (.t 18)) 17 false,gq 20 (.CD (.t 0)) 17 false,gq 21 (.bin .none .gtr (.t 19) (.t 20)) 17 false,gp 22 (.pick (.t 17) (.c (.bool true)) (.t 21)),gb 23 (.CD (.t 22)),gq 24 (.Bo 1 (.t 3)) 23 false,gq 25 (.load 1 false (.t 24)) 23 false,gq 26 (.bin .none .lss (.t 25) (ci 0)) 23 false,gp 27 (.pick (.t 23) (.c (.bool true)) (.t 26)),gb 28 (.CD (.t 27)),gq 29 (.Bo 1 (.t 3)) 28 false,gq 30 (.load 1 false (.t 29)) 28 false,gq 31 (.CD (.t 0)) 28 false,gq 32 (.Bo 0 (.t 3)) 28 false,gq 33 (.load 1 false (.t 32)) 28 false,gq 34 (.bin .none .sub (.t 31) (.t 33)) 28 false,gq 35 (.bin .none .gtr (.t 30) (.t 34)) 28 false,gp 36 (.pick (.t 28) (.c (.bool true)) (.t 35)),oM 5 36] [0,3,5] (.cond (.t 5) (sq [oC 4 2] [4] .ret) (sq [oM 38 0,oF 39 1 3,oL 40 39,oB 41 .sub 38 40,oF 42 2 3,oL 43 42,oT 44 43,oB 45 .add 41 44,oJ 46 .gtr 45 600,oM 37 46] [37] (.cond (.t 37) (sq [oC 4 1] [4] .ret) .skip))))) (sq [oC 4 0] [4] .ret)))
def XU:Fi:=⟨47,Zs,[.tmp 4],.d,⟨[(3,(.st (.cons (.int .i64) (.cons (.int .i64) (.cons .str .nil)))))],[]⟩,none⟩
theorem PZ:Ex Tryz.prog B8 XU:=M_ Tryz.func86
def cg:Ag:=(sq [gp 3 (.box 0 (.t 1)),oV 4 (.c (.str []))] [0,3] (.seq (.ops [oM 5 0,oF 6 0 3,oL 7 6,gp 8 (.slice 0 (.t 5) none (some (.t 7))),oF 9 2 3,oL 10 9,oB 11 .add 8 10,oM 12 0,oF 13 0 3,oL 14 13,oF 15 1 3,oL 16 15,oB 17 .add 14 16,gp 18 (.slice 0 (.t 12) (some (.t 17)) none),oB 19 .add 11 18,oM 4 19] (some (0,0,[0,1,2,3,4,5,6,7,8,9,10,11,12,13,14,15])) [4]) .ret))
def Zt:Fi:=⟨20,cg,[.tmp 4],.d,⟨[(3,(.st (.cons (.int .i64) (.cons (.int .i64) (.cons .str .nil)))))],[]⟩,none⟩
theorem Q7:Ex Tryz.prog BU Zt:=M_ Tryz.func74
def cj:Ag:=(sq [gp 3 (.box 0 (.t 1)),gp 4 (.alloc 0 [(.int .i64 0),(.int .i64 0),(.str [])])] [0,3,4] (.seq (.ops [oF 5 0 3,oL 6 5,oF 7 2 3,oL 8 7,oT 9 8,oM 10 0,oF 11 0 3,oL 12 11,oF 13 0 3,oL 14 13,oF 15 1 3,oL 16 15,oB 17 .add 14 16,gp 18 (.slice 0 (.t 10) (some (.t 12)) (some (.t 17))),gp 19 (.build [(.int .i64 0),(.int .i64 0),(.str [])] [(0,1,(.t 6)),(1,1,(.t 9)),(2,1,(.t 18))]),oS 3 4 19] (some (0,0,[0,1,2,3,4,5,6,7,8,9,10,11,12,13,14,15])) [4]) .ret))
def Zw:Fi:=⟨20,cj,[.cell 4 3 true],.d,⟨[(3,(.st (.cons (.int .i64) (.cons (.int .i64) (.cons .str .nil))))),(4,(.st (.cons (.int .i64) (.cons (.int .i64) (.cons .str .nil)))))],[]⟩,none⟩
theorem Q8:Ex Tryz.prog CZ Zw:=M_ Tryz.func87
def bm:Ag:=(sq [oV 2 (.c (.bool false))] [0] (sq [oM 3 0,gp 4 (.bin .none .geq (.t 3) (.c (.int .u8 97))),gb 5 (.CD (.t 4)),gq 6 (.CD (.t 0)) 5 true,gq 7 (.bin .none .leq (.t 6) (.c (.int .u8 122))) 5 true,gp 8 (.pick (.t 5) (.t 7) (.c (.bool false))),gb 9 (.CD (.t 8)),gq 10 (.CD (.t 0)) 9 false,gq 11 (.bin .none .geq (.t 10) (.c (.int .u8 65))) 9 false,⟨(some 12),.CD (.t 11),(some (9,false)),true,[]⟩,gq 13 (.CD (.t 0)) 12 true,gq 14 (.bin .none .leq (.t 13) (.c (.int .u8 90))) 12 true,gq 15 (.pick (.t 12) (.t 14) (.c (.bool false))) 9 false,gp 16 (.pick (.t 9) (.c (.bool true)) (.t 15)),gb 17 (.CD (.t 16)),gq 18 (.CD (.t 0)) 17 false,gq 19 (.bin .none .geq (.t 18) (.c (.int .u8 48))) 17 false,⟨(some 20),.CD (.t 19),(some (17,false)),true,[]⟩,gq 21 (.CD (.t 0)) 20 true,gq 22 (.bin .none .leq (.t 21) (.c (.int .u8 57))) 20 true,gq 23 (.pick (.t 20) (.t 22) (.c (.bool false))) 17 false,gp 24 (.pick (.t 17) (.c (.bool true)) (.t 23)),oM 2 24] [2] .ret))
def YD:Fi:=⟨25,bm,[.tmp 2],.d,⟨[],[]⟩,none⟩
theorem P2:Ex Tryz.prog BB YD:=M_ Tryz.func83
def XK:Ag:=(sq [oC 6 0,oC 7 0] [0,1,2] (.seq (.block 0 (.loop [0,2] [1] 0 (.seq (sq [oM 8 1,oJ 9 .gtr 8 0,gb 10 (.CD (.t 9)),gq 11 (.CD (.t 0)) 10 true,gq 12 (.CD (.t 1)) 10 true,gq 13 (.bin .none .sub (.t 12) (ci 1)) 10 true,gq 14 (.index 1 none false (.t 11) (.t 13)) 10 true,gq 15 (.call BB [(.t 14)]) 10 true,gp 16 (.pick (.t 10) (.t 15) (.c (.bool false)))] [0,1,2,16] (.cond (.t 16) .skip (.exit 0))) (.block 1 (.ops [oM 17 1,oJ 18 .sub 17 1,oM 1 18] none [0,1,2]))))) (.seq (.block 2 (.loop [0,1] [2] 0 (.seq (sq [oM 19 2,oM 20 0,oT 21 20,oB 22 .lss 19 21,gb 23 (.CD (.t 22)),gq 24 (.CD (.t 0)) 23 true,gq 25 (.CD (.t 2)) 23 true,gq 26 (.index 1 none false (.t 24) (.t 25)) 23 true,gq 27 (.call BB [(.t 26)]) 23 true,gp 28 (.pick (.t 23) (.t 27) (.c (.bool false)))] [0,1,2,28] (.cond (.t 28) .skip (.exit 2))) (.block 3 (.ops [oM 29 2,oJ 30 .add 29 1,oM 2 30] none [0,1,2]))))) (sq [oM 31 1,oM 32 2,oM 6 31,oM 7 32] [6,7] .ret))))
def VB:Fi:=⟨33,XK,[.tmp 6,.tmp 7],(.seq .d (.seq (.loop [] [] [] .d) (.seq (.loop [] [] [] .d) .d))),⟨[],[]⟩,none⟩
theorem Na:Ex Tryz.prog BN VB:=M_ Tryz.func68
def Hh:Ag:=(sq [oV 2 (.c .AL)] [0] (.seq (sq [oM 3 0,gp 4 (.HB false (.t 3))] [0,4] (.cond (.t 4) (sq [oV 2 (.c .AL)] [2] .ret) .skip)) (sq [gp 5 (.Ax false 0 2 [] []),oM 6 0,oP 7 2 16 5 6,oM 2 7] [2] .ret)))
def HL:Fi:=⟨8,Hh,[.tmp 2],.d,⟨[(5,(.st (.cons (.int .i64) (.cons (.int .i64) .nil)))),(7,(.st (.cons (.int .i64) (.cons (.int .i64) .nil))))],[]⟩,none⟩
theorem EM:Ex Tryz.prog Ah HL:=M_ Tryz.func47
def U9:Ag:=(sq [gp 3 (.box 0 (.t 1)),oV 4 (.c .AL)] [0,3] (sq [gp 5 (.DE 2)] [0,3,5] (.seq (sq [oM 8 0,oN 9 8,oC 10 0] [0,3,5,8,9,10] (.block 0 (.loop [0,3,8,9] [5,10] 2 (sq [oB 11 .lss 10 9] [0,3,5,8,9,10,11] (.seq (.cond (.t 11) .skip (.exit 0)) (.seq (.block 1 (sq [oI 12 2 8 10,oA 13 2 12,gp 7 (.alloc 0 [(.int .i64 0),(.int .i64 0)]),oS 2 7 13] [0,3,5,7,8,9,10] (.ops [oM 14 5,oF 15 0 7,oL 16 15,oF 17 1 7,oL 18 17,oF 19 0 7,oL 20 19,oF 21 0 3,oL 22 21,gp 23 (.max [(.t 20),(.t 22)]),gp 24 (.min [(.t 18),(.t 23)]),gp 25 (.build [(.int .i64 0),(.int .i64 0)] [(0,1,(.t 16)),(1,1,(.t 24))]),oF 26 0 7,oL 27 26,oF 28 1 7,oL 29 28,oF 30 1 3,oL 31 30,gp 32 (.min [(.t 29),(.t 31)]),gp 33 (.max [(.t 27),(.t 32)]),oF 34 1 7,oL 35 34,gp 36 (.build [(.int .i64 0),(.int .i64 0)] [(0,1,(.t 33)),(1,1,(.t 35))]),gp 37 (.Ax true 2 2 [(.int .i64 0),(.int .i64 0),(.int .i64 0),(.int .i64 0)] [(0,2,(.t 25)),(2,2,(.t 36))]),oP 38 2 16 14 37,oM 5 38] none [0,3,5,8,9,10]))) (.ops [oJ 39 .add 10 1,oM 10 39] none [0,3,5,8,9,10]))))))) (.seq (sq [oF 40 0 3,oL 41 40,oF 42 1 3,oL 43 42,oB 44 .eql 41 43] [0,5,44] (.cond (.t 44) (sq [oM 45 0,oG 46 Ah [(.t 45)],oM 4 46] [4] .ret) .skip)) (sq [oM 47 5,oG 48 Aw [(.t 47),(.c (.fn (.func EG) [] []))],oM 4 48] [4] .ret)))))
def Th:Fi:=⟨49,U9,[.tmp 4],(.seq .d (.seq .d (.seq (.seq .d (.loop [5] [] [] .d)) .d))),⟨[(5,(.st (.cons (.int .i64) (.cons (.int .i64) .nil)))),(37,(.st (.cons (.int .i64) (.cons (.int .i64) .nil)))),(38,(.st (.cons (.int .i64) (.cons (.int .i64) .nil)))),(3,(.st (.cons (.int .i64) (.cons (.int .i64) .nil)))),(7,(.st (.cons (.int .i64) (.cons (.int .i64) .nil))))],[]⟩,none⟩
theorem MZ:Ex Tryz.prog A9 Th:=M_ Tryz.func75
def W9:Ag:=(sq [oV 2 (.c .AL)] [0] (sq [gp 3 (.DE 2)] [0,3] (.seq (sq [oM 7 0,oN 8 7,oC 9 0] [3,7,8,9] (.block 0 (.loop [7,8] [3,9] 1 (sq [oB 10 .lss 9 8] [3,7,8,9,10] (.seq (.cond (.t 10) .skip (.exit 0)) (.join [7,8,9] [3] 2 (.block 1 (sq [oI 11 2 7 9,oA 12 2 11,gp 5 (.alloc 0 [(.int .i64 0),(.int .i64 0)]),oS 2 5 12] [3,5,7,8,9] (sq [oM 13 3,oN 14 13,oM 6 14] [3,5,6,7,8,9] (.block 2 (sq [oF 20 0 5,oL 21 20,oF 22 1 5,oL 23 22,oB 24 .eql 21 23,oM 19 24] [3,5,6,7,8,9,19] (.cond (.t 19) .skip (.seq (.ops [oM 26 6,oJ 27 .gtr 26 0,gb 28 (.CD (.t 27)),gq 29 (.CD (.t 3)) 28 true,gq 30 (.CD (.t 6)) 28 true,gq 31 (.bin .none .sub (.t 30) (ci 1)) 28 true,gq 32 (.DT 2 none (.t 29) (.t 31)) 28 true,gq 33 (.Bo 1 (.t 32)) 28 true,gq 34 (.load 1 false (.t 33)) 28 true,gq 35 (.Bo 0 (.t 5)) 28 true,gq 36 (.load 1 false (.t 35)) 28 true,gq 37 (.bin .none .geq (.t 34) (.t 36)) 28 true,gp 38 (.pick (.t 28) (.t 37) (.c (.bool false))),oM 25 38] (some (0,0,[0,1,2,3,4,5,6,7,8,9,10,11,12,13])) [3,5,6,7,8,9,25]) (.cond (.t 25) (.ops [oM 39 3,oM 40 6,oJ 41 .sub 40 1,oM 42 3,oM 43 6,oJ 44 .sub 43 1,oI 45 2 42 44,oF 46 1 45,oL 47 46,oF 48 1 5,oL 49 48,gp 50 (.max [(.t 47),(.t 49)]),oI 51 2 39 41,oF 52 1 51,oS 1 52 50] (some (0,0,[0,1,2,3,4,5,6,7,8,9,10,11,12,13,14])) [3,7,8,9]) (.ops [oM 15 3,oA 16 2 5,gp 17 (.Ax true 1 2 [(.int .i64 0),(.int .i64 0)] [(0,2,(.t 16))]),oP 18 2 16 15 17,oM 3 18] none [3,7,8,9]))))))))) (.ops [oJ 53 .add 9 1,oM 9 53] none [3,7,8,9]))))))) (sq [oM 54 3,oM 2 54] [2] .ret))))
def U5:Fi:=⟨55,W9,[.tmp 2],(.seq .d (.seq .d (.seq (.seq .d (.loop [3] [] [] .d)) .d))),⟨[(3,(.st (.cons (.int .i64) (.cons (.int .i64) .nil)))),(17,(.st (.cons (.int .i64) (.cons (.int .i64) .nil)))),(18,(.st (.cons (.int .i64) (.cons (.int .i64) .nil)))),(5,(.st (.cons (.int .i64) (.cons (.int .i64) .nil))))],[]⟩,none⟩
theorem NX:Ex Tryz.prog Dc U5:=M_ Tryz.func45
def U8:Ag:=(sq [gp 3 (.box 0 (.t 1)),oV 4 (.c .AL)] [0,3] (sq [gp 5 (.DE 2)] [0,3,5] (.seq (sq [oM 9 0,oF 10 0 3,oL 11 10,oF 12 0 3,oL 13 12,oF 14 1 3,oL 15 14,oB 16 .add 13 15,gp 17 (.build [(.int .i64 0),(.int .i64 0)] [(0,1,(.t 11)),(1,1,(.t 16))]),oG 18 A9 [(.t 9),(.t 17)],oN 19 18,oC 20 0] [3,5,18,19,20] (.block 0 (.loop [3,18,19] [5,20] 2 (sq [oB 21 .lss 20 19] [3,5,18,19,20,21] (.seq (.cond (.t 21) .skip (.exit 0)) (.seq (.block 1 (sq [oI 22 2 18 20,oA 23 2 22,gp 7 (.alloc 0 [(.int .i64 0),(.int .i64 0)]),oS 2 7 23] [3,5,7,18,19,20] (.join [3,7,18,19,20] [5] 3 (sq [oF 24 0 7,oL 25 24,oF 26 0 3,oL 27 26,oB 28 .lss 25 27,gb 29 (.CD (.t 28)),gq 30 (.Bo 1 (.t 7)) 29 true,gq 31 (.load 1 false (.t 30)) 29 true,gq 32 (.Bo 0 (.t 3)) 29 true,gq 33 (.load 1 false (.t 32)) 29 true,gq 34 (.bin .none .gtr (.t 31) (.t 33)) 29 true,gp 35 (.pick (.t 29) (.t 34) (.c (.bool false)))] [3,5,7,18,19,20,35] (.cond (.t 35) (sq [oM 36 5,oF 37 0 7,oL 38 37,oF 39 0 3,oL 40 39,gp 41 (.build [(.int .i64 0),(.int .i64 0)] [(0,1,(.t 38)),(1,1,(.t 40))]),gp 42 (.Ax true 1 2 [(.int .i64 0),(.int .i64 0)] [(0,2,(.t 41))]),oP 43 2 16 36 42,oM 5 43] [3,5,7,18,19,20] (.ops [oF 44 0 3,oL 45 44,oF 46 0 7,oS 1 46 45] none [3,5,7,18,19,20])) .skip)) (.join [3,5,7,18,19,20] [] 3 (sq [oF 47 0 7,oL 48 47,oF 49 0 3,oL 50 49,oB 51 .geq 48 50] [3,5,7,18,19,20,51] (.cond (.t 51) (sq [oF 52 2 3,oL 53 52,oT 54 53,oF 55 1 3,oL 56 55,oB 57 .sub 54 56,oM 8 57] [3,5,7,8,18,19,20] (.ops [oF 58 0 7,oL 59 58,oM 60 8,oB 61 .add 59 60,oF 62 1 7,oL 63 62,oM 64 8,oB 65 .add 63 64,gp 66 (.build [(.int .i64 0),(.int .i64 0)] [(0,1,(.t 61)),(1,1,(.t 65))]),oS 2 7 66] none [3,5,7,18,19,20])) .skip)) (.ops [oM 67 5,oA 68 2 7,gp 69 (.Ax true 1 2 [(.int .i64 0),(.int .i64 0)] [(0,2,(.t 68))]),oP 70 2 16 67 69,oM 5 70] none [3,5,18,19,20]))))) (.ops [oJ 71 .add 20 1,oM 20 71] none [3,5,18,19,20]))))))) (.seq (.ops [oM 72 5,oF 74 0 3,oL 75 74,oF 76 0 3,oL 77 76,oF 78 2 3,oL 79 78,oT 80 79,oB 81 .add 77 80,gp 82 (.build [(.int .i64 0),(.int .i64 0)] [(0,1,(.t 75)),(1,1,(.t 81))]),⟨(some 73),.call Dc [(.t 72)],none,false,[(75,1,false,(.t 74)),(77,1,false,(.t 76)),(79,1,false,(.t 78))]⟩,gn (.again 75 1 false (.t 74)),gn (.again 77 1 false (.t 76)),gn (.again 79 1 false (.t 78)),oG 83 Bv [(.t 73),(.t 82)],oM 4 83] (some (0,0,[0,2,3,4,5,6,7,8,9,10,1,11,12])) [4]) .ret))))
def Te:Fi:=⟨84,U8,[.tmp 4],(.seq .d (.seq .d (.seq (.seq .d (.loop [5] [] [] .d)) .d))),⟨[(5,(.st (.cons (.int .i64) (.cons (.int .i64) .nil)))),(42,(.st (.cons (.int .i64) (.cons (.int .i64) .nil)))),(43,(.st (.cons (.int .i64) (.cons (.int .i64) .nil)))),(69,(.st (.cons (.int .i64) (.cons (.int .i64) .nil)))),(70,(.st (.cons (.int .i64) (.cons (.int .i64) .nil)))),(3,(.st (.cons (.int .i64) (.cons (.int .i64) (.cons .str .nil))))),(7,(.st (.cons (.int .i64) (.cons (.int .i64) .nil))))],[]⟩,none⟩
theorem MY:Ex Tryz.prog Bf Te:=M_ Tryz.func70
def de:Ag:=(sq [oV 2 (.c (.bool false))] [0] (.seq (sq [oM 5 0,oN 6 5,oC 7 0] [0,5,6,7] (.block 0 (.loop [0,5,6] [7] 0 (sq [oB 8 .lss 7 6] [0,5,6,7,8] (.seq (.cond (.t 8) .skip (.exit 0)) (.seq (.block 1 (sq [oM 9 7,oI 10 1 5 7,oL 11 10,oM 3 9,oM 4 11] [0,3,4,5,6,7] (sq [oM 12 3,oJ 13 .gtr 12 0,gb 14 (.CD (.t 13)),gq 15 (.CD (.t 4)) 14 true,gq 16 (.CD (.t 0)) 14 true,gq 17 (.CD (.t 3)) 14 true,gq 18 (.bin .none .sub (.t 17) (ci 1)) 14 true,gq 19 (.DT 1 none (.t 16) (.t 18)) 14 true,gq 20 (.load 1 false (.t 19)) 14 true,gq 21 (.bin .none .leq (.t 15) (.t 20)) 14 true,gp 22 (.pick (.t 14) (.t 21) (.c (.bool false)))] [0,5,6,7,22] (.cond (.t 22) (sq [oV 2 (.c (.bool false))] [2] .ret) .skip)))) (.ops [oJ 23 .add 7 1,oM 7 23] none [0,5,6,7]))))))) (sq [oM 24 0,oN 25 24,oJ 26 .gtr 25 0,gb 27 (.CD (.t 26)),gq 28 (.CD (.t 0)) 27 true,gq 29 (.DT 1 none (.t 28) (ci 0)) 27 true,gq 30 (.load 1 false (.t 29)) 27 true,gq 31 (.bin .none .eql (.t 30) (ci 0)) 27 true,gp 32 (.pick (.t 27) (.t 31) (.c (.bool false))),gb 33 (.CD (.t 32)),gq 34 (.CD (.t 0)) 33 true,gq 35 (.CD (.t 0)) 33 true,gq 36 (.len false (.t 35)) 33 true,gq 37 (.bin .none .sub (.t 36) (ci 1)) 33 true,gq 38 (.DT 1 none (.t 34) (.t 37)) 33 true,gq 39 (.load 1 false (.t 38)) 33 true,gq 40 (.bin .none .leq (.t 39) (ci 600)) 33 true,gp 41 (.pick (.t 33) (.t 40) (.c (.bool false))),oM 2 41] [2] .ret)))
def aR:Fi:=⟨42,de,[.tmp 2],(.seq .d (.seq (.seq .d (.loop [] [] [] .d)) .d)),⟨[],[]⟩,none⟩
theorem RY:Ex Tryz.prog FA aR:=M_ Tryz.func80
def aP:Ag:=(sq [gp 2 (.box 0 (.t 0)),gp 3 (.box 0 (.t 1)),oC 4 0,oC 5 0] [2,3] (.seq (.block 0 (sq [oL 7 2,oG 8 FA [(.t 7)],gp 9 (.not (.t 8)),oM 6 9] [2,3,6] (.cond (.t 6) (sq [oC 4 0,oC 5 4] [4,5] .ret) (sq [oL 11 3,oJ 12 .lss 11 0,oM 10 12] [2,3,10] (.cond (.t 10) (sq [oC 4 0,oC 5 2] [4,5] .ret) .skip))))) (sq [oL 13 2,oN 14 13,gp 15 (.HJ (.func FX) [] [(.t 2),(.t 3)]),oG 16 EV [(.t 14),(.t 15)],oJ 17 .sub 16 1,oM 4 17,oC 5 0] [4,5] .ret)))
def Xe:Fi:=⟨18,aP,[.tmp 4,.tmp 5],.d,⟨[(2,(.sl (.int .i64)))],[]⟩,none⟩
theorem Pn:Ex Tryz.prog Bu Xe:=M_ Tryz.func51
def qd:Ag:=(sq [gp 2 (.alloc 0 [(.int .i64 0),(.int .i64 0),(.int .i64 0)])] [0,2] (sq [oM 3 0,oT 4 3,oM 5 0,oG 6 E6 [(.t 5),(.c (.str [10]))],oM 7 0,oT 8 7,oM 9 0,oG 10 Cv [(.t 9),(.c (.int .u8 10))],oB 11 .sub 8 10,oJ 12 .sub 11 1,gp 13 (.build [(.int .i64 0),(.int .i64 0),(.int .i64 0)] [(0,1,(.t 4)),(1,1,(.t 6)),(2,1,(.t 12))]),oS 3 2 13] [2] .ret))
def nT:Fi:=⟨14,qd,[.cell 2 3 true],.d,⟨[(2,(.st (.cons (.int .i64) (.cons (.int .i64) (.cons (.int .i64) .nil)))))],[]⟩,none⟩
theorem Y5:Ex Tryz.prog FB nT:=M_ Tryz.func71
def R6:Ag:=(sq [gp 2 (.box 0 (.t 0)),gp 3 (.box 0 (.t 1)),oC 4 0] [2,3] (sq [oL 5 2,oN 6 5,gp 7 (.HJ (.func Dg) [] [(.t 2),(.t 3)]),oG 8 EV [(.t 6),(.t 7)],oM 4 8] [4] .ret))
def QV:Fi:=⟨9,R6,[.tmp 4],.d,⟨[(2,(.sl (.int .i64)))],[]⟩,none⟩
theorem Kq:Ex Tryz.prog CE QV:=M_ Tryz.func95
def Ut:Ag:=(sq [gp 3 (.box 0 (.t 1)),oV 4 (.c .AL)] [0,3] (sq [oM 11 0,oF 12 0 3,oL 13 12,oJ 14 .add 13 1,oG 15 CE [(.t 11),(.t 14)],oM 5 15] [0,3,5] (sq [oM 16 0,oF 17 0 3,oL 18 17,oF 19 1 3,oL 20 19,oB 21 .add 18 20,oJ 22 .add 21 1,oG 23 CE [(.t 16),(.t 22)],oM 6 23] [0,3,5,6] (sq [oM 24 0,oM 25 5,gp 26 (.slice 1 (.t 24) none (some (.t 25))),gp 27 (.append 1 8 (.c .AL) (.t 26)),oM 7 27] [0,3,6,7] (.seq (sq [oF 28 2 3,oL 29 28,oT 30 29,oC 31 0] [0,3,6,7,30,31] (.block 0 (.loop [0,3,6,30] [7,31] 2 (sq [oB 32 .lss 31 30] [0,3,6,7,30,31,32] (.seq (.cond (.t 32) .skip (.exit 0)) (.join [0,3,6,30,31] [7] 2 (.block 1 (sq [oM 33 31,oM 8 33] [0,3,6,7,8,30,31] (sq [oF 34 2 3,oL 35 34,oM 36 8,gp 37 (.index 1 none false (.t 35) (.t 36)),gp 38 (.bin .none .eql (.t 37) (.c (.int .u8 10)))] [0,3,6,7,8,30,31,38] (.cond (.t 38) (.ops [oM 39 7,oF 40 0 3,oL 41 40,oM 42 8,oB 43 .add 41 42,oJ 44 .add 43 1,gp 45 (.Ax true 1 1 [(.int .i64 0)] [(0,1,(.t 44))]),oP 46 1 8 39 45,oM 7 46] none [0,3,6,7,30,31]) .skip)))) (.ops [oJ 47 .add 31 1,oM 31 47] none [0,3,6,7,30,31]))))))) (.seq (sq [oM 48 0,oM 49 6,gp 50 (.slice 1 (.t 48) (some (.t 49)) none),oN 51 50,oC 52 0] [3,7,50,51,52] (.block 2 (.loop [3,50,51] [7,52] 2 (sq [oB 53 .lss 52 51] [3,7,50,51,52,53] (.seq (.cond (.t 53) .skip (.exit 2)) (.seq (.block 3 (sq [oI 54 1 50 52,oL 55 54,oM 10 55] [3,7,10,50,51,52] (.ops [oM 56 7,oM 57 10,oF 58 2 3,oL 59 58,oT 60 59,oB 61 .add 57 60,oF 62 1 3,oL 63 62,oB 64 .sub 61 63,gp 65 (.Ax true 1 1 [(.int .i64 0)] [(0,1,(.t 64))]),oP 66 1 8 56 65,oM 7 66] none [3,7,50,51,52]))) (.ops [oJ 67 .add 52 1,oM 52 67] none [3,7,50,51,52]))))))) (sq [oM 68 7,oM 4 68] [4] .ret)))))))
def Sx:Fi:=⟨69,Ut,[.tmp 4],(.seq .d (.seq .d (.seq .d (.seq .d (.seq (.seq .d (.loop [7] [] [] .d)) (.seq (.seq .d (.loop [7] [] [] .d)) .d)))))),⟨[(27,(.int .i64)),(45,(.int .i64)),(46,(.int .i64)),(65,(.int .i64)),(66,(.int .i64)),(3,(.st (.cons (.int .i64) (.cons (.int .i64) (.cons .str .nil)))))],[]⟩,none⟩
theorem ME:Ex Tryz.prog BT Sx:=M_ Tryz.func73
def nQ:Ag:=(sq [gp 2 (.alloc 0 [(.int .i64 0),(.int .i64 0)])] [0,2] (sq [gp 5 (.build [(.int .i64 0),(.int .i64 0)] [(1,1,(ci 1))]),gp 3 (.alloc 0 [(.int .i64 0),(.int .i64 0)]),oS 2 3 5] [0,2,3] (.seq (sq [oM 6 0,oT 7 6,oC 8 0] [0,2,3,7,8] (.block 0 (.loop [0,2,3,7] [8] 2 (sq [oB 9 .lss 8 7] [0,2,3,7,8,9] (.seq (.cond (.t 9) .skip (.exit 0)) (.seq (.block 1 (sq [oM 10 8,oM 4 10] [0,2,3,4,7,8] (.seq (.ops [oF 11 0 3,oL 12 11,oJ 13 .mul 12 257,oM 14 0,oM 15 4,gp 16 (.index 1 none false (.t 14) (.t 15)),gp 17 (.conv .i64 (.t 16)),oB 18 .add 13 17,oJ 19 .add 18 1,oJ 20 .rem 19 2147483647,oF 21 0 3,oS 1 21 20] (some (0,0,[0,1,2,3,4,5,6,7,8,9,10,11])) [0,2,3,7,8]) (.ops [oF 22 1 3,oL 23 22,oJ 24 .mul 23 257,oJ 25 .rem 24 2147483647,oF 26 1 3,oS 1 26 25] none [0,2,3,7,8])))) (.ops [oJ 27 .add 8 1,oM 8 27] none [0,2,3,7,8]))))))) (sq [oA 28 2 3,oS 2 2 28] [2] .ret))))
def jJ:Fi:=⟨29,nQ,[.cell 2 2 true],(.seq .d (.seq .d (.seq (.seq .d (.loop [3] [] [] .d)) .d))),⟨[(2,(.st (.cons (.int .i64) (.cons (.int .i64) .nil)))),(3,(.st (.cons (.int .i64) (.cons (.int .i64) .nil))))],[]⟩,none⟩
theorem Wg:Ex Tryz.prog Df jJ:=M_ Tryz.func57
def YC:Ag:=(sq [oV 2 (.c (.bool false))] [0] (.seq (sq [oM 4 0,oT 5 4,oC 6 0] [0,5,6] (.block 0 (.loop [0,5] [6] 0 (sq [oB 7 .lss 6 5] [0,5,6,7] (.seq (.cond (.t 7) .skip (.exit 0)) (.seq (.block 1 (sq [oM 8 6,oM 3 8] [0,3,5,6] (sq [oM 9 0,oM 10 3,gp 11 (.index 1 none false (.t 9) (.t 10)),oG 12 BB [(.t 11)],gp 13 (.not (.t 12))] [0,5,6,13] (.cond (.t 13) (sq [oV 2 (.c (.bool false))] [2] .ret) .skip)))) (.ops [oJ 14 .add 6 1,oM 6 14] none [0,5,6]))))))) (sq [oM 15 0,gp 16 (.bin .none .neq (.t 15) (.c (.str []))),gb 17 (.CD (.t 16)),gq 18 (.CD (.t 0)) 17 true,gq 19 (.len true (.t 18)) 17 true,gq 20 (.bin .none .leq (.t 19) (ci 12)) 17 true,gp 21 (.pick (.t 17) (.t 20) (.c (.bool false))),oM 2 21] [2] .ret)))
def XL:Fi:=⟨22,YC,[.tmp 2],(.seq .d (.seq (.seq .d (.loop [] [] [] .d)) .d)),⟨[],[]⟩,none⟩
theorem Ol:Ex Tryz.prog CY XL:=M_ Tryz.func52
def iu:Ag:=(sq [oV 2 (.c .AL)] [0] (sq [gp 5 (.Ax false 1 1 [(.int .i64 0)] [(0,1,(ci 0))]),oM 3 5] [0,3] (.seq (sq [oM 6 0,oT 7 6,oC 8 0] [0,3,7,8] (.block 0 (.loop [0,7] [3,8] 1 (sq [oB 9 .lss 8 7] [0,3,7,8,9] (.seq (.cond (.t 9) .skip (.exit 0)) (.join [0,7,8] [3] 1 (.block 1 (sq [oM 10 8,oM 4 10] [0,3,4,7,8] (sq [oM 11 0,oM 12 4,gp 13 (.index 1 none false (.t 11) (.t 12)),gp 14 (.bin .none .eql (.t 13) (.c (.int .u8 10)))] [0,3,4,7,8,14] (.cond (.t 14) (.ops [oM 15 3,oM 16 4,oJ 17 .add 16 1,gp 18 (.Ax true 1 1 [(.int .i64 0)] [(0,1,(.t 17))]),oP 19 1 8 15 18,oM 3 19] none [0,3,7,8]) .skip)))) (.ops [oJ 20 .add 8 1,oM 8 20] none [0,3,7,8]))))))) (sq [oM 21 3,oM 2 21] [2] .ret))))
def da:Fi:=⟨22,iu,[.tmp 2],(.seq .d (.seq .d (.seq (.seq .d (.loop [3] [] [] .d)) .d))),⟨[(5,(.int .i64)),(18,(.int .i64)),(19,(.int .i64))],[]⟩,none⟩
theorem UI:Ex Tryz.prog Dw da:=M_ Tryz.func23
def Uu:Ag:=(sq [gp 3 (.box 0 (.t 1)),oC 4 0] [0,3] (.seq (sq [oM 5 0,oJ 6 .lss 5 0,gb 7 (.CD (.t 6)),gq 8 (.CD (.t 0)) 7 false,gq 9 (.bin .none .gtr (.t 8) (ci 600)) 7 false,gp 10 (.pick (.t 7) (.c (.bool true)) (.t 9)),gb 11 (.CD (.t 10)),gq 12 (.Bo 0 (.t 3)) 11 false,gq 13 (.load 1 false (.t 12)) 11 false,gq 14 (.bin .none .lss (.t 13) (ci 0)) 11 false,gp 15 (.pick (.t 11) (.c (.bool true)) (.t 14)),gb 16 (.CD (.t 15)),gq 17 (.Bo 1 (.t 3)) 16 false,gq 18 (.load 1 false (.t 17)) 16 false,gq 19 (.bin .none .lss (.t 18) (ci 0)) 16 false,gp 20 (.pick (.t 16) (.c (.bool true)) (.t 19)),gb 21 (.CD (.t 20)),gq 22 (.Bo 0 (.t 3)) 21 false,gq 23 (.load 1 false (.t 22)) 21 false,gq 24 (.CD (.t 0)) 21 false,gq 25 (.bin .none .gtr (.t 23) (.t 24)) 21 false,gp 26 (.pick (.t 21) (.c (.bool true)) (.t 25)),gb 27 (.CD (.t 26)),gq 28 (.Bo 1 (.t 3)) 27 false,gq 29 (.load 1 false (.t 28)) 27 false,gq 30 (.CD (.t 0)) 27 false,gq 31 (.bin .none .gtr (.t 29) (.t 30)) 27 false,gp 32 (.pick (.t 27) (.c (.bool true)) (.t 31)),gb 33 (.CD (.t 32)),gq 34 (.Bo 0 (.t 3)) 33 false,gq 35 (.load 1 false (.t 34)) 33 false,gq 36 (.Bo 1 (.t 3)) 33 false,gq 37 (.load 1 false (.t 36)) 33 false,gq 38 (.bin .none .add (.t 35) (.t 37)) 33 false,gq 39 (.CD (.t 0)) 33 false,gq 40 (.bin .none .gtr (.t 38) (.t 39)) 33 false,gp 41 (.pick (.t 33) (.c (.bool true)) (.t 40))] [0,3,41] (.cond (.t 41) (sq [oC 4 2] [4] .ret) .skip)) (.seq (sq [oM 42 0,oF 43 2 3,oL 44 43,oT 45 44,oB 46 .add 42 45,oF 47 1 3,oL 48 47,oB 49 .sub 46 48,oJ 50 .gtr 49 600] [50] (.cond (.t 50) (sq [oC 4 1] [4] .ret) .skip)) (sq [oC 4 0] [4] .ret))))
def TH:Fi:=⟨51,Uu,[.tmp 4],.d,⟨[(3,(.st (.cons (.int .i64) (.cons (.int .i64) (.cons .str .nil)))))],[]⟩,none⟩
theorem MO:Ex Tryz.prog CU TH:=M_ Tryz.func35
def Ws:Ag:=(sq [gp 3 (.box 0 (.t 1)),oV 4 (.c (.str []))] [0,3] (sq [oV 5 (.c (.str []))] [0,3,5] (.seq (sq [oC 6 0] [0,3,5,6] (.block 0 (.loop [0,3] [5,6] 1 (.seq (sq [oM 7 6,oM 8 0,oT 9 8,oB 10 .leq 7 9] [0,3,5,6,10] (.cond (.t 10) .skip (.exit 0))) (.join [0,3,6] [5] 1 (.block 1 (.join [0,3,6] [5] 1 (sq [oM 13 6,oF 14 0 3,oL 15 14,oB 16 .eql 13 15] [0,3,5,6,16] (.cond (.t 16) (.ops [oM 17 5,oF 18 2 3,oL 19 18,oB 20 .add 17 19,oM 5 20] none [0,3,5,6]) .skip)) (sq [oM 21 6,oM 22 0,oT 23 22,oB 24 .lss 21 23,gb 25 (.CD (.t 24)),gq 26 (.CD (.t 6)) 25 true,gq 27 (.Bo 0 (.t 3)) 25 true,gq 28 (.load 1 false (.t 27)) 25 true,gq 29 (.bin .none .lss (.t 26) (.t 28)) 25 true,⟨(some 30),.CD (.t 29),(some (25,true)),true,[]⟩,gq 31 (.CD (.t 6)) 30 false,gq 32 (.Bo 0 (.t 3)) 30 false,gq 33 (.load 1 false (.t 32)) 30 false,gq 34 (.Bo 1 (.t 3)) 30 false,gq 35 (.load 1 false (.t 34)) 30 false,gq 36 (.bin .none .add (.t 33) (.t 35)) 30 false,gq 37 (.bin .none .geq (.t 31) (.t 36)) 30 false,gq 38 (.pick (.t 30) (.c (.bool true)) (.t 37)) 25 true,gp 39 (.pick (.t 25) (.t 38) (.c (.bool false)))] [0,3,5,6,39] (.cond (.t 39) (.ops [oM 40 5,oM 41 0,oM 42 6,oM 43 6,oJ 44 .add 43 1,gp 45 (.slice 0 (.t 41) (some (.t 42)) (some (.t 44))),oB 46 .add 40 45,oM 5 46] none [0,3,5,6]) .skip)))) (.ops [oM 11 6,oJ 12 .add 11 1,oM 6 12] none [0,3,5,6])))))) (sq [oM 47 5,oM 4 47] [4] .ret))))
def U0:Fi:=⟨48,Ws,[.tmp 4],(.seq .d (.seq .d (.seq (.seq .d (.loop [] [] [] .d)) .d))),⟨[(3,(.st (.cons (.int .i64) (.cons (.int .i64) (.cons .str .nil)))))],[]⟩,none⟩
theorem NW:Ex Tryz.prog Cx U0:=M_ Tryz.func36
def e8:Ag:=(sq [gp 2 (.alloc 0 [(.int .i64 0),(.int .i64 0),(.int .i64 0)])] [0,2] (sq [gp 3 (.alloc 0 [(.int .i64 0),(.int .i64 0),(.int .i64 0)])] [0,2,3] (.seq (sq [oC 4 0] [0,2,3,4] (.block 0 (.loop [0,2,3] [4] 2 (.seq (sq [oM 5 4,oM 6 0,oT 7 6,oB 8 .lss 5 7] [0,2,3,4,8] (.cond (.t 8) .skip (.exit 0))) (.join [0,2,3,4] [] 2 (.block 1 (sq [oF 11 0 3,oL 12 11,oJ 13 .add 12 1,oF 14 0 3,oS 1 14 13] [0,2,3,4] (sq [oF 15 2 3,oL 16 15,oJ 17 .add 16 1,oF 18 2 3,oS 1 18 17] [0,2,3,4] (sq [oM 19 0,oM 20 4,gp 21 (.index 1 none false (.t 19) (.t 20)),gp 22 (.bin .none .eql (.t 21) (.c (.int .u8 10)))] [0,2,3,4,22] (.cond (.t 22) (sq [oF 23 1 3,oL 24 23,oJ 25 .add 24 1,oF 26 1 3,oS 1 26 25] [0,2,3,4] (.ops [oF 27 2 3,gn (.store 1 (.t 27) (ci 0))] none [0,2,3,4])) .skip))))) (.ops [oM 9 4,oJ 10 .add 9 1,oM 4 10] none [0,2,3,4])))))) (sq [oA 28 3 3,oS 3 2 28] [2] .ret))))
def a_:Fi:=⟨29,e8,[.cell 2 3 true],(.seq .d (.seq .d (.seq (.seq .d (.loop [3] [] [] .d)) .d))),⟨[(2,(.st (.cons (.int .i64) (.cons (.int .i64) (.cons (.int .i64) .nil))))),(3,(.st (.cons (.int .i64) (.cons (.int .i64) (.cons (.int .i64) .nil)))))],[]⟩,none⟩
theorem Rt:Ex Tryz.prog FC a_:=M_ Tryz.func37
def ew:Ag:=(sq [gp 4 (.alloc 0 [(.int .i64 0),(.int .i64 0),(.int .i64 0)]),oC 5 0] [0,1,4] (.seq (sq [oM 6 1,oJ 7 .lss 6 0,gb 8 (.CD (.t 7)),gq 9 (.CD (.t 1)) 8 false,gq 10 (.CD (.t 0)) 8 false,gq 11 (.len true (.t 10)) 8 false,gq 12 (.bin .none .gtr (.t 9) (.t 11)) 8 false,gp 13 (.pick (.t 8) (.c (.bool true)) (.t 12))] [0,1,4,13] (.cond (.t 13) (sq [gp 14 (.build [(.int .i64 0),(.int .i64 0),(.int .i64 0)] []),oS 3 4 14,oC 5 2] [4,5] .ret) .skip)) (sq [oM 15 0,oM 16 1,gp 17 (.slice 0 (.t 15) none (some (.t 16))),oG 18 FC [(.t 17)],oS 3 4 18,oC 5 0] [4,5] .ret)))
def ax:Fi:=⟨19,ew,[.cell 4 3 true,.tmp 5],.d,⟨[(4,(.st (.cons (.int .i64) (.cons (.int .i64) (.cons (.int .i64) .nil)))))],[]⟩,none⟩
theorem Rr:Ex Tryz.prog D9 ax:=M_ Tryz.func18
def bC:Ag:=(sq [oV 2 (.c (.bool false))] [0] (sq [oM 3 0,gp 4 (.bin .none .leq (.c (.int .u8 97)) (.t 3)),gb 5 (.CD (.t 4)),gq 6 (.CD (.t 0)) 5 true,gq 7 (.bin .none .leq (.t 6) (.c (.int .u8 122))) 5 true,gp 8 (.pick (.t 5) (.t 7) (.c (.bool false))),gb 9 (.CD (.t 8)),gq 10 (.CD (.t 0)) 9 false,gq 11 (.bin .none .leq (.c (.int .u8 65)) (.t 10)) 9 false,⟨(some 12),.CD (.t 11),(some (9,false)),true,[]⟩,gq 13 (.CD (.t 0)) 12 true,gq 14 (.bin .none .leq (.t 13) (.c (.int .u8 90))) 12 true,gq 15 (.pick (.t 12) (.t 14) (.c (.bool false))) 9 false,gp 16 (.pick (.t 9) (.c (.bool true)) (.t 15)),gb 17 (.CD (.t 16)),gq 18 (.CD (.t 0)) 17 false,gq 19 (.bin .none .leq (.c (.int .u8 48)) (.t 18)) 17 false,⟨(some 20),.CD (.t 19),(some (17,false)),true,[]⟩,gq 21 (.CD (.t 0)) 20 true,gq 22 (.bin .none .leq (.t 21) (.c (.int .u8 57))) 20 true,gq 23 (.pick (.t 20) (.t 22) (.c (.bool false))) 17 false,gp 24 (.pick (.t 17) (.c (.bool true)) (.t 23)),oM 2 24] [2] .ret))
def Xs:Fi:=⟨25,bC,[.tmp 2],.d,⟨[],[]⟩,none⟩
theorem Pt:Ex Tryz.prog D3 Xs:=M_ Tryz.func62
def bD:Ag:=(sq [oV 4 (.c (.str []))] [0,1] (.seq (sq [oM 6 1,oJ 7 .gtr 6 0,gb 8 (.CD (.t 7)),gq 9 (.CD (.t 0)) 8 true,gq 10 (.CD (.t 1)) 8 true,gq 11 (.bin .none .sub (.t 10) (ci 1)) 8 true,gq 12 (.index 1 none false (.t 9) (.t 11)) 8 true,gq 13 (.call D3 [(.t 12)]) 8 true,gp 14 (.pick (.t 8) (.t 13) (.c (.bool false)))] [0,1,14] (.cond (.t 14) (sq [oV 4 (.c (.str []))] [4] .ret) .skip)) (sq [oM 15 1,oM 5 15] [0,1,5] (.seq (.block 0 (.loop [0,1] [5] 0 (.seq (sq [oM 16 5,oM 17 0,oT 18 17,oB 19 .lss 16 18,gb 20 (.CD (.t 19)),gq 21 (.CD (.t 0)) 20 true,gq 22 (.CD (.t 5)) 20 true,gq 23 (.index 1 none false (.t 21) (.t 22)) 20 true,gq 24 (.call D3 [(.t 23)]) 20 true,gp 25 (.pick (.t 20) (.t 24) (.c (.bool false)))] [0,1,5,25] (.cond (.t 25) .skip (.exit 0))) (.block 1 (.ops [oM 26 5,oJ 27 .add 26 1,oM 5 27] none [0,1,5]))))) (.seq (sq [oM 28 5,oM 29 1,oB 30 .sub 28 29,oJ 31 .gtr 30 12] [0,1,5,31] (.cond (.t 31) (sq [oV 4 (.c (.str []))] [4] .ret) .skip)) (sq [oM 32 0,oM 33 1,oM 34 5,gp 35 (.slice 0 (.t 32) (some (.t 33)) (some (.t 34))),oM 4 35] [4] .ret))))))
def Xv:Fi:=⟨36,bD,[.tmp 4],(.seq .d (.seq .d (.seq .d (.seq (.loop [] [] [] .d) .d)))),⟨[],[]⟩,none⟩
theorem Pu:Ex Tryz.prog D4 Xv:=M_ Tryz.func38
def Uw:Ag:=(sq [oV 4 (.c .AL),oC 5 0] [0,1] (.seq (sq [oM 8 1,gp 9 (.bin .none .eql (.t 8) (.c (.str []))),gb 10 (.CD (.t 9)),gq 11 (.CD (.t 1)) 10 false,gq 12 (.call D4 [(.t 11),(ci 0)]) 10 false,gq 13 (.CD (.t 1)) 10 false,gq 14 (.bin .none .neq (.t 12) (.t 13)) 10 false,gp 15 (.pick (.t 10) (.c (.bool true)) (.t 14))] [0,1,15] (.cond (.t 15) (sq [oV 4 (.c .AL),oC 5 4] [4,5] .ret) .skip)) (.seq (sq [oM 16 0,oT 17 16,oJ 18 .gtr 17 600] [0,1,18] (.cond (.t 18) (sq [oV 4 (.c .AL),oC 5 1] [4,5] .ret) .skip)) (sq [gp 6 (.DE 1)] [0,1,6] (.seq (sq [oM 19 0,oT 20 19,oC 21 0] [0,1,6,20,21] (.block 0 (.loop [0,1,20] [6,21] 1 (sq [oB 22 .lss 21 20] [0,1,6,20,21,22] (.seq (.cond (.t 22) .skip (.exit 0)) (.join [0,1,20,21] [6] 1 (.block 1 (sq [oM 23 21,oM 7 23] [0,1,6,7,20,21] (sq [oM 24 0,oM 25 7,oG 26 D4 [(.t 24),(.t 25)],oM 27 1,oB 28 .eql 26 27] [0,1,6,7,20,21,28] (.cond (.t 28) (.ops [oM 29 6,oM 30 7,gp 31 (.Ax true 1 1 [(.int .i64 0)] [(0,1,(.t 30))]),oP 32 1 8 29 31,oM 6 32] none [0,1,6,20,21]) .skip)))) (.ops [oJ 33 .add 21 1,oM 21 33] none [0,1,6,20,21]))))))) (sq [oM 34 6,oM 4 34,oC 5 0] [4,5] .ret))))))
def TQ:Fi:=⟨35,Uw,[.tmp 4,.tmp 5],(.seq .d (.seq .d (.seq .d (.seq .d (.seq (.seq .d (.loop [6] [] [] .d)) .d))))),⟨[(6,(.int .i64)),(31,(.int .i64)),(32,(.int .i64))],[]⟩,none⟩
theorem MQ:Ex Tryz.prog B_ TQ:=M_ Tryz.func19
def Wq:Ag:=(sq [oV 2 (.c .AL)] [0] (sq [gp 5 (.Ax false 1 1 [(.str [])] [(0,1,(.c (.str [])))]),oM 3 5] [0,3] (.seq (sq [oC 4 0] [0,3,4] (.block 0 (.loop [0] [3,4] 1 (.seq (sq [oM 6 4,oM 7 0,oT 8 7,oB 9 .lss 6 8] [0,3,4,9] (.cond (.t 9) .skip (.exit 0))) (.join [0,4] [3] 1 (.block 1 (sq [oM 12 0,oM 13 4,gp 14 (.index 1 none false (.t 12) (.t 13)),gp 15 (.bin .none .eql (.t 14) (.c (.int .u8 10)))] [0,3,4,15] (.cond (.t 15) (.ops [oM 16 3,gp 17 (.Ax true 1 1 [(.str [])] [(0,1,(.c (.str [])))]),oP 18 1 16 16 17,oM 3 18] none [0,3,4]) (.ops [oM 19 3,oM 20 3,oN 21 20,oJ 22 .sub 21 1,oI 23 1 19 22,oL 24 23,oM 25 0,oM 26 4,oM 27 4,oJ 28 .add 27 1,gp 29 (.slice 0 (.t 25) (some (.t 26)) (some (.t 28))),oB 30 .add 24 29,oI 31 1 19 22,oS 1 31 30] (some (0,0,[0,1,2,3,4,5,6,7,8,9,10,11,12,13])) [0,3,4])))) (.ops [oM 10 4,oJ 11 .add 10 1,oM 4 11] none [0,3,4])))))) (sq [oM 32 3,oM 2 32] [2] .ret))))
def Ux:Fi:=⟨33,Wq,[.tmp 2],(.seq .d (.seq .d (.seq (.seq .d (.loop [3] [] [] .d)) .d))),⟨[(5,.str),(17,.str),(18,.str)],[]⟩,none⟩
theorem NV:Ex Tryz.prog Db Ux:=M_ Tryz.func39
def aw:Ag:=(sq [gp 2 (.alloc 0 [(.int .i64 0),(.int .i64 0)])] [0,2] (sq [oC 3 1] [0,2,3] (sq [oC 4 0] [0,2,3,4] (.seq (sq [oM 6 0,oT 7 6,oJ 8 .sub 7 1,oM 5 8] [0,2,3,4,5] (.block 0 (.loop [0,2] [3,4,5] 1 (.seq (sq [oM 9 5,oJ 10 .geq 9 0] [0,2,3,4,5,10] (.cond (.t 10) .skip (.exit 0))) (.seq (.block 1 (sq [oM 13 4,oM 14 0,oM 15 5,gp 16 (.index 1 none false (.t 14) (.t 15)),gp 17 (.conv .i64 (.t 16)),oJ 18 .add 17 1,oM 19 3,oB 20 .mul 18 19,oB 21 .add 13 20,oJ 22 .rem 21 2147483647,oM 4 22] [0,2,3,4,5] (.ops [oM 23 3,oJ 24 .mul 23 257,oJ 25 .rem 24 2147483647,oM 3 25] none [0,2,3,4,5]))) (.ops [oM 11 5,oJ 12 .sub 11 1,oM 5 12] none [0,2,3,4,5])))))) (sq [oM 26 4,oM 27 3,gp 28 (.build [(.int .i64 0),(.int .i64 0)] [(0,1,(.t 26)),(1,1,(.t 27))]),oS 2 2 28] [2] .ret)))))
def Xn:Fi:=⟨29,aw,[.cell 2 2 true],(.seq .d (.seq .d (.seq .d (.seq (.seq .d (.loop [] [] [] .d)) .d)))),⟨[(2,(.st (.cons (.int .i64) (.cons (.int .i64) .nil))))],[]⟩,none⟩
theorem Ps:Ex Tryz.prog ET Xn:=M_ Tryz.func40
def Uv:Ag:=(sq [oV 2 (.c .AL),oC 3 0] [0] (.seq (sq [oM 7 0,oT 8 7,oJ 9 .gtr 8 600] [0,9] (.cond (.t 9) (sq [oV 2 (.c .AL),oC 3 1] [2,3] .ret) .skip)) (sq [gp 4 (.DE 1)] [0,4] (.seq (sq [oM 10 0,oG 11 Db [(.t 10)],oN 12 11,oC 13 0] [4,11,12,13] (.block 0 (.loop [11,12] [4,13] 1 (sq [oB 14 .lss 13 12] [4,11,12,13,14] (.seq (.cond (.t 14) .skip (.exit 0)) (.seq (.block 1 (sq [oI 15 1 11 13,oL 16 15,oM 6 16] [4,6,11,12,13] (.ops [oM 17 4,oM 18 6,oG 19 ET [(.t 18)],gp 20 (.field 0 1 false (.t 19)),gp 21 (.Ax true 1 1 [(.int .i64 0)] [(0,1,(.t 20))]),oP 22 1 8 17 21,oM 4 22] none [4,11,12,13]))) (.ops [oJ 23 .add 13 1,oM 13 23] none [4,11,12,13]))))))) (sq [oM 24 4,oM 2 24,oC 3 0] [2,3] .ret)))))
def TN:Fi:=⟨25,Uv,[.tmp 2,.tmp 3],(.seq .d (.seq .d (.seq .d (.seq (.seq .d (.loop [4] [] [] .d)) .d)))),⟨[(4,(.int .i64)),(21,(.int .i64)),(22,(.int .i64))],[]⟩,none⟩
theorem MP:Ex Tryz.prog B9 TN:=M_ Tryz.func20
def Ur:Ag:=(sq [oV 4 (.c (.bool false))] [0,1] (.seq (sq [oM 6 0,oN 7 6,oM 8 1,oN 9 8,oB 10 .neq 7 9] [0,1,10] (.cond (.t 10) (sq [oV 4 (.c (.bool false))] [4] .ret) .skip)) (.seq (sq [oC 5 0] [0,1,5] (.block 0 (.loop [0,1] [5] 0 (.seq (sq [oM 11 5,oM 12 0,oN 13 12,oB 14 .lss 11 13] [0,1,5,14] (.cond (.t 14) .skip (.exit 0))) (.seq (.block 1 (.seq (.ops [oM 17 0,oM 18 5,oI 19 1 17 18,oL 20 19,oM 21 1,oM 22 5,oI 23 1 21 22,oL 24 23,oB 25 .neq 20 24] (some (0,0,[0,1,2,3,4,5,6,7,8])) [0,1,5,25]) (.cond (.t 25) (sq [oV 4 (.c (.bool false))] [4] .ret) .skip))) (.ops [oM 15 5,oJ 16 .add 15 1,oM 5 16] none [0,1,5])))))) (sq [oV 4 (.c (.bool true))] [4] .ret))))
def Ss:Fi:=⟨26,Ur,[.tmp 4],(.seq .d (.seq .d (.seq (.seq .d (.loop [] [] [] .d)) .d))),⟨[],[]⟩,none⟩
theorem MD:Ex Tryz.prog DJ Ss:=M_ Tryz.func7
def WD:Ag:=(sq [oV 4 (.c (.bool false))] [0,1] (.seq (sq [oM 6 0,oN 7 6,oM 8 1,oN 9 8,oB 10 .neq 7 9] [0,1,10] (.cond (.t 10) (sq [oV 4 (.c (.bool false))] [4] .ret) .skip)) (.seq (sq [oC 5 0] [0,1,5] (.block 0 (.loop [0,1] [5] 0 (.seq (sq [oM 11 5,oM 12 0,oN 13 12,oB 14 .lss 11 13] [0,1,5,14] (.cond (.t 14) .skip (.exit 0))) (.seq (.block 1 (.seq (.ops [oM 17 0,oM 18 5,oI 19 1 17 18,oL 20 19,oM 21 1,oM 22 5,oI 23 1 21 22,oL 24 23,oB 25 .neq 20 24] (some (0,0,[0,1,2,3,4,5,6,7,8])) [0,1,5,25]) (.cond (.t 25) (sq [oV 4 (.c (.bool false))] [4] .ret) .skip))) (.ops [oM 15 5,oJ 16 .add 15 1,oM 5 16] none [0,1,5])))))) (sq [oV 4 (.c (.bool true))] [4] .ret))))
def Uo:Fi:=⟨26,WD,[.tmp 4],(.seq .d (.seq .d (.seq (.seq .d (.loop [] [] [] .d)) .d))),⟨[],[]⟩,none⟩
theorem NP:Ex Tryz.prog Da Uo:=M_ Tryz.func8
def RV:Ag:=(sq [oV 4 (.c (.bool false))] [0,1] (sq [oM 17 0,oM 18 1,oG 19 DW [(.t 17),(.t 18)],oM 16 19,oX 20 16 0,oX 21 16 1,oX 22 16 2,oM 5 20,oM 6 21,oM 7 22] [0,1,5,6,7] (sq [oM 24 0,oM 25 1,oG 26 B1 [(.t 24),(.t 25)],oM 23 26,oX 27 23 0,oX 28 23 1,oX 29 23 2,oX 30 23 3,oM 8 27,oM 9 28,oM 10 29,oM 11 30] [1,5,6,7,8,9,10,11] (.seq (sq [oM 31 5,oN 32 31,oM 33 8,oN 34 33,oB 35 .neq 32 34,gb 36 (.CD (.t 35)),gq 37 (.CD (.t 7)) 36 false,gq 38 (.CD (.t 11)) 36 false,gq 39 (.bin .none .neq (.t 37) (.t 38)) 36 false,gp 40 (.pick (.t 36) (.c (.bool true)) (.t 39)),gb 41 (.CD (.t 40)),gq 42 (.CD (.t 6)) 41 false,gq 43 (.CD (.t 9)) 41 false,gq 44 (.call DJ [(.t 42),(.t 43)]) 41 false,gq 45 (.not (.t 44)) 41 false,gp 46 (.pick (.t 41) (.c (.bool true)) (.t 45))] [1,5,8,10,46] (.cond (.t 46) (sq [oV 4 (.c (.bool false))] [4] .ret) .skip)) (sq [oV 12 (.c (.bool false))] [1,5,8,10,12] (.seq (sq [oC 13 0] [1,5,8,10,12,13] (.block 0 (.loop [1,5,8,10] [12,13] 0 (.seq (sq [oM 47 13,oM 48 5,oN 49 48,oB 50 .lss 47 49] [1,5,8,10,12,13,50] (.cond (.t 50) .skip (.exit 0))) (.seq (.block 1 (sq [oM 53 5,oM 54 13,oI 55 5 53 54,oA 56 5 55,gp 14 (.alloc 0 [(.int .i64 0),(.int .i64 0),(.int .i64 0),.AL,(.str [])]),oS 5 14 56] [1,5,8,10,12,13,14] (sq [oM 57 8,oM 58 13,oI 59 5 57 58,oA 60 5 59,gp 15 (.alloc 0 [(.int .i64 0),(.int .i64 0),(.int .i64 0),.AL,(.str [])]),oS 5 15 60] [1,5,8,10,12,13,14,15] (.join [1,5,8,10,13,14,15] [12] 2 (sq [oF 61 1 15,oL 62 61,oJ 63 .eql 62 (-1),gb 64 (.CD (.t 63)),gq 65 (.Bo 0 (.t 15)) 64 true,gq 66 (.load 1 false (.t 65)) 64 true,gq 67 (.bin .none .eql (.t 66) (ci 0)) 64 true,gp 68 (.pick (.t 64) (.t 67) (.c (.bool false)))] [1,5,8,10,12,13,14,15,68] (.cond (.t 68) (.seq (sq [oF 69 1 14,oL 70 69,oJ 71 .neq 70 0,gb 72 (.CD (.t 71)),gq 73 (.Bo 1 (.t 14)) 72 true,gq 74 (.load 1 false (.t 73)) 72 true,gq 75 (.bin .none .neq (.t 74) (ci 1)) 72 true,gp 76 (.pick (.t 72) (.t 75) (.c (.bool false))),gb 77 (.CD (.t 76)),gq 78 (.CD (.t 10)) 77 false,gq 79 (.CD (.t 13)) 77 false,gq 80 (.DT 1 none (.t 78) (.t 79)) 77 false,gq 81 (.load 1 false (.t 80)) 77 false,⟨(some 82),.CD (.t 81),(some (77,false)),true,[]⟩,gq 83 (.Bo 1 (.t 14)) 82 true,gq 84 (.load 1 false (.t 83)) 82 true,gq 85 (.bin .none .neq (.t 84) (ci 1)) 82 true,gq 86 (.pick (.t 82) (.t 85) (.c (.bool false))) 77 false,gp 87 (.pick (.t 77) (.c (.bool true)) (.t 86)),gb 88 (.CD (.t 87)),gq 89 (.CD (.t 12)) 88 false,⟨(some 90),.CD (.t 89),(some (88,false)),true,[]⟩,gq 91 (.Bo 1 (.t 14)) 90 true,gq 92 (.load 1 false (.t 91)) 90 true,gq 93 (.bin .none .neq (.t 92) (ci 1)) 90 true,gq 94 (.pick (.t 90) (.t 93) (.c (.bool false))) 88 false,gp 95 (.pick (.t 88) (.c (.bool true)) (.t 94))] [1,5,8,10,13,14,15,95] (.cond (.t 95) (sq [oV 4 (.c (.bool false))] [4] .ret) .skip)) (sq [oF 96 1 14,oL 97 96,oJ 98 .eql 97 1,oM 12 98] [1,5,8,10,12,13,14,15] (.ops [oF 99 1 14,oL 100 99,oF 101 1 15,oS 1 101 100] none [1,5,8,10,12,13,14,15]))) .skip)) (.join [1,5,8,10,13,14,15] [12] 2 (sq [oM 102 1,oM 103 13,oI 104 8 102 103,oF 105 0 104,oL 106 105,oJ 107 .eql 106 1,gb 108 (.CD (.t 107)),gq 109 (.Bo 0 (.t 15)) 108 true,gq 110 (.load 1 false (.t 109)) 108 true,gq 111 (.bin .none .eql (.t 110) (ci 0)) 108 true,gp 112 (.pick (.t 108) (.t 111) (.c (.bool false)))] [1,5,8,10,12,13,14,15,112] (.cond (.t 112) (.ops [oV 12 (.c (.bool false))] none [1,5,8,10,12,13,14,15]) .skip)) (sq [oF 113 0 14,oL 114 113,oF 115 0 15,oL 116 115,oB 117 .neq 114 116,gb 118 (.CD (.t 117)),gq 119 (.Bo 1 (.t 14)) 118 false,gq 120 (.load 1 false (.t 119)) 118 false,gq 121 (.Bo 1 (.t 15)) 118 false,gq 122 (.load 1 false (.t 121)) 118 false,gq 123 (.bin .none .neq (.t 120) (.t 122)) 118 false,gp 124 (.pick (.t 118) (.c (.bool true)) (.t 123)),gb 125 (.CD (.t 124)),gq 126 (.Bo 2 (.t 14)) 125 false,gq 127 (.load 1 false (.t 126)) 125 false,gq 128 (.Bo 2 (.t 15)) 125 false,gq 129 (.load 1 false (.t 128)) 125 false,gq 130 (.bin .none .neq (.t 127) (.t 129)) 125 false,gp 131 (.pick (.t 125) (.c (.bool true)) (.t 130)),gb 132 (.CD (.t 131)),gq 133 (.Bo 4 (.t 14)) 132 false,gq 134 (.load 1 false (.t 133)) 132 false,gq 135 (.Bo 4 (.t 15)) 132 false,gq 136 (.load 1 false (.t 135)) 132 false,gq 137 (.bin .none .neq (.t 134) (.t 136)) 132 false,gp 138 (.pick (.t 132) (.c (.bool true)) (.t 137)),gb 139 (.CD (.t 138)),gq 140 (.Bo 3 (.t 14)) 139 false,gq 141 (.load 1 false (.t 140)) 139 false,gq 142 (.Bo 3 (.t 15)) 139 false,gq 143 (.load 1 false (.t 142)) 139 false,gq 144 (.call Da [(.t 141),(.t 143)]) 139 false,gq 145 (.not (.t 144)) 139 false,gp 146 (.pick (.t 139) (.c (.bool true)) (.t 145))] [1,5,8,10,12,13,146] (.cond (.t 146) (sq [oV 4 (.c (.bool false))] [4] .ret) .skip))))))) (.ops [oM 51 13,oJ 52 .add 51 1,oM 13 52] none [1,5,8,10,12,13])))))) (sq [oV 4 (.c (.bool true))] [4] .ret)))))))
def QH:Fi:=⟨147,RV,[.tmp 4],(.seq .d (.seq .d (.seq .d (.seq .d (.seq .d (.seq (.seq .d (.loop [] [] [] .d)) .d)))))),⟨[(14,(.st (.cons (.int .i64) (.cons (.int .i64) (.cons (.int .i64) (.cons (.sl (.int .i64)) (.cons .str .nil))))))),(15,(.st (.cons (.int .i64) (.cons (.int .i64) (.cons (.int .i64) (.cons (.sl (.int .i64)) (.cons .str .nil)))))))],[]⟩,none⟩
theorem Kd:Ex Tryz.prog EF QH:=M_ Tryz.func3
def GN:Ag:=(sq [oV 4 (.c .AL)] [0,1] (sq [oM 8 0,oM 9 1,oG 10 Az [(.t 8),(.t 9)],oM 5 10] [0,1,5] (.seq (sq [oM 11 5,oJ 12 .eql 11 (-1)] [0,1,5,12] (.cond (.t 12) (sq [oM 13 0,oM 4 13] [4] .ret) .skip)) (.seq (sq [oM 14 5,oJ 15 .add 14 1,oM 6 15] [0,1,5,6] (.block 0 (.loop [0,1] [5,6] 0 (.seq (sq [oM 16 6,oM 17 0,oN 18 17,oB 19 .lss 16 18] [0,1,5,6,19] (.cond (.t 19) .skip (.exit 0))) (.join [0,1,6] [5] 1 (.block 1 (sq [oM 22 0,oM 23 6,oI 24 2 22 23,oA 25 2 24,gp 7 (.alloc 0 [(.int .i64 0),(.int .i64 0)]),oS 2 7 25] [0,1,5,6,7] (sq [oM 26 1,oA 27 2 7,gp 28 (.GZ (.t 26) [(.t 27)]),gp 29 (.not (.t 28))] [0,1,5,6,7,29] (.cond (.t 29) (sq [oM 30 0,oM 31 5,oA 32 2 7,oI 33 2 30 31,oS 2 33 32] [0,1,5,6] (.ops [oM 34 5,oJ 35 .add 34 1,oM 5 35] none [0,1,5,6])) .skip)))) (.ops [oM 20 6,oJ 21 .add 20 1,oM 6 21] none [0,1,5,6])))))) (sq [oM 36 0,oM 37 5,gp 38 (.slice 2 (.t 36) (some (.t 37)) none),gn (.clear 2 [(.int .i64 0),(.int .i64 0)] (.t 38))] [0,5] (sq [oM 39 0,oM 40 5,gp 41 (.slice 2 (.t 39) none (some (.t 40))),oM 4 41] [4] .ret))))))
def Di:Fi:=⟨42,GN,[.tmp 4],(.seq .d (.seq .d (.seq .d (.seq (.seq .d (.loop [1,0] [] [] .d)) .d)))),⟨[(7,(.st (.cons (.int .i64) (.cons (.int .i64) .nil))))],[]⟩,none⟩
theorem GD:Ex Tryz.prog Aw Di:=M_ Tryz.func96
def GW:Ag:=(sq [oC 4 0] [0,1] (.seq (sq [oM 6 0,oN 7 6,oC 8 0] [0,1,7,8] (.block 0 (.loop [0,1,7] [8] 0 (sq [oB 9 .lss 8 7] [0,1,7,8,9] (.seq (.cond (.t 9) .skip (.exit 0)) (.seq (.block 1 (sq [oM 10 8,oM 5 10] [0,1,5,7,8] (sq [oM 11 1,oM 12 0,oM 13 5,oI 14 2 12 13,oA 15 2 14,gp 16 (.GZ (.t 11) [(.t 15)])] [0,1,5,7,8,16] (.cond (.t 16) (sq [oM 17 5,oM 4 17] [4] .ret) .skip)))) (.ops [oJ 18 .add 8 1,oM 8 18] none [0,1,7,8]))))))) (sq [oC 4 (-1)] [4] .ret)))
def Du:Fi:=⟨19,GW,[.tmp 4],(.seq .d (.seq (.seq .d (.loop [1] [] [] .d)) .d)),⟨[],[]⟩,none⟩
theorem GO:Ex Tryz.prog Az Du:=M_ Tryz.func119
def R_:Ag:=(sq [gp 1 (.box 0 (.t 0)),oV 2 (.c (.bool false))] [1] (sq [oF 3 0 1,oL 4 3,oF 5 1 1,oL 6 5,oB 7 .geq 4 6,oM 2 7] [2] .ret))
def Ks:Fi:=⟨8,R_,[.tmp 2],.d,⟨[(1,(.st (.cons (.int .i64) (.cons (.int .i64) .nil))))],[]⟩,none⟩
theorem QY:Ex Tryz.prog EG Ks:=M_ Tryz.func97
def X3:Ag:=(sq [oC 4 0] [0,1] (sq [oM 8 0,oC 5 0,oM 6 8] [1,5,6] (.seq (.block 0 (.loop [1] [5,6] 0 (.seq (sq [oM 9 5,oM 10 6,oB 11 .lss 9 10] [1,5,6,11] (.cond (.t 11) .skip (.exit 0))) (.block 1 (sq [oM 12 5,oM 13 6,oB 14 .add 12 13,gp 15 (.conv .u64 (.t 14)),gp 16 (.bin .none .shr (.t 15) (.c (.int .u64 1))),gp 17 (.conv .i64 (.t 16)),oM 7 17] [1,5,6,7] (sq [oM 18 1,oM 19 7,gp 20 (.GZ (.t 18) [(.t 19)]),gp 21 (.not (.t 20))] [1,5,6,7,21] (.cond (.t 21) (.ops [oM 22 7,oJ 23 .add 22 1,oM 5 23] none [1,5,6]) (.ops [oM 24 7,oM 6 24] none [1,5,6])))))))) (sq [oM 25 5,oM 4 25] [4] .ret))))
def Kr:Fi:=⟨26,X3,[.tmp 4],(.seq .d (.seq .d (.seq (.loop [1] [] [] .d) .d))),⟨[],[]⟩,none⟩
theorem OY:Ex Tryz.prog EV Kr:=M_ Tryz.func81
def WK:Ag:=(sq [oV 4 (.c (.bool false))] [0,1,2] (.seq (.ops [oL 5 1,oM 6 0,oI 7 1 5 6,oL 8 7,oL 9 2,oB 10 .gtr 8 9,oM 4 10] (some (0,0,[0,1,2,3,4,5,6])) [4]) .ret))
def NQ:Fi:=⟨11,WK,[.tmp 4],.d,⟨[],[]⟩,none⟩
theorem Us:Ex Tryz.prog FX NQ:=M_ Tryz.func82
def U_:Ag:=(sq [oC 4 0] [0,1] (.seq (sq [oM 7 1,oT 8 7,oJ 9 .eql 8 0] [0,1,9] (.cond (.t 9) (sq [oM 10 0,oG 11 Ch [(.t 10)],oJ 12 .add 11 1,oM 4 12] [4] .ret) .skip)) (.seq (sq [oM 13 1,oT 14 13,oJ 15 .eql 14 1] [0,1,15] (.cond (.t 15) (sq [oM 16 0,oM 17 1,gp 18 (.index 1 none false (.t 17) (ci 0)),gp 19 (.ext .wJ [(.t 16),(.t 18)]),oM 4 19] [4] .ret) .skip)) (sq [oC 5 0] [0,1,5] (.block 0 (.loop [1] [0,5] 0 (.block 1 (sq [oM 20 0,oM 21 1,oG 22 Ho [(.t 20),(.t 21)],oM 6 22] [0,1,5,6] (.seq (sq [oM 23 6,oJ 24 .eql 23 (-1)] [0,1,5,6,24] (.cond (.t 24) (sq [oM 25 5,oM 4 25] [4] .ret) .skip)) (sq [oM 26 5,oJ 27 .add 26 1,oM 5 27] [0,1,5,6] (.ops [oM 28 0,oM 29 6,oM 30 1,oT 31 30,oB 32 .add 29 31,gp 33 (.slice 0 (.t 28) (some (.t 32)) none),oM 0 33] none [0,1,5])))))))))))
def Mc:Fi:=⟨34,U_,[.tmp 4],(.seq .d (.seq .d (.seq .d (.seq .d (.loop [] [] [] .d))))),⟨[],[]⟩,none⟩
theorem Tk:Ex Tryz.prog E6 Mc:=M_ Tryz.func89
def Md:Ag:=(sq [oC 4 0] [0,1] (sq [oM 5 0,oM 6 1,oG 7 A8 [(.t 5),(.t 6)],oM 4 7] [4] .ret))
def Hj:Fi:=⟨8,Md,[.tmp 4],.d,⟨[],[]⟩,none⟩
theorem Lt:Ex Tryz.prog Cv Hj:=M_ Tryz.func90
def Gj:Ag:=(sq [oC 4 0] [0,1] (.seq (sq [oM 6 0,oT 7 6,oJ 8 .sub 7 1,oM 5 8] [0,1,5] (.block 0 (.loop [0,1] [5] 0 (.seq (sq [oM 9 5,oJ 10 .geq 9 0] [0,1,5,10] (.cond (.t 10) .skip (.exit 0))) (.seq (.block 1 (sq [oM 13 0,oM 14 5,gp 15 (.index 1 none false (.t 13) (.t 14)),oM 16 1,oB 17 .eql 15 16] [0,1,5,17] (.cond (.t 17) (sq [oM 18 5,oM 4 18] [4] .ret) .skip))) (.ops [oM 11 5,oJ 12 .sub 11 1,oM 5 12] none [0,1,5])))))) (sq [oC 4 (-1)] [4] .ret)))
def D1:Fi:=⟨19,Gj,[.tmp 4],(.seq .d (.seq (.seq .d (.loop [] [] [] .d)) .d)),⟨[],[]⟩,none⟩
theorem GV:Ex Tryz.prog A8 D1:=M_ Tryz.func116
def PN:Ag:=(sq [oV 4 (.c (.bool false))] [0,1,2] (.seq (.ops [oL 5 1,oM 6 0,oI 7 1 5 6,oL 8 7,oL 9 2,oB 10 .geq 8 9,oM 4 10] (some (0,0,[0,1,2,3,4,5,6])) [4]) .ret))
def Js:Fi:=⟨11,PN,[.tmp 4],.d,⟨[],[]⟩,none⟩
theorem OX:Ex Tryz.prog Dg Js:=M_ Tryz.func118
end Go.Proofs.YtlibocgedgdmlaaGreat
end
section
namespace Go.Fu
open Go.Vc
@[simp] theorem Wj {α β : Type} (p : α × β) : (p.1, p.2) = p := rfl
@[simp] theorem Gu {p : Prop} : (bo p = true) ↔ p := by simp [bo]
@[simp] theorem wC {p : Prop} : (bo p = false) ↔ ¬ p := by simp [bo]
@[simp] theorem lE {p : Prop} : (true = bo p) ↔ p := by rw [eq_comm]; simp
@[simp] theorem RE {p : Prop} : (false = bo p) ↔ ¬ p := by rw [eq_comm]; simp
theorem VZ {p q:Prop} (h:p↔q):bo p=bo q:=by rw [propext h]
@[simp] theorem ow {p q : Prop} : (bo p = bo q) ↔ (p ↔ q) := by
 rw [Bool.eq_iff_iff];simp
@[simp] theorem w8 {b : Bool} : bo (b = true) = b := by rw [Bool.eq_iff_iff]; simp
section
variable {α : Type} [Inhabited α] {l m : List α} {i j : Int} {n : Nat} {a : α}
theorem RM (h0:0<=i) (h1:i<l.length):gt l i=l[i.toNat]'(by omega):=by
 simp [gt,List.getD_eq_getElem?_getD,List.getElem?_eq_getElem (show i.toNat<l.length by omega)]
theorem L_ (h:n<l.length):gt l (n:Int)=l[n]:=by rw [RM (by omega) (by omega)];simp
theorem Ig (h0:0<=i) (h1:i<l.length):l[i.toNat]?=some (gt l i):=by
 rw [RM h0 h1,List.getElem?_eq_getElem]
theorem FE (h0:0<=i) (h1:i<l.length):gt (l++m) i=gt l i:=by
 simp [gt,List.getD_eq_getElem?_getD,List.getElem?_append_left (show i.toNat<l.length by omega)]
theorem EW (h:(l.length:Int)<=i):gt (l++m) i=gt m (i-l.length):=by
 simp only [gt,List.getD_eq_getElem?_getD,List.getElem?_append_right (show l.length<=i.toNat by omega)];congr 2;omega
theorem Kb:gt (l++[a]) (l.length:Int)=a:=by
 rw [EW (by omega)];simp [gt]
theorem kR {k:Nat} (h0:0<=i) (h1:i<k):gt (l.take k) i=gt l i:=by
 simp [gt,List.getD_eq_getElem?_getD,List.getElem?_take,show i.toNat<k by omega]
theorem kQ {k:Nat} (h0:0<=i):gt (l.drop k) i=gt l (i+k):=by
 simp only [gt,List.getD_eq_getElem?_getD,List.getElem?_drop];congr 2;omega
theorem RL:gt (a::l) 0=a:=rfl
theorem UA (h:0<i):gt (a::l) i=gt l (i-1):=by
 have:i.toNat=(i-1).toNat+1:=by omega
 simp only [gt,this,List.getD_cons_succ]
theorem G_ (h0:0<=i) (h1:i<l.length):l.take (i+1).toNat=l.take i.toNat++[gt l i]:=by
 rw [RM h0 h1,show (i+1).toNat=i.toNat+1 by omega,List.take_succ_eq_append_getElem]
theorem Hl (h0:0<=i) (h1:i<l.length):l.drop i.toNat=gt l i::l.drop (i+1).toNat:=by
 rw [RM h0 h1,show (i+1).toNat=i.toNat+1 by omega,List.drop_eq_getElem_cons]
theorem pO {l m:List α} (hl:l.length=m.length) (h: ∀i:Int,0<=i->i<l.length->gt l i=gt m i):l=m:=by
 refine List.ext_getElem hl fun k h1 h2=>?_;have:=h (k:Int) (by omega) (by omega);rwa [L_ h1,L_ h2] at this
theorem N5 (h0:0<=i) (h1:i<l.length):gt l i∈l:=by rw [RM h0 h1];exact List.getElem_mem _
theorem QM (h:a∈l): ∃i:Int,0<=i/\i<l.length/\gt l i=a:=by
 obtain ⟨n,hn,e⟩:=List.getElem_of_mem h;exact ⟨n,by omega,by omega,by rw [L_ hn,e]⟩
end
theorem Zj (b:UInt8):(b.toNat:Int)<256:=by have:=b.toNat_lt;omega
theorem jy (b:UInt8):0<=(b.toNat:Int):=by omega
end Go.Fu
end
section
namespace Go.Fu
open Go.Vc
noncomputable section
abbrev tI:Ty:= .int .i64
abbrev wx:Ty:= .st (.cons tI (.cons tI .nil))
abbrev wy:Ty:= .st (.cons tI (.cons tI (.cons tI .nil)))
abbrev Hk:Ty:= .st (.cons tI (.cons tI .nil))
abbrev XD:Ty:= .st (.cons tI (.cons tI (.cons .str .nil)))
abbrev X7 (a:Ty):Ky:= .cons a .nil
abbrev Mg (a b:Ty):Ky:= .cons a (.cons b .nil)
abbrev x6 (a b c:Ty):Ky:= .cons a (.cons b (.cons c .nil))
abbrev Bytes:=List UInt8
abbrev Hw (s:List UInt8):Prop:=s.length<=140737488351232
abbrev Gg {α:Type} (s:List α):Prop:=s.length<=140737488351232
theorem D5 {n:Int}:AQ n↔ -9223372036854775808<=n/\n<=9223372036854775807:=Iff.rfl
def qZ (h:Int×Int):Prop:=0<=h.1/\h.1<2147483647/\0<h.2/\h.2<2147483647
instance (h:Int×Int):Decidable (qZ h):=by unfold qZ;infer_instance
def Fj (h:Int×Int) (c:UInt8):Int×Int:=((h.1*257+c.toNat+1)%2147483647,h.2*257%2147483647)
def BJ (s:Bytes):Int×Int:=s.foldl Fj (0,1)
def Ek:Ct:=⟨X7 .str,[.val wx],fun s=>Hw s,fun s=>BJ s⟩
def Hc:Ct:=Ek
def uW (p:Int×Int×Int):Prop:=0<=p.1/\p.1<=1099511627776/\0<=p.2.1/\p.2.1<=1099511627776/\0<=p.2.2/\p.2.2<=1099511627776/\p.2.1+p.2.2<=p.1/\(0<p.2.1\/p.2.2=p.1)
instance (p:Int×Int×Int):Decidable (uW p):=by unfold uW;infer_instance
def BX (size:Int) (e:Int×Int×Bytes):Int:=
 if size<0\/600<size\/e.1<0\/size<e.1\/e.2.1<0\/size-e.1<e.2.1 then 2 else if 600<size-e.2.1+e.2.2.length then 1 else 0
abbrev E_ (e:Int×Int×Bytes):Prop:=AQ e.1/\AQ e.2.1/\Hw e.2.2
def C0:Ct:=⟨Mg tI XD,[.val tI],fun x=>AQ x.1/\E_ x.2,fun x=>BX x.1 x.2⟩
def EZ:Ct:=C0
def WT (e:Int×Int×Bytes) (at_:Int) (right:Bool):Int:=
 if at_<e.1 then at_
 else if (e.2.1=0/\e.1<at_)\/(0<e.2.1/\e.1+e.2.1<=at_) then at_+e.2.2.length-e.2.1
 else if right=true then e.1+e.2.2.length else e.1
def AR (size:Int):Int->List (Int×Int)->Prop
 | _,[]=>True
 | last,s::l=>last<s.1/\s.1<s.2/\s.2<=size/\AR size s.2 l
def kv (size:Int) (l:List (Int×Int)):Prop:=0<=size/\size<=600/\l.length<=40/\AR size (-1) l
def AS:Int->Bytes->List Int
 | _,[]=>[]
 | i,c::s=>if c=10 then (i+1)::AS (i+1) s else AS (i+1) s
def Ab (s:Bytes):List Int:=0::AS 0 s
def Gl:Ct:=⟨X7 .str,[.own tI],fun s=>s.length<=1000000,fun s=>Ab s⟩
def LB (l:List Bytes) (c:UInt8):List Bytes:=if c=10 then l++[[]] else l.dropLast++[l.getLastD []++[c]]
def AH (s:Bytes):List Bytes:=s.foldl LB [[]]
def GA:Ct:=⟨X7 .str,[.own .str],fun s=>s.length<=1000000,fun s=>AH s⟩
def Ff:Ct:=⟨Mg (.sl .str) (.sl .str),[.val .bool],fun x=>Gg x.1/\Gg x.2,fun x=>bo (x.1=x.2)⟩
def F8:Ct:=⟨Mg (.sl tI) (.sl tI),[.val .bool],fun x=>Gg x.1/\Gg x.2,fun x=>bo (x.1=x.2)⟩
end
end Go.Fu
end
section
namespace Go.Fu
open Go.Vc
theorem xS {a d:Int} (h1:0<=a) (h2:a<2147483647) (h3:0<=d) (h4:d<2147483647):0<=a*d/\a*d<=4611686009837453316:=by
 refine ⟨Int.mul_nonneg h1 h3,?_⟩;have:=Int.mul_le_mul (show a<=2147483646 by omega) (show d<=2147483646 by omega) h3 (by omega);omega
theorem OH (s:Bytes) (c:UInt8):BJ (s++[c])=Fj (BJ s) c:=by simp [BJ]
theorem eQ (h:Int×Int) (c:UInt8):0<=(Fj h c).1/\(Fj h c).1<2147483647/\0<=(Fj h c).2/\(Fj h c).2<2147483647:=by
 simp only [Fj];omega
theorem QU {α:Type} (s:List α):s=[]\/ ∃t c,s=t++[c]:=by
 rcases List.eq_nil_or_concat s with h | ⟨t,c,h⟩
 ·exact .inl h
 ·exact .inr ⟨t,c,by simpa using h⟩
theorem TD (s:Bytes):0<=(BJ s).1/\(BJ s).1<2147483647/\0<=(BJ s).2/\(BJ s).2<2147483647:=by
 rcases QU s with rfl | ⟨t,c,rfl⟩
 ·simp [BJ]
 ·rw [OH];exact eQ _ _
theorem MV {α:Type} {P:List α->Prop} (h0:P []) (h1: ∀s c,P s->P (s++[c])) (s:List α):P s:=by
 have: ∀n (s:List α),s.length=n->P s:=by
  intro n
  induction n with
  | zero=>intro s hs;rw [List.length_eq_zero_iff.1 hs];exact h0
  | succ n ih=>
   intro s hs;rcases QU s with rfl | ⟨t,c,rfl⟩
   ·simp at hs
   ·exact h1 _ _ (ih t (by simpa using hs))
 exact this _ s rfl
theorem nR (v w:Int): ∀s:Bytes,s≠[]->s.foldl Fj (v,w)=((v*(BJ s).2+(BJ s).1)%2147483647,(w*(BJ s).2)%2147483647):=by
 intro s
 induction s using MV with
 | h0=>intro h;exact absurd rfl h
 | h1 s c ih=>
  intro _;rw [List.foldl_append,OH];simp only [List.foldl_cons,List.foldl_nil];by_cases hs:s=[]
  ·subst hs;simp only [List.foldl_nil,Fj,BJ];refine Prod.ext ?_ ?_<;>simp only
   ·omega
   ·omega
  ·rw [ih hs];simp only [Fj];generalize (BJ s).2=S;generalize (BJ s).1=V;have e1:v*(S*257%2147483647)=257*(v*S)-2147483647*(v*(S*257/2147483647)):=by
    have:S*257%2147483647=S*257-2147483647*(S*257/2147483647):=by omega
    rw [this,Int.mul_sub];have a1:v*(S*257)=257*(v*S):=by rw [<-Int.mul_assoc,Int.mul_comm]
    have a2:v*(2147483647*(S*257/2147483647))=2147483647*(v*(S*257/2147483647)):=Int.mul_left_comm _ _ _;rw [a1,a2]
   have e2:w*(S*257%2147483647)=257*(w*S)-2147483647*(w*(S*257/2147483647)):=by
    have:S*257%2147483647=S*257-2147483647*(S*257/2147483647):=by omega
    rw [this,Int.mul_sub];have a1:w*(S*257)=257*(w*S):=by rw [<-Int.mul_assoc,Int.mul_comm]
    have a2:w*(2147483647*(S*257/2147483647))=2147483647*(w*(S*257/2147483647)):=Int.mul_left_comm _ _ _;rw [a1,a2]
   rw [e1,e2];generalize v*S=A;generalize v*(S*257/2147483647)=B;generalize w*S=C;generalize w*(S*257/2147483647)=D;refine Prod.ext ?_ ?_<;>simp only
   ·omega
   ·omega
theorem eP (c:UInt8) (s:Bytes):BJ (c::s)=((((c.toNat:Int)+1)*(BJ s).2+(BJ s).1)%2147483647,(BJ s).2*257%2147483647):=by
 by_cases hs:s=[]
 ·subst hs;simp only [BJ,List.foldl_cons,List.foldl_nil,Fj];refine Prod.ext (by simp only;omega) rfl
 ·have e:BJ (c::s)=s.foldl Fj ((c.toNat:Int)+1,257):=by
   simp only [BJ,List.foldl_cons,Fj];have:=Zj c;congr 1;refine Prod.ext ?_ ?_<;>simp only
   ·omega
   ·omega
  rw [e,nR _ _ s hs,Int.mul_comm 257]
def BR:Bytes->Bytes->List Bytes
 | cur,[]=>[cur]
 | cur,c::s=>if c=10 then cur::BR [] s else BR (cur++[c]) s
theorem Zm: ∀(s:Bytes) (pre:List Bytes) (cur:Bytes),s.foldl LB (pre++[cur])=pre++BR cur s
 | [],pre,cur=>by simp [BR]
 | c::s,pre,cur=>by
  simp only [List.foldl_cons,BR,LB];split
  ·rw [Zm s (pre++[cur]) []];simp
  ·have:(pre++[cur]).dropLast++[(pre++[cur]).getLastD []++[c]]=pre++[cur++[c]]:=by simp
   rw [this,Zm s pre (cur++[c])]
theorem Gw (s:Bytes):AH s=BR [] s:=by
 have:=Zm s [] [];simpa [AH] using this
def Ec:Int->List Bytes->List Int
 | _,[]=>[]
 | at_,s::r=>at_::Ec (at_+s.length+1) r
theorem bX: ∀(s:Bytes) (cur:Bytes) (at_:Int),Ec at_ (BR cur s)=at_::AS (at_+cur.length) s
 | [],cur,at_=>by simp [BR,Ec,AS]
 | c::s,cur,at_=>by
  simp only [BR,AS];split
  ·simp only [Ec];rw [bX s [] _];simp
  ·rw [bX s (cur++[c]) at_];simp [Int.add_assoc]
theorem k9 (s:Bytes):Ec 0 (AH s)=Ab s:=by
 rw [Gw,bX];simp [Ab]
theorem M6: ∀(s cur:Bytes),(BR cur s).length<=s.length+1/\ ∀l∈BR cur s,l.length<=cur.length+s.length
 | [],cur=>by simp [BR]
 | c::s,cur=>by
  simp only [BR];split
  ·have:=M6 s [];refine ⟨by simp;omega,fun l hl=>?_⟩;rcases List.mem_cons.1 hl with rfl | hl
   ·simp
   ·have:=this.2 l hl;simp at this |-;omega
  ·have:=M6 s (cur++[c]);refine ⟨by simp;omega,fun l hl=>?_⟩;have:=this.2 l hl;simp at this |-;omega
theorem DY (s:Bytes):(AH s).length<=s.length+1/\ ∀l∈AH s,l.length<=s.length:=by
 rw [Gw];have:=M6 s [];simpa using this
theorem sub_one {α:Type} [Inhabited α] {s:List α} {i:Int} (h0:0<=i) (h1:i<s.length):List.drop i.toNat (List.take (i+1).toNat s)=[gt s i]:=by
 rw [G_ h0 h1,List.drop_left'];simp;omega
theorem fJ {α:Type}: ∀(l:List α) (v:α),l≠[]->l.set (l.length-1) v=l.dropLast++[v]
 | [],_,h=>absurd rfl h
 | [a],v,_=>rfl
 | a::b::l,v,_=>by
  have:=fJ (b::l) v (by simp);simp only [List.length_cons,Nat.add_sub_cancel,List.dropLast_cons_cons,List.cons_append] at this |-;rw [List.set_cons_succ,<-this]
theorem sk {α:Type} [Inhabited α] {l:List α} {d:α} (h:l≠[]):gt l ((l.length:Int)-1)=l.getLastD d:=by
 rcases QU l with rfl | ⟨t,c,rfl⟩
 ·exact absurd rfl h
 ·rw [show (((t++[c]).length:Nat):Int)-1=t.length by simp,Kb];simp
theorem P6 {b:UInt8}:((b.toNat:Int)=10)↔b=10:=by
 constructor
 ·intro h;exact UInt8.toNat_inj.1 (show b.toNat=(10:UInt8).toNat by have:(10:UInt8).toNat=10:=rfl;omega)
 ·intro h;subst h;rfl
section
variable {k : Int -> Int} {a x b hi : Int}
end
end Go.Fu
end
section
namespace Go.Fu
open Go.Vc
noncomputable section
abbrev Bn:=Int×Int×Bytes
def AY (s:Bytes) (e:Bn):Bytes:=s.take e.1.toNat++e.2.2++s.drop (e.1+e.2.1).toNat
def CJ (s:Bytes) (e:Bn):Bn:=(e.1,(e.2.2.length:Int),(s.take (e.1+e.2.1).toNat).drop e.1.toNat)
def Bg (size:Int) (e:Bn):Prop:=BX size e=0
theorem Bs {size:Int} {e:Bn}:Bg size e↔0<=size/\size<=600/\0<=e.1/\e.1<=size/\0<=e.2.1/\e.2.1<=size-e.1/\size-e.2.1+e.2.2.length<=600:=by
 unfold Bg BX;constructor
 ·intro h;split at h
  ·omega
  ·split at h<;>omega
 ·intro h;rw [if_neg (by omega),if_neg (by omega)]
theorem Cf {s:Bytes} {e:Bn} (h:Bg s.length e):((AY s e).length:Int)=s.length-e.2.1+e.2.2.length:=by
 rw [Bs] at h;simp only [AY,List.length_append,List.length_take,List.length_drop];omega
def CR:Ct:=⟨Mg .str XD,[.val .str],fun x=>Bg x.1.length x.2,fun x=>AY x.1 x.2⟩
def E8:Ct:=CR
def DZ:Ct:=⟨Mg .str XD,[.val XD],fun x=>Bg x.1.length x.2,fun x=>CJ x.1 x.2⟩
def Aa (s:Bytes):List Bn->Bytes
 | []=>s
 | e::l=>Aa (AY s e) l
def DQ (size:Int):List Bn->Int
 | []=>0
 | e::l=>if BX size e≠0 then BX size e else DQ (size-e.2.1+e.2.2.length) l
def FI (l:List Int):Prop:=l≠[]/\gt l 0=0/\(∀i,0<i->i<(l.length:Int)->gt l (i-1)<gt l i)/\gt l ((l.length:Int)-1)<=600
def Ii:Ct:=⟨X7 (.sl tI),[.val .bool],fun l=>Gg l,fun l=>bo (FI l)⟩
def WH (l:List Int) (at_:Int):Int:=((l.takeWhile fun x=>decide (x<=at_)).length:Int)-1
def E7 (l:List Int) (at_:Int):Int×Int:=H6 (¬FI l) (0,4) (if at_<0 then (0,2) else (WH l at_,0))
def DX:Ct:=⟨Mg (.sl tI) tI,[.val tI,.val tI],fun x=>Gg x.1,fun x=>E7 x.1 x.2⟩
end
end Go.Fu
end
section
namespace Go.Fu
open Go.Vc
noncomputable section
def N6 (c:UInt8):Bool:=(97<=c.toNat && c.toNat<=122) || (65<=c.toNat && c.toNat<=90) || (48<=c.toNat && c.toNat<=57)
def CC (s:Bytes) (i:Nat):Nat:=((s.drop i).takeWhile N6).length
def opens (s:Bytes) (i:Nat):Prop:=i=0\/N6 (gt s ((i:Int)-1))=false
def Gr (s:Bytes) (i:Nat):Bytes:=open Classical in if opens s i/\CC s i<=12 then (s.drop i).take (CC s i) else []
def Nf (s:Bytes) (i:Nat):Option (Bytes×Nat):=if Gr s i=[] then none else some (Gr s i,i)
def B6 (s:Bytes) (k:Nat):List (Bytes×Nat):=(List.range' k (s.length-k)).filterMap (Nf s)
def isWord (w:Bytes):Prop:=w≠[]/\w.length<=12/\ ∀c∈w,N6 c=true
def Gq (T:List (Bytes×List Int)) (w:Bytes):List Int:=
 match T with
 | []=>[]
 | (u,a)::T=>if u=w then a else Gq T w
def FD (s w:Bytes):List Int:=((B6 s 0).filter fun e=>e.1=w).map fun e=>(e.2:Int)
def CP (s w:Bytes):List Int×Int:=open Classical in if ¬isWord w then ([],4) else if 600<s.length then ([],1) else (FD s w,0)
def HZ (c:Int):Prop:=(97<=c/\c<=122)\/(65<=c/\c<=90)\/(48<=c/\c<=57)
def Bi:Ct:=⟨X7 (.int .u8),[.val .bool],fun _=>True,fun c=>bo (HZ c)⟩
def He:Ct:=Bi
def ED:Ct:=⟨X7 .str,[.val .bool],fun w=>Hw w,fun w=>bo (isWord w)⟩
abbrev bg (s:Bytes) (i:Int):Prop:=Hw s/\0<=i/\i<=s.length
def J_ (s:Bytes) (i:Int):Bytes:=Gr s i.toNat
def Hf:Ct:=⟨Mg .str tI,[.val .str],fun x=>bg x.1 x.2,fun x=>J_ x.1 x.2⟩
def YB:Ct:=⟨Mg .str .str,[.own tI,.val tI],fun x=>Hw x.1/\Hw x.2,fun x=>CP x.1 x.2⟩
def Eb:Ct:=YB
end
theorem MK (c:UInt8):N6 c=true↔HZ (c.toNat:Int):=by
 unfold N6 HZ;simp only [Bool.or_eq_true,Bool.and_eq_true,decide_eq_true_eq];omega
theorem Wc (c:UInt8):N6 c=false↔ ¬HZ (c.toNat:Int):=by rw [<-MK];simp
theorem Ir (s:Bytes) (i:Nat):CC s i<=s.length-i:=by
 unfold CC;have:=(List.takeWhile_prefix (l:=s.drop i) N6).length_le;rwa [List.length_drop] at this
theorem SD {α:Type} (p:α->Bool): ∀(l:List α) (j:Nat) (x:α),j<(l.takeWhile p).length->l[j]?=some x->p x=true
 | [],_,_,h,_=>by simp at h
 | a::l,j,x,h,hx=>by
  rw [List.takeWhile_cons] at h;split at h
  ·rename_i ha;cases j with
   | zero=>simp at hx;subst hx;exact ha
   | succ j=>exact SD p l j x (by simpa using h) (by simpa using hx)
  ·simp at h
theorem Py {α:Type} (p:α->Bool): ∀(l:List α) (x:α),l[(l.takeWhile p).length]?=some x->p x=false
 | [],_,h=>by simp at h
 | a::l,x,h=>by
  rw [List.takeWhile_cons] at h;split at h
  ·simp only [List.length_cons,List.getElem?_cons_succ] at h;exact Py p l x h
  ·rename_i ha;simp at h;subst h;simpa using ha
theorem QT {s:Bytes} {i j:Nat} (h:j<CC s i):N6 (gt s ((i+j:Nat):Int))=true:=by
 have hl:=Ir s i;have hg:=Ig (l:=s) (i:=((i+j:Nat):Int)) (by omega) (by omega);rw [Int.toNat_natCast] at hg;exact SD N6 (s.drop i) j _ h (by rw [List.getElem?_drop];exact hg)
theorem Rx {s:Bytes} {i:Nat} (h:i+CC s i<s.length):N6 (gt s ((i+CC s i:Nat):Int))=false:=by
 have hg:=Ig (l:=s) (i:=((i+CC s i:Nat):Int)) (by omega) (by omega);rw [Int.toNat_natCast] at hg;exact Py N6 (s.drop i) _ (by rw [List.getElem?_drop];exact hg)
theorem run_eq {s:Bytes} {i L:Nat} (h1:i+L<=s.length) (h2: ∀j,j<L->N6 (gt s ((i+j:Nat):Int))=true) (h3:i+L=s.length\/N6 (gt s ((i+L:Nat):Int))=false):CC s i=L:=by
 have hl:=Ir s i;rcases Nat.lt_trichotomy (CC s i) L with c | c | c
 ·have:=Rx (s:=s) (i:=i) (by omega);rw [h2 _ c] at this;cases this
 ·exact c
 ·have:=QT c;rcases h3 with h3 | h3
  ·omega
  ·rw [h3] at this;cases this
theorem Uf {s:Bytes} {i:Nat} (h: ¬opens s i):Gr s i=[]:=by unfold Gr;rw [if_neg (fun q=>h q.1)]
theorem Oj {s:Bytes} {i:Nat} (h:opens s i):Gr s i=if CC s i<=12 then (s.drop i).take (CC s i) else []:=by
 unfold Gr;by_cases c:CC s i<=12
 ·rw [if_pos ⟨h,c⟩,if_pos c]
 ·rw [if_neg (fun q=>c q.2),if_neg c]
theorem KN {s:Bytes} {i:Nat} (h: ¬opens s i):Nf s i=none:=by
 unfold Nf;rw [if_pos (Uf h)]
theorem KM {s:Bytes} {i:Nat} (h:opens s i):Nf s i=if 0<CC s i/\CC s i<=12 then some ((s.drop i).take (CC s i),i) else none:=by
 have hl:=Ir s i;unfold Nf;rw [Oj h];by_cases c:CC s i<=12
 ·rw [if_pos c];by_cases z:0<CC s i
  ·rw [if_pos (⟨z,c⟩:0<CC s i/\CC s i<=12),if_neg];intro e;have:=congrArg List.length e;rw [List.length_take,List.length_drop] at this;simp at this;omega
  ·rw [if_neg (fun q:0<CC s i/\CC s i<=12=>z q.1),if_pos];have:CC s i=0:=by omega
   rw [this];rfl
 ·rw [if_neg c,if_neg (fun q:0<CC s i/\CC s i<=12=>c q.2),if_pos rfl]
theorem Se {s:Bytes} {k:Nat} (h:s.length<=k):B6 s k=[]:=by
 unfold B6;rw [show s.length-k=0 by omega];rfl
theorem Yd {s:Bytes} {k:Nat} (h:k<s.length):B6 s k=(Nf s k).toList++B6 s (k+1):=by
 unfold B6;rw [show s.length-k=(s.length-(k+1))+1 by omega,List.range'_succ,List.filterMap_cons];cases Nf s k<;>rfl
theorem QF {s:Bytes} {k:Nat}: ∀(n:Nat),k+n<=s.length->(∀j,k<=j->j<k+n->Nf s j=none)->B6 s k=B6 s (k+n)
 | 0,_,_=>rfl
 | n+1,h,g=>by
  rw [QF n (by omega) (fun j h1 h2=>g j h1 (by omega)),Yd (by omega),g (k+n) (by omega) (by omega)];rfl
theorem iR {s:Bytes} {k:Nat} (h:k<s.length) (ho:opens s k):B6 s k=(if 0<CC s k/\CC s k<=12 then [((s.drop k).take (CC s k),k)] else [])++B6 s (k+CC s k+1):=by
 have hl:=Ir s k;have hs: ∀j,k+1<=j->j<k+1+CC s k->Nf s j=none:=fun j h1 h2=>KN fun q=>by
  rcases q with q | q
  ·omega
  ·have:=QT (s:=s) (i:=k) (j:=j-1-k) (by omega);rw [show ((k+(j-1-k):Nat):Int)=(j:Int)-1 by omega,q] at this;cases this
 rw [Yd h,KM ho];have e:B6 s (k+1)=B6 s (k+CC s k+1):=by
  rcases Nat.lt_or_ge (k+CC s k) s.length with c | c
  ·rw [QF (CC s k) (by omega) hs];congr 1;omega
  ·have:k+CC s k=s.length:=by omega
   rw [Se (k:=k+CC s k+1) (by omega)];rw [QF (s.length-(k+1)) (by omega) (fun j h1 h2=>hs j h1 (by omega)),Se (by omega)]
 rw [e];split<;>rfl
theorem jH {s:Bytes} {k:Nat} (h:k+CC s k<s.length):opens s (k+CC s k+1):= .inr (by
 have:=Rx h;rw [show ((k+CC s k+1:Nat):Int)-1=((k+CC s k:Nat):Int) by omega];exact this)
theorem V1 {s:Bytes} {k:Nat} {e:Bytes×Nat} (h:e∈B6 s k):e.2<s.length/\e.1.length<=12/\e.1=Gr s e.2/\e.1≠[]:=by
 unfold B6 at h;obtain ⟨i,hi,he⟩:=List.mem_filterMap.1 h;rw [List.mem_range'_1] at hi;unfold Nf at he;split at he
 ·cases he
 ·rename_i hw;cases he;refine ⟨by show i<_;omega,?_,rfl,hw⟩;show (Gr s i).length<=12;unfold Gr;split
  ·rename_i q;rw [List.length_take];omega
  ·simp
theorem YY (s w:Bytes):(FD s w).length<=s.length:=by
 unfold FD;rw [List.length_map];refine Nat.le_trans (List.length_filter_le _ _) ?_;unfold B6;refine Nat.le_trans (List.length_filterMap_le _ _) ?_;simp
theorem iM {s w:Bytes} (hw:w≠[]):FD s w=((List.range s.length).filter fun i:Nat=>Gr s i=w).map fun i:Nat=>(i:Int):=by
 unfold FD B6;rw [Nat.sub_zero,List.range_eq_range'];generalize List.range' 0 s.length=L
 induction L with
 | nil=>rfl
 | cons i L ih=>
  rw [List.filterMap_cons];unfold Nf;by_cases c:Gr s i=[]
  ·rw [if_pos c,List.filter_cons,if_neg (by rw [c];simpa using hw.symm)];exact ih
  ·rw [if_neg c];simp only [List.filter_cons];by_cases g:Gr s i=w
   ·rw [if_pos (by simpa using g),if_pos (by simpa using g),List.map_cons,List.map_cons];exact congrArg _ ih
   ·rw [if_neg (by simpa using g),if_neg (by simpa using g)];exact ih
theorem mU (w:Bytes):isWord w↔w≠[]/\J_ w 0=w:=by
 have hl:=Ir w 0;have e:J_ w 0=if CC w 0<=12 then w.take (CC w 0) else []:=Oj (.inl rfl)
 rw [e];constructor
 ·rintro ⟨h1,h2,h3⟩;have hr:CC w 0=w.length:=run_eq (by omega) (fun j hj=>h3 _ (N5 (by omega) (by omega))) (.inl (by omega));refine ⟨h1,?_⟩;rw [hr,if_pos h2,List.take_length]
 ·rintro ⟨h1,h2⟩;split at h2
  ·rename_i c;have hr:CC w 0=w.length:=by
    have:=congrArg List.length h2;rw [List.length_take] at this;omega
   refine ⟨h1,by omega,fun c hc=>?_⟩;obtain ⟨i,i0,i1,rfl⟩:=QM hc;have:=QT (s:=w) (i:=0) (j:=i.toNat) (by omega);rwa [show ((0+i.toNat:Nat):Int)=i by omega] at this
  ·exact absurd h2.symm h1
end Go.Fu
end
section
namespace Go.Fu
open Go.Vc
abbrev Nk:=List (Bytes×List Int)
noncomputable section
end
theorem lB {T:Nk} (h:(T.map (·.1)).Nodup) {x:Bytes×List Int} (hx:x∈T):Gq T x.1=x.2:=by
 induction T with
 | nil=>cases hx
 | cons y T ih=>
  obtain ⟨u,a⟩:=y;simp only [List.map_cons,List.nodup_cons] at h;simp only [Gq];rcases List.mem_cons.1 hx with rfl | hx
  ·rw [if_pos rfl]
  ·rw [if_neg (fun e:u=x.1=>h.1 (by rw [e];exact List.mem_map_of_mem (f:=(·.1)) hx))];exact ih h.2 hx
end Go.Fu
end
section
namespace Go.Fu
open Go.Vc
noncomputable section
def Mr (s:Bytes):Nat->Nat
 | 0=>0
 | n+1=>if N6 (gt s (n:Int))=true then Mr s n else n+1
def Le (s:Bytes) (n:Nat):Nat:=n+CC s n
abbrev ot (s:Bytes) (lo hi:Int):Prop:=Hw s/\0<=lo/\lo<=hi/\hi<=s.length
def Zf (s:Bytes) (lo hi:Int):Int×Int:=((Mr s lo.toNat:Int),(Le s hi.toNat:Int))
def CV:Ct:=⟨x6 .str tI tI,[.val tI,.val tI],fun x=>ot x.1 x.2.1 x.2.2,fun x=>Zf x.1 x.2.1 x.2.2⟩
end
theorem Ze (s:Bytes): ∀n,Mr s n<=n
 | 0=>Nat.le_refl _
 | n+1=>by
  have:=Ze s n;unfold Mr;split<;>omega
theorem cA (s:Bytes): ∀n,Mr s n=0\/N6 (gt s ((Mr s n:Nat)-1:Int))=false
 | 0=>.inl rfl
 | n+1=>by
  unfold Mr;split
  ·exact cA s n
  ·rename_i h;refine .inr ?_;rw [show (((n+1:Nat):Int)-1)=(n:Int) by omega];simpa using h
theorem Zd {s:Bytes} {n:Nat} (h:n<=s.length):n<=Le s n/\Le s n<=s.length:=by
 have:=Ir s n;unfold Le;omega
theorem b_ {s:Bytes} {n:Nat} (h:n<=s.length):Le s n=s.length\/N6 (gt s (Le s n:Int))=false:=by
 have:=Ir s n;unfold Le;by_cases c:n+CC s n=s.length
 ·exact .inl c
 ·exact .inr (Rx (by omega))
def It (d:Nat) (L:List (Bytes×Nat)):List (Bytes×Nat):=L.map fun e=>(e.1,d+e.2)
def apart (X Y:Bytes):Prop:=X=[]\/N6 (gt X ((X.length:Int)-1))=false\/Y=[]\/N6 (gt Y 0)=false
theorem ng {X Y:Bytes} (h:apart X Y) {i:Nat} (hi:i<X.length):CC (X++Y) i=CC X i:=by
 have hl:=Ir X i;have g: ∀j,i+j<X.length->gt (X++Y) ((i+j:Nat):Int)=gt X ((i+j:Nat):Int):=fun j hj=>FE (by omega) (by omega);refine run_eq (by rw [List.length_append];omega) (fun j hj=>by rw [g j (by omega)];exact QT hj) ?_;by_cases c:i+CC X i<X.length
 ·exact .inr (by rw [g _ c];exact Rx c)
 ·have e:i+CC X i=X.length:=by omega
  rw [e];rcases h with h | h | h | h
  ·subst h;simp at hi
  ·have:=QT (s:=X) (i:=i) (j:=X.length-1-i) (by omega);rw [show ((i+(X.length-1-i):Nat):Int)=(X.length:Int)-1 by omega,h] at this;cases this
  ·subst h;exact .inl (by simp)
  ·refine .inr ?_;rw [EW (by omega),show ((X.length:Nat):Int)-(X.length:Int)=0 by omega];exact h
theorem nh (X Y:Bytes) {k:Nat} (hk:k<=Y.length):CC (X++Y) (X.length+k)=CC Y k:=by
 unfold CC;rw [List.drop_append];have e:X.drop (X.length+k)=[]:=List.drop_of_length_le (by omega);rw [e,List.nil_append,show X.length+k-X.length=k by omega]
theorem l0 {X Y:Bytes} (h:apart X Y) {i:Nat} (hi:i<X.length):Nf (X++Y) i=Nf X i:=by
 have hr:=ng h hi;have hl:=Ir X i;have ho:opens (X++Y) i↔opens X i:=by
  unfold opens;by_cases c:i=0
  ·simp [c]
  ·rw [FE (by omega) (by omega)]
 by_cases o:opens X i
 ·rw [KM (ho.2 o),KM o,hr];congr 2;rw [List.drop_append_of_le_length (by omega),List.take_append_of_le_length (by rw [List.length_drop];omega)]
 ·rw [KN (fun q=>o (ho.1 q)),KN o]
theorem l_ {X Y:Bytes} (h:apart X Y) {k:Nat} (hk:k<Y.length):Nf (X++Y) (X.length+k)=(Nf Y k).map fun e=>(e.1,X.length+e.2):=by
 have hr:=nh X Y (k:=k) (by omega);have hd:(X++Y).drop (X.length+k)=Y.drop k:=by
  rw [List.drop_append];have e:X.drop (X.length+k)=[]:=List.drop_of_length_le (by omega);rw [e,List.nil_append,show X.length+k-X.length=k by omega]
 have O5:opens (X++Y) (X.length+k)->opens Y k->Nf (X++Y) (X.length+k)=(Nf Y k).map fun e=>(e.1,X.length+e.2):=fun o1 o2=>by
  rw [KM o1,KM o2,hr,hd];split<;>rfl
 by_cases c:k=0
 ·subst c;by_cases o1:opens (X++Y) (X.length+0)
  ·exact O5 o1 (.inl rfl)
  ·have hp: ¬0<CC Y 0:=fun q=>by
    have h0:=QT (s:=Y) (i:=0) (j:=0) q;rcases h with h | h | h | h
    ·subst h;exact o1 (.inl rfl)
    ·refine o1 (.inr ?_);by_cases z:X.length=0
     ·exact absurd (.inl (by rw [z])) o1
     ·rw [FE (by omega) (by omega),Nat.add_zero];exact h
    ·subst h;simp at hk
    ·rw [show ((0+0:Nat):Int)=0 by omega,h] at h0;cases h0
   rw [KN o1,KM (.inl rfl),if_neg (fun q=>hp q.1)];rfl
 ·have ho:opens (X++Y) (X.length+k)↔opens Y k:=by
   unfold opens;rw [EW (by omega),show ((X.length+k:Nat):Int)-1-(X.length:Int)=(k:Int)-1 by omega];constructor
   ·rintro (q | q)
    ·omega
    ·exact .inr q
   ·rintro (q | q)
    ·omega
    ·exact .inr q
  by_cases o:opens Y k
  ·exact O5 (ho.2 o) o
  ·rw [KN (fun q=>o (ho.1 q)),KN o];rfl
theorem Ic {α β:Type} {f g:α->Option β}: ∀ {l:List α},(∀x∈l,f x=g x)->l.filterMap f=l.filterMap g
 | [],_=>rfl
 | a::l,h=>by
  rw [List.filterMap_cons,List.filterMap_cons,h a (List.mem_cons_self ..),Ic fun x hx=>h x (List.mem_cons_of_mem _ hx)]
theorem Sd {X Y:Bytes} (h:apart X Y):B6 (X++Y) 0=B6 X 0++It X.length (B6 Y 0):=by
 unfold B6 It;rw [Nat.sub_zero,Nat.sub_zero,Nat.sub_zero,List.length_append,List.range'_append_1.symm,List.filterMap_append];congr 1
 ·refine Ic fun i hi=>?_;have:=List.mem_range'_1.1 hi;exact l0 h (by omega)
 ·rw [List.map_filterMap,Nat.zero_add];have e:List.range' X.length Y.length=(List.range' 0 Y.length).map (X.length+ ·):=by
   rw [List.map_add_range'];rfl
  rw [e,List.filterMap_map];refine Ic fun k hk=>?_;have:=List.mem_range'_1.1 hk;exact l_ h (by omega)
noncomputable section
def ub (l:List Int):List Int:=l.mergeSort fun x y=>decide (x<=y)
end
theorem fO (l:List Int):(ub l).Perm l:=List.mergeSort_perm _ _
theorem vY {l m:List Int} (hp:l.Perm m) (hs:m.Pairwise fun a b=>a<b):ub l=m:=by
 have h1:(ub l).Pairwise fun a b=>decide (a<=b)=true:=List.pairwise_mergeSort (fun a b c h1 h2=>by
  simp only [decide_eq_true_eq] at*;omega) (fun a b=>by simp only [Bool.or_eq_true,decide_eq_true_eq];omega) l
 refine List.Perm.eq_of_pairwise (le:=fun a b:Int=>a<=b) ?_ (h1.imp fun {a b} q=>by simpa using q) (hs.imp fun {a b} q=>by omega) ((fO l).trans hp);intro a b _ _ h3 h4;omega
theorem YX (s w:Bytes):(FD s w).Pairwise fun a b=>a<b:=by
 have h1:(B6 s 0).Pairwise fun a b=>a.2<b.2:=by
  unfold B6;refine List.pairwise_filterMap.2 ?_;refine (List.pairwise_lt_range' (s:=0) (n:=s.length-0) (step:=1)).imp fun {a b} q x hx y hy=>?_;unfold Nf at hx hy;split at hx<;>cases hx;split at hy<;>cases hy;exact q
 unfold FD;refine List.pairwise_map.2 ((h1.filter _).imp fun {a b} q=>by omega)
noncomputable section
end
theorem Pg {α:Type} {f:α->Option α}: ∀ {l:List α},(∀x∈l,f x=some x)->l.filterMap f=l
 | [],_=>rfl
 | a::l,h=>by
  rw [List.filterMap_cons,h a (List.mem_cons_self ..)];simp only;rw [Pg fun x hx=>h x (List.mem_cons_of_mem _ hx)]
theorem RH {α β:Type} {f:α->Option β}: ∀ {l:List α},(∀x∈l,f x=none)->l.filterMap f=[]
 | [],_=>rfl
 | a::l,h=>by
  rw [List.filterMap_cons,h a (List.mem_cons_self ..)];exact RH fun x hx=>h x (List.mem_cons_of_mem _ hx)
theorem dD {A m C:Bytes} (h1:apart A (m++C)) (h2:apart m C):B6 (A++(m++C)) 0=B6 A 0++(It A.length (B6 m 0)++It (A.length+m.length) (B6 C 0)):=by
 rw [Sd h1,Sd h2];congr 1;unfold It;rw [List.map_append,List.map_map];congr 1;exact List.map_congr_left fun e _=>by simp only [Function.comp,Nat.add_assoc]
theorem J0 (s:Bytes) (lo hi:Nat) (h:lo<=hi):s=s.take lo++((s.take hi).drop lo++s.drop hi):=by
 have e:s.take lo++(s.take hi).drop lo=s.take hi:=by
  have:s.take lo=(s.take hi).take lo:=by rw [List.take_take,Nat.min_eq_left h]
  rw [this,List.take_append_drop]
 rw [<-List.append_assoc,e,List.take_append_drop]
end Go.Fu
end
section
namespace Go.Fu
open Go.Vc
theorem Lh (e:Bn): ∀(l:List Bn) (s:Bytes),Aa s (l++[e])=AY (Aa s l) e
 | [],s=>rfl
 | x::l,s=>by simp only [List.cons_append,Aa];exact Lh e l _
end Go.Fu
end
section
namespace Go.Fu
open Go.Vc
noncomputable section
end
end Go.Fu
end
section
namespace Go.Fu
open Go.Vc
noncomputable section
abbrev pQ {α:Type} (l:List α):Prop:=l.length<=1000000
end
end Go.Fu
end
