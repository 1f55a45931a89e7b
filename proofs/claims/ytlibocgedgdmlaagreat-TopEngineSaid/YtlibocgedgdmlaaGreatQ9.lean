/- Part of the proof of topEngine_holds: the whole is true of every input. Conditions: none. -/
import Derived.Test.YtlibocgedgdmlaaGreatQ8
import Derived.Test.YtlibocgedgdmlaaGreatProg
set_option linter.all false
section
namespace Go.Vc
theorem JT {p q:Prop} (h:p) (e:p=q):q:=e▸h
def XQ (ts:KJ):Ct:=⟨ts,[.val .bool],ZK ts,fun _=>true⟩
theorem rT {P:Program} {f:FuncId} {ts:KJ} (h:BS P f (XQ ts)) (x:Ts ts) (hx:ZK ts x):Cy P f=true/\AU P f (Ff ts x) [] (fun r _=>r= .bool true):=
 ⟨h.1,⟨fun E fz w vals st hrel=>((h.2 x hx).out E fz w vals st hrel).mono fun e w' ⟨r,S',v,E',fz',h1,h2,h3,h4,h5⟩=>by
  obtain ⟨ys,h6,rfl⟩:=h5;simp only [XQ,HV] at h6;obtain ⟨ys',rfl,rfl,h7⟩:=h6;exact ⟨_,S',v,E',fz',h1,h2,h3,h4,rfl⟩⟩⟩
def wB (P:Program) (f:Nat) (s:Sp):Prop:= ∀ {xs:List TV} {G:List RF} {TS:List B4} {ps:List Prop} {y:TV} {G':List RF} {TS':List B4},s.ev xs G TS=some (ps,y,G',TS')->FW ps->
 ∀ {H:HF} {S:AB} {AG:List Frame} {ys:List AA},DO H TS S->Dr H G AG->AJ H xs ys->AU P f ys S fun r S'=> ∃H',DO H' TS' S'/\Dr H' G' AG/\AE H' y r
structure FC (P:Program) (f:Nat) (fi:Fi):Prop where
 I_:fi.sp=none->Cy P f=true
 out: ∀ {args:List AA} {S:AB} {R:AA->AB->Prop},fi.sp=none->jg P fi.code fi.res args S R->args.length<=fi.n->AU P f args S R
 sum: ∀s,fi.sp=some s->wB P f s
def tT (P:Program):List (Nat×Fi)->Prop
 | []=>True
 | (f,fi)::L=>FC P f fi/\tT P L
theorem tT.look {P:Program}: ∀ {L:List (Nat×Fi)} {f:Nat} {fi:Fi},tT P L->BE L f=some fi->FC P f fi
 | [],_,_,_,h=>by simp [BE] at h
 | (g,c)::L,f,ct,hc,h=>by
  simp only [BE] at h;split at h
  ·rename_i hb;cases h;rw [<-beq_eq hb];exact hc.1
  ·exact tT.look hc.2 h
theorem iC {H:HF}: ∀ {xs:List TV} {ys:List AA} (i:Nat),AJ H xs ys->CS H (eG i xs) (TY i ys)/\YD (eG i xs)
 | [],ys,i,h=>⟨fun s gs P x hx=>by simp [eG,BE] at hx,fun s gs P x hx=>by simp [eG,BE] at hx⟩
 | x::xs,ys,i,h=>by
  simp only [AJ] at h;obtain ⟨y,zs,rfl,h1,h2⟩:=h;obtain ⟨g1,g2⟩:=iC (i+1) h2;refine ⟨fun s gs P z hz=>?_,fun s gs P z hz=>?_⟩<;>simp only [eG,BE] at hz
  ·simp only [TY];split at hz
   ·rename_i hb;cases hz;rw [<-beq_eq hb];exact Hr (by rw [Gj,if_pos rfl];exact h1)
   ·rename_i hb;have hne:i≠s:=fun e=>by subst e;simp at hb
    obtain ⟨rfl,rfl⟩:=g2 _ _ _ _ hz;exact Hr (by rw [Gj,if_neg hne];exact (g1 _ _ _ _ hz).on A9)
  ·split at hz
   ·cases hz;exact ⟨rfl,rfl⟩
   ·exact g2 _ _ _ _ hz
theorem R8 {H:HF} {TS:List B4} {S:AB} {F:RF} {A:Frame} (st:DO H TS S) (hF:CS H F A): ∀ {rs:List Kk} {xs:List TV} {K:List AA->Prop},c_ F TS rs=some xs->(∀ys,AJ H xs ys->K ys)->I5 A S K rs
 | [],xs,K,h,hk=>by simp only [c_,Option.some.injEq] at h;subst h;exact hk _ (by simp [AJ])
 | .tmp t::rs,xs,K,h,hk=>by
  simp only [c_] at h;split at h<;>cases h;rename_i zs hz;simp only [I5,Bc];exact R8 st hF hz fun ys hs=>hk _ (by simp only [AJ];exact ⟨_,_,rfl,Rw hF t,hs⟩)
 | .cell t n ag::rs,xs,K,h,hk=>by
  simp only [c_] at h;split at h
  ·rename_i l off hl;split at h
   ·rename_i k cs ho;split at h
    ·rename_i us hu;split at h<;>cases h;rename_i y zs hm hz;simp only [I5,Bc];have hs:=Rw hF t;rw [hl] at hs;have he:Rf TS n ag (.ptr l off)=some ([],y):=by simp [Rf,ho,S_,hu,hm]
     exact NY st he hs fun z hz'=>R8 st hF hz fun ys hs=>hk _ (by simp only [AJ];exact ⟨_,_,rfl,hz',hs⟩)
    ·cases h
   ·cases h
  ·cases h
theorem pV {ys:List AA} {K:AA->Prop}:R9 ys K↔K (Lg ys):=by
 match ys with
 | []=>exact Iff.rfl
 | [x]=>exact Iff.rfl
 | x::y::ys=>exact Iff.rfl
section
variable {P : Program} {Γ : List (Nat × Ct)} {call : Nat -> List TV -> List RF -> List B4 -> (TV -> List RF -> List B4 -> Prop) -> Prop}
theorem TM (hΓ:Cons P Γ) (hC:YB P call) {hi:Hi} {c:Ak} {an:An} {res:List Kk} {xs:List TV} {G:List RF} {TS:List B4} {K:List TV->List RF->List B4->Prop} {H:HF} {S:AB} {AG:List Frame} {ys:List AA} {R:AA->AB->Prop}
  (h:po Γ call hi c an res xs G TS K) (st:DO H TS S) (hG:Dr H G AG) (hs:AJ H xs ys) (hR: ∀zs us S' H' G' TS',K zs G' TS'->DO H' TS' S'->Dr H' G' AG->AJ H' zs us->R (Lg us) S'):jg P c res ys S R:=by
 unfold jg;have fin: ∀ {A':Frame} {S':AB} {H':HF} {F':RF} {G':List RF} {TS':List B4},DO H' TS' S'->CS H' F' A'->Dr H' G' AG->(match c_ F' TS' res with | some xs=>K xs G' TS' | none=>False)->I5 A' S' (fun xs=>R9 xs fun r=>R r S') res:=fun q1 q2 q3 q4=>by
  split at q4
  ·rename_i zs hz;exact R8 q1 q2 hz fun us hu=>pV.2 (hR _ _ _ _ _ _ q4 q1 q3 hu)
  ·exact q4.elim
 refine mH hΓ hC hi c an st (iC 0 hs).1 hG h fun e A' S' H' F' G' TS' q1 q2 q3 q4=>?_;cases e with
 | normal=>exact fin q1 q2 q3 q4
 | exit id=>exact q4.elim
 | ret=>exact fin q1 q2 q3 q4
theorem aF (hΓ:Cons P Γ) {L:List (Nat×Fi)} (hL:tT P L): ∀n,YB P (iG Γ L n)
 | 0=>⟨fun h=>h.elim⟩
 | n+1=>by
  have ih:=aF hΓ hL n;refine ⟨fun {f xs G TS K} h {H S AG ys} st hG hs=>?_⟩;simp only [iG] at h
  ·split at h
   ·rename_i fi hf;split at h
    ·rename_i s hs';split at h
     ·rename_i ps y G' TS' he;obtain ⟨h1,h2⟩:=EC.1 h;exact C6 ((hL.look hf).sum s hs' he h1 st hG hs) fun r S' ⟨H',q1,q2,q3⟩=>⟨H',G',TS',y,h2,q1,q2,q3⟩
     ·exact h.elim
    rename_i hsn;split at h
    ·rename_i hb;have ok:=hL.look hf;refine ok.out hsn (TM hΓ ih (R:=fun r S'=> ∃H' G' TS' x,K x G' TS'/\DO H' TS' S'/\Dr H' G' AG/\AE H' x r) h st hG hs fun zs us S' H' G' TS' q1 q2 q3 q4=>⟨H',G',TS',ZR zs,q1,q2,q3,ZS q4⟩) ?_;rw [hs.length];exact Nat.le_of_ble_eq_true hb
    ·exact h.elim
   ·exact h.elim
theorem nJ {H:HF} {t:Ty} {x:TV} {a:T t} {y:AA} (h:PV [] t x=some a) (hs:AE H x y):PM y (DL t a):=by
 intro E fz w v hr;cases t with
 | sl e=>
  simp only [PV] at h;unfold UR at h;split at h
  ·split at h<;>cases h;rename_i hh _;subst hh;simp only [AE] at hs;subst hs;exact hr
  ·cases h;simp only [AE] at hs;subst hs;simp only [Rel,DL] at hr |-;exact .inl ⟨rfl,none,0,hr⟩
  ·simp [Bq] at h
  ·simp [Bq] at h
  ·cases h
 | int k=>
  simp only [PV,aQ] at h;split at h
  ·rename_i k' n hi;split at h<;>cases h;rename_i hk;have hk:=G_ hk;subst hk;rw [Eb hi hs] at hr;exact hr
  ·cases h
 | str=>
  simp only [PV] at h;unfold aR at h;split at h<;>cases h;simp only [AE] at hs;subst hs;exact hr
 | bool=>
  simp only [PV] at h;rw [T3 h hs] at hr;exact hr
 | st fs=>
  simp only [PV] at h;unfold aT at h;split at h
  ·split at h<;>cases h;rename_i hd;simp only [AE] at hs;obtain ⟨xs,rfl,hs⟩:=hs;obtain ⟨zs,rfl,hz⟩:=LN fs hd hs;simp only [AJ] at hz;subst hz;rw [List.append_nil] at hr;exact hr
  ·cases h
theorem bE: ∀ {l:List Nat} {n:Nat},nt l n=false->n ∉ l
 | [],_,_=>by simp
 | a::l,n,h=>by
  simp only [nt] at h;split at h
  ·cases h
  ·rename_i hb;intro hm;rcases List.mem_cons.1 hm with e | e
   ·subst e;simp at hb
   ·exact bE h e
def wZ (r:M0) (a:RT r) (n:Nat) (y y':AA) (S:AB) (L:List (Nat×Ob)):Prop:=
 match r,a with
 | .val t,a=>PM y y'/\y'=DL t a/\L=[]
 | .own t,a=>(∃p v o0,y= .sl p v 0 (List.length (α:=T t) a)/\y'= .sl n v 0 (List.length (α:=T t) a)/\S[p]?=some o0/\mO o0 (.row v (GZ t) (List.flatMap (α:=T t) (BQ t) a))/\L=[(p,.row v (GZ t) (List.flatMap (α:=T t) (BQ t) a))])\/(a=([]:List (T t))/\y= .AM/\y'= .AM/\L=[])
def VQ (x:TV) (l:Nat):Prop:=x= .HW l\/ ∃o n,x= .sl l o n
theorem gR {H:HF} {TS:List B4} {S:AB} (st:DO H TS S) {r:M0} {x:TV} {ps:List Prop} {a:RT r} {y:AA} (h:lk TS r x=some (ps,a)) (Ej:FW ps) (hs:AE H x y) (n:Nat):
  ∃y' L,wZ r a n y y' S L/\ ∀q∈L,∃l hd v,VQ x l/\(∃t,r= .own t)/\H l=some hd/\hd.loc=some (q.1,v):=by
 cases r with
 | val t=>
  simp only [lk] at h;split at h<;>cases h;rename_i ha;exact ⟨DL t a,[],⟨nJ ha hs,rfl,rfl⟩,by simp⟩
 | own t=>
  simp only [lk] at h;unfold vR at h;split at h
  ·rename_i l off len;split at h
   ·rename_i e ls ho;split at h<;>cases h;rename_i hh _;subst hh;have h0:off=0:=Ej.cons.1;obtain ⟨loc,q1,q2⟩:=DN st ho;simp only [AE] at hs;obtain ⟨hd,e1,r1,r2,r3,e2⟩:=hs;rw [q1] at e1;cases e1;simp only at r3 e2;have hl:(ls.take len.toNat).length=len.toNat:=by simp;omega
    cases loc with
    | none=>
     simp only [CK] at q2;subst q2;simp only [KU] at e2;exact ⟨.AM,[],.inr ⟨by simp,e2,rfl,rfl⟩,by simp⟩
    | some q=>
     obtain ⟨p,v⟩:=q;simp only [KU,h0,Int.toNat_zero,Nat.zero_mul] at e2;simp only [CK] at q2;refine ⟨.sl n v 0 (ls.take len.toNat).length,_,.inl ⟨p,v,_,by rw [hl];exact e2,rfl,q2,?_,rfl⟩,fun p' hp=>?_⟩
     ·have e5:ls.flatMap (BQ e)=(ls.take len.toNat).flatMap (BQ e)++(ls.drop len.toNat).flatMap (BQ e):=by rw [<-List.flatMap_append,List.take_append_drop]
      have e6:=BH (A5 e) (ls.take len.toNat);have:=mO.Vy (v:=v) (k:=GZ e) (cs:=ls.flatMap (BQ e)) ((ls.take len.toNat).length*GZ e);rw [e5,List.take_left' e6,<-e5] at this;exact this
     ·simp at hp;subst hp;exact ⟨l,_,v,.inr ⟨off,len,rfl⟩,⟨_,rfl⟩,q1,rfl⟩
   ·cases h
  ·split at h<;>cases h;rename_i h;unfold u5 at h;split at h
   ·cases h;simp only [AE] at hs;exact ⟨.AM,[],.inr ⟨rfl,hs,rfl,rfl⟩,by simp⟩
   ·rename_i l _;split at h
    ·rename_i e ls ho;split at h<;>cases h;rename_i hh _;subst hh;obtain ⟨loc,q1,q2⟩:=DN st ho;simp only [AE] at hs;obtain ⟨hd,e1,rfl⟩:=hs;rw [q1] at e1;cases e1;cases loc with
     | none=>
      simp only [CK] at q2;subst q2;exact ⟨.AM,[],.inr ⟨rfl,rfl,rfl,rfl⟩,by simp⟩
     | some q=>
      obtain ⟨p,v⟩:=q;refine ⟨.sl n v 0 ls.length,_,.inl ⟨p,v,_,rfl,rfl,q2,.refl _,rfl⟩,fun p' hp=>?_⟩;simp at hp;subst hp;exact ⟨l,_,v,.inl rfl,⟨_,rfl⟩,q1,rfl⟩
    ·cases h
   ·cases h
theorem lj {TS:List B4} {r:M0} {rs:List M0} {x:TV} {xs:List TV} {K:P7 (r::rs)->Prop} (h:Nj TS (r::rs) (x::xs) K):
  ∃ps a,lk TS r x=some (ps,a)/\FW ps/\Nj TS rs xs fun y=> ∀z:P7 (r::rs),mU r rs z=a->mV r rs z=y->K z:=by
 cases rs with
 | nil=>
  simp only [Nj] at h;split at h
  ·rename_i e;cases e;split at h
   ·rename_i ps a ha;rw [EC] at h;refine ⟨ps,a,ha,h.1,?_⟩;simp only [Nj];intro z hz _;have:z=a:=hz;rw [this];exact h.2
   ·exact h.elim
  ·exact h.elim
 | cons s rs=>
  simp only [Nj] at h;split at h
  ·rename_i ps a ha;rw [EC] at h;refine ⟨ps,a,ha,h.1,?_⟩;have mono: ∀(rs:List M0) (xs:List TV) {K K':P7 rs->Prop},(∀y,K y->K' y)->Nj TS rs xs K->Nj TS rs xs K':=by
    intro rs
    induction rs with
    | nil=>intro xs K K' hm h;cases xs<;>simp only [Nj] at* ;exact hm _ h
    | cons r rs ih=>
     intro xs K K' hm h;cases rs with
     | nil=>
      simp only [Nj] at*;split at h
      ·split at h
       ·rw [EC] at h |-;exact ⟨h.1,hm _ h.2⟩
       ·exact h.elim
      ·exact h.elim
     | cons s rs=>
      simp only [Nj] at*;cases xs with
      | nil=>exact h
      | cons x xs=>
       simp only at*;split at h
       ·rw [EC] at h |-;exact ⟨h.1,ih _ (fun y hy=>hm _ hy) h.2⟩
       ·exact h.elim
   exact mono _ _ (fun y hy z h1 h2=>by
    have:z=(a,y):=by
     obtain ⟨z1,z2⟩:=z;simp only [mU,mV] at h1 h2;rw [h1,h2]
    rw [this];exact hy) h.2
  ·exact h.elim
theorem vE (r:M0): ∀(rs:List M0) (a:RT r) (y:P7 rs),∃z:P7 (r::rs),mU r rs z=a/\mV r rs z=y
 | [],a,y=>⟨a,rfl,rfl⟩
 | _::_,a,y=>⟨(a,y),rfl,rfl⟩
theorem cL {t:Ty} {rs:List M0} {x:TV} {xs:List TV} {l:Nat} (h:VQ x l):Nd (.own t::rs) (x::xs)=l::Nd rs xs:=by
 rcases h with rfl | ⟨o,n,rfl⟩<;>rfl
theorem pA {t:Ty} {rs:List M0} {x:TV} {xs:List TV} (h: ∀l,¬VQ x l):Nd (.own t::rs) (x::xs)=Nd rs xs:=by
 cases x<;>first | rfl | exact (h _ (.inl rfl)).elim | exact (h _ (.inr ⟨_,_,rfl⟩)).elim
theorem o8 {x:TV} {l m:Nat} (h:VQ x l) (g:VQ x m):l=m:=by
 rcases h with rfl | ⟨o,n,rfl⟩<;>rcases g with g | ⟨_,_,g⟩<;>cases g<;>rfl
theorem Vi {H:HF} {TS:List B4} {S:AB} (st:DO H TS S): ∀(rs:List M0) {xs:List TV} {ys:List AA} {K:P7 rs->Prop} (n:Nat),Nj TS rs xs K->AJ H xs ys->distinct (Nd rs xs)=true->
  ∃(z:P7 rs) (L:List (Nat×Ob)) (ys':List AA),K z/\Zq ys ys'/\HV rs z n ys' (L.map (·.2))/\(∀q∈L,∃o0,S[q.1]?=some o0/\mO o0 q.2)/\(L.map (·.1)).Nodup/\ ∀q∈L,∃l∈Nd rs xs,∃hd v,H l=some hd/\hd.loc=some (q.1,v)
 | [],xs,ys,K,n,h,hs,hd=>by
  cases xs with
  | nil=>
   simp only [Nj] at h;simp only [AJ] at hs;subst hs;exact ⟨(),[],[],h,.nil,by simp [HV],by simp,by simp,by simp⟩
  | cons=>simp only [Nj] at h
 | r::rs,[],ys,K,n,h,hs,hd=>by cases rs<;>simp only [Nj] at h
 | r::rs,x::xs,ys,K,n,h,hs,hd=>by
  obtain ⟨ps,a,ha,Ej,h⟩:=lj h;simp only [AJ] at hs;obtain ⟨y,zs,rfl,s1,s2⟩:=hs;obtain ⟨y',L1,o1,o2⟩:=gR st ha Ej s1 n;have hd2:distinct (Nd rs xs)=true/\ ∀l,VQ x l->(∃t,r= .own t)->l ∉ Nd rs xs:=by
   cases r with
   | val t=>
    simp only [Nd] at hd;exact ⟨hd,fun l _ ⟨t',e⟩=>by cases e⟩
   | own t=>
    by_cases hx: ∃l,VQ x l
    ·obtain ⟨l,hx⟩:=hx;rw [cL hx] at hd;simp only [distinct] at hd;split at hd
     ·cases hd
     ·rename_i hh;exact ⟨hd,fun l' e _=>by rw [o8 e hx];exact bE hh⟩
    ·rw [pA fun l hl=>hx ⟨l,hl⟩] at hd;exact ⟨hd,fun l e=>(hx ⟨l,e⟩).elim⟩
  have sub: ∀l,l∈Nd rs xs->l∈Nd (r::rs) (x::xs):=fun l hl=>by
   cases r<;>cases x<;>simp only [Nd]<;>first | exact hl | exact List.mem_cons_of_mem _ hl
  obtain ⟨z,L2,ys',g1,g2,g3,g4,g5,g6⟩:=Vi st rs (n+L1.length) h s2 hd2.1;obtain ⟨Z,e1,e2⟩:=vE r rs a z;refine ⟨Z,L1++L2,y'::ys',g1 Z e1 e2,?_,?_,?_,?_,?_⟩
  ·refine .cons ?_ g2;cases r with
   | val t=>exact o1.1
   | own t=>
    rcases o1 with ⟨p,v,o0,rfl,rfl,_⟩ | ⟨_,rfl,rfl,_⟩
    ·exact .sl
    ·exact .refl _
  ·cases r with
   | val t=>
    obtain ⟨_,rfl,rfl⟩:=o1;simp only [HV];refine ⟨ys',by rw [e1],?_⟩;rw [e2];simpa using g3
   | own t=>
    rcases o1 with ⟨p,v,o0,rfl,rfl,q3,_,rfl⟩ | ⟨q1,rfl,rfl,rfl⟩
    ·simp only [HV];refine .inl ⟨v,ys',L2.map (·.2),by rw [e1],?_,?_⟩
     ·rw [e1];simp
     ·rw [e2];simpa using g3
    ·simp only [HV];refine .inr ⟨by rw [e1];exact q1,ys',rfl,?_⟩;rw [e2];simpa using g3
  ·intro q hq;rcases List.mem_append.1 hq with hq | hq
   ·cases r with
    | val t=>obtain ⟨_,_,rfl⟩:=o1;cases hq
    | own t=>
     rcases o1 with ⟨p,v,o0,_,_,q3,q4,rfl⟩ | ⟨_,_,_,rfl⟩
     ·simp at hq;subst hq;exact ⟨o0,q3,q4⟩
     ·cases hq
   ·exact g4 q hq
  ·rw [List.map_append,List.nodup_append];refine ⟨?_,g5,fun p hp q hq e=>?_⟩
   ·cases r with
    | val t=>obtain ⟨_,_,rfl⟩:=o1;simp
    | own t=>rcases o1 with ⟨_,_,_,_,_,_,_,rfl⟩ | ⟨_,_,_,rfl⟩<;>simp
   ·subst e;obtain ⟨a1,ha1,rfl⟩:=List.mem_map.1 hp;obtain ⟨a2,ha2,he⟩:=List.mem_map.1 hq;obtain ⟨l,hd,v,h0,h0',h1,h2⟩:=o2 a1 ha1;obtain ⟨l',hl',hd',v',h3,h4⟩:=g6 a2 ha2;rw [he] at h4;have:=st.inj _ _ _ _ _ _ _ h1 h3 h2 h4;subst this;exact hd2.2 l h0 h0' hl'
  ·intro p hp;rcases List.mem_append.1 hp with hp | hp
   ·obtain ⟨l,hd',v,h0,⟨t,h0'⟩,h1,h2⟩:=o2 p hp;subst h0';exact ⟨l,by rw [cL h0];simp,hd',v,h1,h2⟩
   ·obtain ⟨l,hl,q⟩:=g6 p hp;exact ⟨l,sub l hl,q⟩
theorem nY: ∀(rs:List M0) {x y:P7 rs},u7 rs x y->x=y
 | [],_,_,_=>rfl
 | [_],_,_,h=>h
 | r::s::rs,(x1,x2),(y1,y2),h=>by
  simp only [u7] at h;rw [h.1,nY (s::rs) h.2]
theorem sL: ∀ {xs ys:List AA},Zq xs ys->PM (Lg xs) (Lg ys):=fun {xs ys} h=>by
 cases h with
 | nil=>exact .refl _
 | cons h1 h2=>cases h2 with
  | nil=>exact h1
  | cons h3 h4=>exact .DG (.cons h1 (.cons h3 h4))
def U9:KJ->Nat
 | .nil=>0
 | .cons _ ts=>U9 ts+1
theorem QO: ∀(ts:KJ) (x:Ts ts),(Ff ts x).length=U9 ts
 | .nil,_=>rfl
 | .cons t .nil,x=>rfl
 | .cons t (.cons u ts),(x,y)=>by
  have:=QO (.cons u ts) y;simp only [Ff,List.length_cons,this,U9]
theorem ti (hΓ:Cons P Γ) {L:List (Nat×Fi)} (hL:tT P L) {f:Nat} {fi:Fi} {ct:Ct} (hf:FC P f fi) {depth:Nat} (hsp:fi.sp=none) (hn:Nat.ble (U9 ct.args) fi.n=true) (x:Ts ct.args) (h:vW Γ L depth fi ct x):AU P f (Ff ct.args x) [] (pU ct.res (ct.fn x)):=by
 have hlen:(Ff ct.args x).length<=fi.n:=by rw [QO];exact Nat.le_of_ble_eq_true hn
 refine (hf.out hsp (R:=fun r S'=> ∃H' TS' zs us,(match distinct (Nd ct.res zs) with | true=>Nj TS' ct.res zs fun y=>u7 ct.res y (ct.fn x) | false=>False)/\DO H' TS' S'/\AJ H' zs us/\r=Lg us)
  (TM hΓ (aF hΓ hL depth) h DO.nil .nil (dW ct.args x) fun zs us S' H' G' TS' q1 q2 q3 q4=>⟨H',TS',zs,us,q1,q2,q4,rfl⟩) hlen).Zm ?_
 rintro r S' ⟨H',TS',zs,us,h1,h2,h3,rfl⟩;split at h1
 ·rename_i hd;obtain ⟨z,L,ys',g1,g2,g3,g4,g5,_⟩:=Vi h2 ct.res 0 h1 h3 hd;have e:=nY ct.res g1;subst e;refine ⟨Lg ys',fun l=>(L.map (·.1)).getD l 0,L.map (·.2),sL g2,⟨fun l l' hl hl' e=>?_,fun l o hl=>?_⟩,ys',g3,rfl⟩
  ·have h1:l<(L.map (·.1)).length:=by simpa using hl
   have h2:l'<(L.map (·.1)).length:=by simpa using hl'
   simp only [List.getD_eq_getElem?_getD,List.getElem?_eq_getElem h1,List.getElem?_eq_getElem h2,Option.getD_some] at e;exact (List.getElem_inj g5).1 e
  ·rw [List.getElem?_map] at hl;cases hp:L[l]? with
   | none=>rw [hp] at hl;cases hl
   | some p=>
    rw [hp] at hl;simp at hl;subst hl;obtain ⟨o0,k1,k2⟩:=g4 p (List.mem_of_getElem? hp);refine ⟨o0,?_,k2⟩;simp only [List.getD_eq_getElem?_getD,List.getElem?_map,hp,Option.map_some,Option.getD_some];exact k1
 ·exact h1.elim
theorem D3 (hΓ:Cons P Γ) {L:List (Nat×Fi)} (hL:tT P L) {f:Nat} {fi:Fi} {ct:Ct} (hf:FC P f fi) {depth:Nat} (hsp:fi.sp=none) (hn:Nat.ble (U9 ct.args) fi.n=true) (x:Ts ct.args) {T:Prop} (h:T) (e:T=vW Γ L depth fi ct x):AU P f (Ff ct.args x) [] (pU ct.res (ct.fn x)):=
 ti hΓ hL hf hsp hn x (e▸h)
end
theorem BS.frozen {P:Program} {f:FuncId} {args:KJ} {t:Ty} {pre:Ts args->Prop} {fn:Ts args->List (T t)} (h:BS P f ⟨args,[.own t],pre,fn⟩):BS P f ⟨args,[.val (.sl t)],pre,fn⟩:=by
 refine ⟨h.1,fun x hx=>AU.freeze 1 (C6 (h.2 x hx) fun r S' hr=>?_)⟩;obtain ⟨ys,h1,rfl⟩:=hr;refine ⟨[DL (.sl t) (fn x)],⟨[],rfl,rfl,rfl⟩,?_⟩;rcases h1 with ⟨v,ys',S1,rfl,rfl,rfl,rfl⟩ | ⟨h0,ys',rfl,rfl,rfl⟩
 ·simp only [Lg,deref,mU,DL,List.getElem?_cons_zero,if_pos,List.drop_zero];simp [deref]
 ·simp only [Lg,deref,DL];have h0:fn x=[]:=h0;rw [h0];rfl
def stM:List (List AA)->(Nat->Nat)->Nat->AB
 | [],_,_=>[]
 | cs::L,vs,k=>.row (vs k) 0 cs::stM L vs (k+1)
inductive jn (H:HF) (S:AB):List Nat->List (Nat×Nat)->List (List AA)->Prop
 | nil:jn H S [] [] []
 | cons {l p v:Nat} {cs:List AA} {ls:List Nat} {pvs:List (Nat×Nat)} {L:List (List AA)} (h:H l=some ⟨some (p,v),0,cs.length,[]⟩) (hS:S[p]?=some (.row v 0 cs)) (hr:jn H S ls pvs L):jn H S (l::ls) ((p,v)::pvs) (cs::L)
theorem jn.append {H:HF} {S:AB} {ls ls':List Nat} {pvs pvs':List (Nat×Nat)} {L L':List (List AA)} (h:jn H S ls pvs L) (h':jn H S ls' pvs' L'):jn H S (ls++ls') (pvs++pvs') (L++L'):=by
 induction h with
 | nil=>exact h'
 | cons h1 h2 _ ih=>exact .cons h1 h2 ih
theorem jn.len {H:HF} {S:AB} {ls:List Nat} {pvs:List (Nat×Nat)} {L:List (List AA)} (h:jn H S ls pvs L):pvs.length=L.length/\ls.length=L.length:=by
 induction h with
 | nil=>exact ⟨rfl,rfl⟩
 | cons _ _ _ ih=>exact ⟨by simp [ih.1],by simp [ih.2]⟩
theorem jn.mem {H:HF} {S:AB} {ls:List Nat} {pvs:List (Nat×Nat)} {L:List (List AA)} (h:jn H S ls pvs L): ∀ {p:Nat},p∈pvs.map (·.1)-> ∃l∈ls,∃v n,H l=some ⟨some (p,v),0,n,[]⟩:=by
 induction h with
 | nil=>intro p hp;simp at hp
 | cons h1 _ _ ih=>
  intro p hp;simp only [List.map_cons,List.mem_cons] at hp;rcases hp with rfl | hp
  ·exact ⟨_,by simp,_,_,h1⟩
  ·obtain ⟨l,hl,g⟩:=ih hp;exact ⟨l,by simp [hl],g⟩
theorem jn.at {H:HF} {S:AB} {ls:List Nat} {pvs:List (Nat×Nat)} {L:List (List AA)} (h:jn H S ls pvs L): ∀(vs:Nat->Nat) (k:Nat),(∀(i:Nat) pv,pvs[i]?=some pv->vs (k+i)=pv.2)-> ∀(i:Nat) o q,(stM L vs k)[i]?=some o->(pvs.map (·.1))[i]?=some q->S[q]?=some o:=by
 induction h with
 | nil=>intro vs k _ i o q h;simp [stM] at h
 | cons h1 h2 hr ih=>
  intro vs k hv i o q g1 g2;cases i with
  | zero=>
   simp [stM] at g1 g2;have:=hv 0 _ rfl;simp only [Nat.add_zero] at this;subst g1;subst g2;rw [this];exact h2
  | succ i=>
   simp only [stM,List.map_cons,List.getElem?_cons_succ] at g1 g2;exact ih vs (k+1) (fun j pv hj=>by have:=hv (j+1) pv (by simpa using hj);rwa [show k+1+j=k+(j+1) by omega]) i o q g1 g2
inductive eC (H:HF):List (List TV)->List (List AA)->List (List AA)->Prop
 | nil:eC H [] [] []
 | cons {cs:List TV} {xs ys:List AA} {L:List (List TV)} {M N:List (List AA)} (h:AJ H cs xs) (hl:xs.length=ys.length) (hr:eC H L M N):eC H (cs::L) (xs::M) (ys::N)
theorem eC.append {H:HF} {L L':List (List TV)} {M M' N N':List (List AA)} (h:eC H L M N) (h':eC H L' M' N'):eC H (L++L') (M++M') (N++N'):=by
 induction h with
 | nil=>exact h'
 | cons h1 h2 _ ih=>exact .cons h1 h2 ih
inductive YC:List (List TV)->List (List AA)->Prop
 | nil:YC [] []
 | cons {cs:List TV} {xs:List AA} {L:List (List TV)} {M:List (List AA)} (h: ∀H,AJ H cs xs) (hr:YC L M):YC (cs::L) (xs::M)
theorem YC.append {L L':List (List TV)} {M M':List (List AA)} (h:YC L M) (h':YC L' M'):YC (L++L') (M++M'):=by
 induction h with
 | nil=>exact h'
 | cons h1 _ ih=>exact .cons h1 ih
theorem YC.len {L:List (List TV)} {M:List (List AA)} (h:YC L M):L.length=M.length:=by
 induction h with
 | nil=>rfl
 | cons _ _ ih=>simp [ih]
end Go.Vc
namespace Go.Vc
abbrev gp (d:Nat) (o:Dw):Cs:=⟨some d,o,none,false,[]⟩
abbrev gb (d:Nat) (o:Dw):Cs:=⟨some d,o,none,true,[]⟩
abbrev gq (d:Nat) (o:Dw) (g:Nat) (b:Bool):Cs:=⟨some d,o,some (g,b),false,[]⟩
abbrev gn (o:Dw):Cs:=⟨none,o,none,false,[]⟩
abbrev ci (n:Int):AL:= .c (.int .i64 n)
theorem wU {P:Program} {f:Nat} {fi:Fi} {fn:Func} {c:Code} (h0:Cy P f=true) (h1:fi.sp=none) (hf:P.funcs[f]?=some fn) (hb:fn.body=some c) (hc:comp P fn.ntmps c fi.code=some fi.code) (hr:V_ P fn.results.toList=some fi.res) (hn:fi.n=fn.ntmps:=by rfl):FC P f fi:=
 ⟨fun _=>h0,fun _ h hlen=>XK h0 (PX _ _) hf hb hc hr (hn▸hlen) h,fun s h=>by rw [h1] at h;cases h⟩
end Go.Vc
end
section
namespace Go.Vc
abbrev oM (d s:Nat):Cs:=⟨some d,.C8 (.t s),none,false,[]⟩
abbrev oC (d:Nat) (n:Int):Cs:=⟨some d,.C8 (.c (.int .i64 n)),none,false,[]⟩
abbrev oV (d:Nat) (x:AL):Cs:=⟨some d,.C8 x,none,false,[]⟩
abbrev oL (d s:Nat):Cs:=⟨some d,.load 1 false (.t s),none,false,[]⟩
abbrev oA (d n s:Nat):Cs:=⟨some d,.load n true (.t s),none,false,[]⟩
abbrev oF (d o s:Nat):Cs:=⟨some d,.DJ o (.t s),none,false,[]⟩
abbrev oK (d s:Nat):Cs:=⟨some d,.E5 (.t s),none,false,[]⟩
abbrev oI (d k s i:Nat):Cs:=⟨some d,.D_ k none (.t s) (.t i),none,false,[]⟩
abbrev oX (d s i:Nat):Cs:=⟨some d,.extract (.t s) i,none,false,[]⟩
abbrev oT (d s:Nat):Cs:=⟨some d,.len true (.t s),none,false,[]⟩
abbrev oN (d s:Nat):Cs:=⟨some d,.len false (.t s),none,false,[]⟩
abbrev oB (d:Nat) (o:BinOp) (a b:Nat):Cs:=⟨some d,.bin .none o (.t a) (.t b),none,false,[]⟩
abbrev oJ (d:Nat) (o:BinOp) (a:Nat) (n:Int):Cs:=⟨some d,.bin .none o (.t a) (.c (.int .i64 n)),none,false,[]⟩
abbrev oG (d f:Nat) (xs:List AL):Cs:=⟨some d,.call f xs,none,false,[]⟩
abbrev oP (d k b s x:Nat):Cs:=⟨some d,.append k b (.t s) (.t x),none,false,[]⟩
abbrev oS (n a b:Nat):Cs:=⟨none,.store n (.t a) (.t b),none,false,[]⟩
abbrev sq (l:List Cs) (ks:List Nat) (r:Ak):Ak:= .seq (.ops l none ks) r
def rF (res:List Kk) (R:AA->AB->Prop):BU->Frame->AB->Prop:=fun e F' S'=>match e with
 | .normal=>I5 F' S' (fun xs=>R9 xs fun r=>R r S') res
 | .ret=>I5 F' S' (fun xs=>R9 xs fun r=>R r S') res
 | _=>False
def L0 (P:Program) (f n:Nat) (c:Ak) (res:List Kk):Prop:=Cy P f=true/\ ∀ {args:List AA} {S:AB} {R:AA->AB->Prop},vc P c (rF res R) (TY 0 args) S->args.length<=n->AU P f args S R
theorem okW {P:Program} {f n:Nat} {fn:Func} {b:Code} {c:Ak} {res:List Kk} (hf:P.funcs[f]?=some fn) (h0:Cy P f=true:=by kernel_rfl) (hb:fn.body=some b:=by rfl) (hn:fn.ntmps=n:=by rfl) (hc:comp P n b c=some c:=by kernel_rfl) (hr:V_ P fn.results.toList=some res:=by kernel_rfl):L0 P f n c res:=
 ⟨h0,fun {_ _ _} h hlen=>XK h0 (PX _ _) hf hb (hn▸hc) hr (hn▸hlen) h⟩
theorem Oh {P:Program} {f:Nat} {fi:Fi} {fn:Func} {c:Code} (hf:P.funcs[f]?=some fn) (h0:Cy P f=true:=by kernel_rfl) (h1:fi.sp=none:=by rfl) (hb:fn.body=some c:=by rfl) (hc:comp P fn.ntmps c fi.code=some fi.code:=by kernel_rfl) (hr:V_ P fn.results.toList=some fi.res:=by kernel_rfl) (hn:fi.n=fn.ntmps:=by rfl):FC P f fi:=wU h0 h1 hf hb hc hr hn
end Go.Vc
end
section
set_option maxRecDepth 100000
namespace Go.Proofs.YtlibocgedgdmlaaGreat
open Go.Vc
abbrev Du:Nat:=4
abbrev CH:Nat:=5
abbrev B0:Nat:=9
abbrev Dg:Nat:=10
abbrev AX:Nat:=11
abbrev DB:Nat:=12
abbrev DI:Nat:=13
abbrev Cc:Nat:=14
abbrev GD:Nat:=15
abbrev Cx:Nat:=16
abbrev D4:Nat:=21
abbrev HI:Nat:=22
abbrev DT:Nat:=23
abbrev Ft:Nat:=24
abbrev Bi:Nat:=25
abbrev CG:Nat:=26
abbrev CW:Nat:=27
abbrev B7:Nat:=28
abbrev B8:Nat:=29
abbrev B6:Nat:=30
abbrev CV:Nat:=31
abbrev Bo:Nat:=32
abbrev CU:Nat:=33
abbrev C9:Nat:=34
abbrev Da:Nat:=41
abbrev CA:Nat:=42
abbrev DC:Nat:=45
abbrev Af:Nat:=47
abbrev Bv:Nat:=48
abbrev Bg:Nat:=49
abbrev Bf:Nat:=50
abbrev Bh:Nat:=51
abbrev CI:Nat:=52
abbrev B9:Nat:=53
abbrev FF:Nat:=54
abbrev BR:Nat:=55
abbrev C0:Nat:=56
abbrev DE:Nat:=57
abbrev Bw:Nat:=58
abbrev BF:Nat:=59
abbrev Ag:Nat:=60
abbrev Ch:Nat:=61
abbrev Cg:Nat:=63
abbrev Fv:Nat:=64
abbrev Bl:Nat:=65
abbrev BG:Nat:=68
abbrev B5:Nat:=69
abbrev BV:Nat:=70
abbrev Ee:Nat:=71
abbrev Ay:Nat:=72
abbrev BK:Nat:=73
abbrev BA:Nat:=74
abbrev Ax:Nat:=75
abbrev BB:Nat:=76
abbrev BI:Nat:=77
abbrev CZ:Nat:=78
abbrev Ad:Nat:=79
abbrev Ed:Nat:=80
abbrev D7:Nat:=81
abbrev Ev:Nat:=82
abbrev A6:Nat:=83
abbrev Ba:Nat:=86
abbrev Br:Nat:=87
abbrev EX:Nat:=89
abbrev CX:Nat:=90
abbrev B1:Nat:=95
abbrev Aq:Nat:=96
abbrev Ds:Nat:=97
abbrev EW:Nat:=98
abbrev Cp:Nat:=99
abbrev CO:Nat:=113
abbrev Gx:Nat:=115
abbrev Aw:Nat:=116
abbrev DF:Nat:=118
abbrev Au:Nat:=119
abbrev DS:Nat:=120
def WS:Ak:=(sq [oC 4 0] [0,1] (sq [oM 5 0,oM 6 1,oB 7 .rem 5 6,oM 0 7] [0,1] (.seq (sq [oM 8 0,oJ 9 .lss 8 0] [0,1,9] (.cond (.t 9) (sq [oM 10 0,oM 11 1,oB 12 .add 10 11,oM 4 12] [4] .ret) .skip)) (sq [oM 13 0,oM 4 13] [4] .ret))))
def U0:Fi:=⟨14,WS,[.tmp 4],.d,⟨[],[]⟩,none⟩
theorem NT:FC Tryz.prog AX U0:=Oh Tryz.func11
def WU:Ak:=(sq [oV 4 (.c (.str []))] [0,1] (sq [oV 5 (.c (.str []))] [0,1,5] (.seq (sq [oC 6 0] [0,1,5,6] (.block 0 (.loop [0,1] [5,6] 0 (.seq (sq [oM 7 6,oM 8 0,oN 9 8,oB 10 .lss 7 9,gb 11 (.C8 (.t 10)),gq 12 (.C8 (.t 6)) 11 true,gq 13 (.C8 (.t 1)) 11 true,gq 14 (.bin .none .lss (.t 12) (.t 13)) 11 true,gp 15 (.pick (.t 11) (.t 14) (.c (.bool false)))] [0,1,5,6,15] (.cond (.t 15) .skip (.exit 0))) (.seq (.block 1 (.ops [oM 18 5,oM 19 0,oM 20 6,oI 21 1 19 20,oL 22 21,oG 23 AX [(.t 22),(ci 12)],gp 24 (.slice 0 (.c (.str [97,98,32,10,97,98,99,100,32,98,10,97])) (some (.t 23)) none),gp 25 (.slice 0 (.t 24) none (some (ci 1))),oB 26 .add 18 25,oM 5 26] none [0,1,5,6])) (.ops [oM 16 6,oJ 17 .add 16 1,oM 6 17] none [0,1,5,6])))))) (sq [oM 27 5,oM 4 27] [4] .ret))))
def U3:Fi:=⟨28,WU,[.tmp 4],(.seq .d (.seq .d (.seq (.seq .d (.loop [] [] [] .d)) .d))),⟨[],[]⟩,none⟩
theorem NU:FC Tryz.prog B0 U3:=Oh Tryz.func9
def WR:Ak:=(sq [gp 2 (.box 0 (.t 0)),gp 4 (.alloc 0 [(.int .i64 0),(.int .i64 0),(.str [])])] [1,2,4] (sq [oF 6 0 2,oL 7 6,oM 8 1,oJ 9 .add 8 1,oG 10 AX [(.t 7),(.t 9)],oM 5 10] [1,2,4,5] (.seq (.ops [oM 11 5,oF 12 1 2,oL 13 12,oM 14 1,oM 15 5,oB 16 .sub 14 15,gp 17 (.min [(.t 16),(ci 12)]),oJ 18 .add 17 1,oF 20 2 2,oL 21 20,oG 19 AX [(.t 13),(.t 18)],oG 22 B0 [(.t 21),(ci 8)],gp 23 (.build [(.int .i64 0),(.int .i64 0),(.str [])] [(0,1,(.t 11)),(1,1,(.t 19)),(2,1,(.t 22))]),oS 3 4 23] (some (11,0,[0,1,2,3,4,5,6,7,9,10,8,11,12,13])) [4]) .ret)))
def Ux:Fi:=⟨24,WR,[.cell 4 3 true],.d,⟨[(2,(.st (.cons (.int .i64) (.cons (.int .i64) (.cons (.sl (.int .i64)) .nil))))),(4,(.st (.cons (.int .i64) (.cons (.int .i64) (.cons .str .nil)))))],[]⟩,none⟩
theorem NS:FC Tryz.prog Da Ux:=Oh Tryz.func41
def Yx:Ak:=(sq [oV 6 (.c .AM)] [0,1,2] (sq [gp 7 (.DU 4)] [0,1,2,7] (.seq (sq [oC 8 0] [0,1,2,7,8] (.block 0 (.loop [0,1,2] [7,8] 1 (.seq (sq [oM 11 8,oM 12 0,oN 13 12,oB 14 .lss 11 13,gb 15 (.C8 (.t 14)),gq 16 (.C8 (.t 8)) 15 true,gq 17 (.C8 (.t 1)) 15 true,gq 18 (.bin .none .lss (.t 16) (.t 17)) 15 true,gp 19 (.pick (.t 15) (.t 18) (.c (.bool false)))] [0,1,2,7,8,19] (.cond (.t 19) .skip (.exit 0))) (.seq (.block 1 (sq [oM 22 0,oM 23 8,oI 24 4 22 23,oF 25 1 24,oA 26 3 25,oM 27 2,oG 28 Da [(.t 26),(.t 27)],gp 29 (.build [(.int .i64 0),(.int .i64 0),(.int .i64 0),(.str [])] [(0,1,(ci 1)),(1,3,(.t 28))]),gp 9 (.alloc 0 [(.int .i64 0),(.int .i64 0),(.int .i64 0),(.str [])]),oS 4 9 29] [0,1,2,7,8,9] (.join [0,1,2,7,8,9] [] 2 (sq [oM 30 0,oM 31 8,oI 32 4 30 31,oF 33 0 32,oL 34 33,oG 35 AX [(.t 34),(ci 8)],oM 10 35] [0,1,2,7,8,9,10] (sq [oM 36 10,oJ 37 .gtr 36 4] [0,1,2,7,8,9,10,37] (.cond (.t 37) (.ops [oM 38 10,gp 39 (.bin .none .add (ci 2) (.t 38)),oJ 40 .sub 39 5,gp 41 (.build [(.int .i64 0),(.int .i64 0),(.int .i64 0),(.str [])] [(0,1,(.t 40))]),oS 4 9 41] none [0,1,2,7,8,9]) .skip))) (.ops [oM 42 7,oA 43 4 9,gp 44 (.A7 true 1 4 [(.int .i64 0),(.int .i64 0),(.int .i64 0),(.str [])] [(0,4,(.t 43))]),oP 45 4 40 42 44,oM 7 45] none [0,1,2,7,8])))) (.ops [oM 20 8,oJ 21 .add 20 1,oM 8 21] none [0,1,2,7,8])))))) (sq [oM 46 7,oM 6 46] [6] .ret))))
def WN:Fi:=⟨47,Yx,[.tmp 6],(.seq .d (.seq .d (.seq (.seq .d (.loop [7] [] [] .d)) .d))),⟨[(7,(.st (.cons (.int .i64) (.cons (.st (.cons (.int .i64) (.cons (.int .i64) (.cons .str .nil)))) .nil)))),(44,(.st (.cons (.int .i64) (.cons (.st (.cons (.int .i64) (.cons (.int .i64) (.cons .str .nil)))) .nil)))),(45,(.st (.cons (.int .i64) (.cons (.st (.cons (.int .i64) (.cons (.int .i64) (.cons .str .nil)))) .nil)))),(9,(.st (.cons (.int .i64) (.cons (.st (.cons (.int .i64) (.cons (.int .i64) (.cons .str .nil)))) .nil))))],[]⟩,none⟩
theorem O7:FC Tryz.prog D4 WN:=Oh Tryz.func21
def fR:Ak:=(sq [oV 4 (.c (.str []))] [0,1] (sq [oV 5 (.c (.str []))] [0,1,5] (.seq (sq [oC 6 0] [0,1,5,6] (.block 0 (.loop [0,1] [5,6] 0 (.seq (sq [oM 7 6,oM 8 0,oN 9 8,oB 10 .lss 7 9,gb 11 (.C8 (.t 10)),gq 12 (.C8 (.t 6)) 11 true,gq 13 (.C8 (.t 1)) 11 true,gq 14 (.bin .none .lss (.t 12) (.t 13)) 11 true,gp 15 (.pick (.t 11) (.t 14) (.c (.bool false)))] [0,1,5,6,15] (.cond (.t 15) .skip (.exit 0))) (.seq (.block 1 (.ops [oM 18 5,gp 19 (.A7 false 2 1 [(.str []),(.str [])] [(0,1,(.c (.str [97]))),(1,1,(.c (.str [98])))]),oM 20 0,oM 21 6,oI 22 1 20 21,oL 23 22,oG 24 AX [(.t 23),(ci 2)],oI 25 1 19 24,oL 26 25,oB 27 .add 18 26,oM 5 27] none [0,1,5,6])) (.ops [oM 16 6,oJ 17 .add 16 1,oM 6 17] none [0,1,5,6])))))) (sq [oM 28 5,oM 4 28] [4] .ret))))
def bR:Fi:=⟨29,fR,[.tmp 4],(.seq .d (.seq .d (.seq (.seq .d (.loop [] [] [] .d)) .d))),⟨[(19,.str)],[]⟩,none⟩
theorem Sv:FC Tryz.prog DB bR:=Oh Tryz.func12
def bU:Ak:=(sq [oV 6 (.c .AM)] [0,1,2] (sq [gp 7 (.DU 8)] [0,1,2,7] (.seq (sq [oC 8 0] [0,1,2,7,8] (.block 0 (.loop [0,1,2] [7,8] 1 (.seq (sq [oM 12 8,oM 13 0,oN 14 13,oB 15 .lss 12 14,gb 16 (.C8 (.t 15)),gq 17 (.C8 (.t 8)) 16 true,gq 18 (.C8 (.t 1)) 16 true,gq 19 (.bin .none .lss (.t 17) (.t 18)) 16 true,gp 20 (.pick (.t 16) (.t 19) (.c (.bool false)))] [0,1,2,7,8,20] (.cond (.t 20) .skip (.exit 0))) (.seq (.block 1 (sq [oM 23 0,oM 24 8,oI 25 8 23 24,oA 26 8 25,gp 9 (.alloc 0 [(.int .i64 0),(.int .i64 0),(.int .i64 0),(.int .i64 0),.AM,(.int .i64 0),(.int .i64 0),.AM]),oS 8 9 26] [0,1,2,7,8,9] (sq [oF 27 1 9,oA 28 4 27,gp 29 (.A7 true 1 4 [(.int .i64 0),(.int .i64 0),(.int .i64 0),.AM] [(0,4,(.t 28))]),oM 30 2,oG 31 D4 [(.t 29),(ci 1),(.t 30)],gp 32 (.D_ 4 none (.t 31) (ci 0)),oA 33 4 32,gp 34 (.build [(.int .i64 0),(.int .i64 0),(.int .i64 0),(.int .i64 0),(.str []),(.int .i64 0),(.int .i64 0),(.str [])] [(0,1,(ci 1)),(1,4,(.t 33))]),gp 10 (.alloc 0 [(.int .i64 0),(.int .i64 0),(.int .i64 0),(.int .i64 0),(.str []),(.int .i64 0),(.int .i64 0),(.str [])]),oS 8 10 34] [0,1,2,7,8,9,10] (.join [0,1,2,7,8,10] [] 3 (sq [oF 35 0 9,oL 36 35,oG 37 AX [(.t 36),(ci 14)],oM 11 37] [0,1,2,7,8,9,10,11] (.block 2 (sq [oM 39 11,oJ 40 .gtr 39 9,oM 38 40] [0,1,2,7,8,9,10,11,38] (.cond (.t 38) (.ops [oF 41 5 9,oL 42 41,oF 44 6 9,oL 45 44,oG 43 AX [(.t 42),(ci 2)],oG 46 AX [(.t 45),(ci 20)],gp 47 (.bin .none .add (ci 1) (.t 46)),gp 48 (.build [(.int .i64 0),(.int .i64 0),(.int .i64 0),(.int .i64 0),(.str []),(.int .i64 0),(.int .i64 0),(.str [])] [(0,1,(ci 2)),(5,1,(.t 43)),(6,1,(.t 47))]),oS 8 10 48] (some (5,0,[0,1,3,4,2,5,6,7,8])) [0,1,2,7,8,10]) (sq [oM 50 11,oJ 51 .eql 50 9,oM 49 51] [0,1,2,7,8,9,10,11,49] (.cond (.t 49) (.ops [oF 52 5 9,oL 53 52,oM 54 2,oJ 55 .add 54 2,oG 56 AX [(.t 53),(.t 55)],gp 57 (.build [(.int .i64 0),(.int .i64 0),(.int .i64 0),(.int .i64 0),(.str []),(.int .i64 0),(.int .i64 0),(.str [])] [(0,1,(ci 3)),(5,1,(.t 56))]),oS 8 10 57] none [0,1,2,7,8,10]) (sq [oM 59 11,oJ 60 .eql 59 8,oM 58 60] [0,1,2,7,8,9,10,11,58] (.cond (.t 58) (.ops [oF 61 7 9,oL 62 61,oG 63 DB [(.t 62),(ci 3)],gp 64 (.build [(.int .i64 0),(.int .i64 0),(.int .i64 0),(.int .i64 0),(.str []),(.int .i64 0),(.int .i64 0),(.str [])] [(0,1,(ci 4)),(7,1,(.t 63))]),oS 8 10 64] none [0,1,2,7,8,10]) (sq [oM 66 11,oJ 67 .eql 66 7,oM 65 67] [0,1,2,7,8,9,10,11,65] (.cond (.t 65) (.ops [oF 68 5 9,oL 69 68,oG 70 AX [(.t 69),(ci 6)],gp 71 (.build [(.int .i64 0),(.int .i64 0),(.int .i64 0),(.int .i64 0),(.str []),(.int .i64 0),(.int .i64 0),(.str [])] [(0,1,(ci 5)),(5,1,(.t 70))]),oS 8 10 71] none [0,1,2,7,8,10]) (sq [oM 73 11,oJ 74 .eql 73 6,oM 72 74] [0,1,2,7,8,9,10,11,72] (.cond (.t 72) (.ops [gp 75 (.build [(.int .i64 0),(.int .i64 0),(.int .i64 0),(.int .i64 0),(.str []),(.int .i64 0),(.int .i64 0),(.str [])] [(0,1,(ci 6))]),oS 8 10 75] none [0,1,2,7,8,10]) (sq [oM 77 11,oJ 78 .eql 77 5,oM 76 78] [0,1,2,7,8,9,10,11,76] (.cond (.t 76) (.ops [oF 79 5 9,oL 80 79,oG 81 AX [(.t 80),(ci 4)],gp 82 (.build [(.int .i64 0),(.int .i64 0),(.int .i64 0),(.int .i64 0),(.str []),(.int .i64 0),(.int .i64 0),(.str [])] [(0,1,(ci 8)),(5,1,(.t 81))]),oS 8 10 82] none [0,1,2,7,8,10]) (sq [oM 84 11,oJ 85 .eql 84 4,oM 83 85] [0,1,2,7,8,9,10,83] (.cond (.t 83) (.ops [oF 86 5 9,oL 87 86,oG 88 AX [(.t 87),(ci 4)],gp 89 (.build [(.int .i64 0),(.int .i64 0),(.int .i64 0),(.int .i64 0),(.str []),(.int .i64 0),(.int .i64 0),(.str [])] [(0,1,(ci 7)),(5,1,(.t 88))]),oS 8 10 89] none [0,1,2,7,8,10]) .skip)))))))))))))))) (.ops [oM 90 7,oA 91 8 10,gp 92 (.A7 true 1 8 [(.int .i64 0),(.int .i64 0),(.int .i64 0),(.int .i64 0),(.str []),(.int .i64 0),(.int .i64 0),(.str [])] [(0,8,(.t 91))]),oP 93 8 80 90 92,oM 7 93] none [0,1,2,7,8]))))) (.ops [oM 21 8,oJ 22 .add 21 1,oM 8 22] none [0,1,2,7,8])))))) (sq [oM 94 7,oM 6 94] [6] .ret))))
def Yy:Fi:=⟨95,bU,[.tmp 6],(.seq .d (.seq .d (.seq (.seq .d (.loop [7] [] [] .d)) .d))),⟨[(7,(.st (.cons (.int .i64) (.cons (.st (.cons (.int .i64) (.cons (.st (.cons (.int .i64) (.cons (.int .i64) (.cons .str .nil)))) .nil))) (.cons (.int .i64) (.cons (.int .i64) (.cons .str .nil))))))),(29,(.st (.cons (.int .i64) (.cons (.st (.cons (.int .i64) (.cons (.int .i64) (.cons (.sl (.int .i64)) .nil)))) .nil)))),(92,(.st (.cons (.int .i64) (.cons (.st (.cons (.int .i64) (.cons (.st (.cons (.int .i64) (.cons (.int .i64) (.cons .str .nil)))) .nil))) (.cons (.int .i64) (.cons (.int .i64) (.cons .str .nil))))))),(93,(.st (.cons (.int .i64) (.cons (.st (.cons (.int .i64) (.cons (.st (.cons (.int .i64) (.cons (.int .i64) (.cons .str .nil)))) .nil))) (.cons (.int .i64) (.cons (.int .i64) (.cons .str .nil))))))),(9,(.st (.cons (.int .i64) (.cons (.st (.cons (.int .i64) (.cons (.st (.cons (.int .i64) (.cons (.int .i64) (.cons (.sl (.int .i64)) .nil)))) .nil))) (.cons (.int .i64) (.cons (.int .i64) (.cons (.sl (.int .i64)) .nil))))))),(10,(.st (.cons (.int .i64) (.cons (.st (.cons (.int .i64) (.cons (.st (.cons (.int .i64) (.cons (.int .i64) (.cons .str .nil)))) .nil))) (.cons (.int .i64) (.cons (.int .i64) (.cons .str .nil)))))))],[]⟩,none⟩
theorem Qi:FC Tryz.prog Dg Yy:=Oh Tryz.func10
def YZ:Ak:=(sq [gp 3 (.box 0 (.t 1)),oC 4 0] [0,3] (.seq (.block 0 (sq [oM 6 0,oJ 7 .lss 6 0,gb 8 (.C8 (.t 7)),gq 9 (.C8 (.t 0)) 8 false,gq 10 (.bin .none .gtr (.t 9) (ci 600)) 8 false,gp 11 (.pick (.t 8) (.c (.bool true)) (.t 10)),gb 12 (.C8 (.t 11)),gq 13 (.DJ 0 (.t 3)) 12 false,gq 14 (.load 1 false (.t 13)) 12 false,gq 15 (.bin .none .lss (.t 14) (ci 0)) 12 false,gp 16 (.pick (.t 12) (.c (.bool true)) (.t 15)),gb 17 (.C8 (.t 16)),gq 18 (.DJ 0 (.t 3)) 17 false,gq 19 (.load 1 false (.t 18)) 17 false,gq 20 (.C8 (.t 0)) 17 false,gq 21 (.bin .none .gtr (.t 19) (.t 20)) 17 false,gp 22 (.pick (.t 17) (.c (.bool true)) (.t 21)),gb 23 (.C8 (.t 22)),gq 24 (.DJ 1 (.t 3)) 23 false,gq 25 (.load 1 false (.t 24)) 23 false,gq 26 (.bin .none .lss (.t 25) (ci 0)) 23 false,gp 27 (.pick (.t 23) (.c (.bool true)) (.t 26)),gb 28 (.C8 (.t 27)),gq 29 (.DJ 1 (.t 3)) 28 false,gq 30 (.load 1 false (.t 29)) 28 false,gq 31 (.C8 (.t 0)) 28 false,gq 32 (.DJ 0 (.t 3)) 28 false,gq 33 (.load 1 false (.t 32)) 28 false,gq 34 (.bin .none .sub (.t 31) (.t 33)) 28 false,gq 35 (.bin .none .gtr (.t 30) (.t 34)) 28 false,gp 36 (.pick (.t 28) (.c (.bool true)) (.t 35)),oM 5 36] [0,3,5] (.cond (.t 5) (sq [oC 4 2] [4] .ret) (sq [oM 38 0,oF 39 1 3,oL 40 39,oB 41 .sub 38 40,oF 42 2 3,oL 43 42,oT 44 43,oB 45 .add 41 44,oJ 46 .gtr 45 600,oM 37 46] [37] (.cond (.t 37) (sq [oC 4 1] [4] .ret) .skip))))) (sq [oC 4 0] [4] .ret)))
def WB:Fi:=⟨47,YZ,[.tmp 4],.d,⟨[(3,(.st (.cons (.int .i64) (.cons (.int .i64) (.cons .str .nil)))))],[]⟩,none⟩
theorem Ou:FC Tryz.prog Ba WB:=Oh Tryz.func86
def ae:Ak:=(sq [gp 3 (.box 0 (.t 1)),oV 4 (.c (.str []))] [0,3] (.seq (.ops [oM 5 0,oF 6 0 3,oL 7 6,gp 8 (.slice 0 (.t 5) none (some (.t 7))),oF 9 2 3,oL 10 9,oB 11 .add 8 10,oM 12 0,oF 13 0 3,oL 14 13,oF 15 1 3,oL 16 15,oB 17 .add 14 16,gp 18 (.slice 0 (.t 12) (some (.t 17)) none),oB 19 .add 11 18,oM 4 19] (some (0,0,[0,1,2,3,4,5,6,7,8,9,10,11,12,13,14,15])) [4]) .ret))
def Ya:Fi:=⟨20,ae,[.tmp 4],.d,⟨[(3,(.st (.cons (.int .i64) (.cons (.int .i64) (.cons .str .nil)))))],[]⟩,none⟩
theorem QM:FC Tryz.prog BA Ya:=Oh Tryz.func74
def af:Ak:=(sq [gp 3 (.box 0 (.t 1)),gp 4 (.alloc 0 [(.int .i64 0),(.int .i64 0),(.str [])])] [0,3,4] (.seq (.ops [oF 5 0 3,oL 6 5,oF 7 2 3,oL 8 7,oT 9 8,oM 10 0,oF 11 0 3,oL 12 11,oF 13 0 3,oL 14 13,oF 15 1 3,oL 16 15,oB 17 .add 14 16,gp 18 (.slice 0 (.t 10) (some (.t 12)) (some (.t 17))),gp 19 (.build [(.int .i64 0),(.int .i64 0),(.str [])] [(0,1,(.t 6)),(1,1,(.t 9)),(2,1,(.t 18))]),oS 3 4 19] (some (0,0,[0,1,2,3,4,5,6,7,8,9,10,11,12,13,14,15])) [4]) .ret))
def Yd:Fi:=⟨20,af,[.cell 4 3 true],.d,⟨[(3,(.st (.cons (.int .i64) (.cons (.int .i64) (.cons .str .nil))))),(4,(.st (.cons (.int .i64) (.cons (.int .i64) (.cons .str .nil)))))],[]⟩,none⟩
theorem QN:FC Tryz.prog Br Yd:=Oh Tryz.func87
def Zp:Ak:=(sq [oV 2 (.c (.bool false))] [0] (sq [oM 3 0,gp 4 (.bin .none .geq (.t 3) (.c (.int .u8 97))),gb 5 (.C8 (.t 4)),gq 6 (.C8 (.t 0)) 5 true,gq 7 (.bin .none .leq (.t 6) (.c (.int .u8 122))) 5 true,gp 8 (.pick (.t 5) (.t 7) (.c (.bool false))),gb 9 (.C8 (.t 8)),gq 10 (.C8 (.t 0)) 9 false,gq 11 (.bin .none .geq (.t 10) (.c (.int .u8 65))) 9 false,⟨(some 12),.C8 (.t 11),(some (9,false)),true,[]⟩,gq 13 (.C8 (.t 0)) 12 true,gq 14 (.bin .none .leq (.t 13) (.c (.int .u8 90))) 12 true,gq 15 (.pick (.t 12) (.t 14) (.c (.bool false))) 9 false,gp 16 (.pick (.t 9) (.c (.bool true)) (.t 15)),gb 17 (.C8 (.t 16)),gq 18 (.C8 (.t 0)) 17 false,gq 19 (.bin .none .geq (.t 18) (.c (.int .u8 48))) 17 false,⟨(some 20),.C8 (.t 19),(some (17,false)),true,[]⟩,gq 21 (.C8 (.t 0)) 20 true,gq 22 (.bin .none .leq (.t 21) (.c (.int .u8 57))) 20 true,gq 23 (.pick (.t 20) (.t 22) (.c (.bool false))) 17 false,gp 24 (.pick (.t 17) (.c (.bool true)) (.t 23)),oM 2 24] [2] .ret))
def Wn:Fi:=⟨25,Zp,[.tmp 2],.d,⟨[],[]⟩,none⟩
theorem PL:FC Tryz.prog A6 Wn:=Oh Tryz.func83
def V4:Ak:=(sq [oC 6 0,oC 7 0] [0,1,2] (.seq (.block 0 (.loop [0,2] [1] 0 (.seq (sq [oM 8 1,oJ 9 .gtr 8 0,gb 10 (.C8 (.t 9)),gq 11 (.C8 (.t 0)) 10 true,gq 12 (.C8 (.t 1)) 10 true,gq 13 (.bin .none .sub (.t 12) (ci 1)) 10 true,gq 14 (.index 1 none false (.t 11) (.t 13)) 10 true,gq 15 (.call A6 [(.t 14)]) 10 true,gp 16 (.pick (.t 10) (.t 15) (.c (.bool false)))] [0,1,2,16] (.cond (.t 16) .skip (.exit 0))) (.block 1 (.ops [oM 17 1,oJ 18 .sub 17 1,oM 1 18] none [0,1,2]))))) (.seq (.block 2 (.loop [0,1] [2] 0 (.seq (sq [oM 19 2,oM 20 0,oT 21 20,oB 22 .lss 19 21,gb 23 (.C8 (.t 22)),gq 24 (.C8 (.t 0)) 23 true,gq 25 (.C8 (.t 2)) 23 true,gq 26 (.index 1 none false (.t 24) (.t 25)) 23 true,gq 27 (.call A6 [(.t 26)]) 23 true,gp 28 (.pick (.t 23) (.t 27) (.c (.bool false)))] [0,1,2,28] (.cond (.t 28) .skip (.exit 2))) (.block 3 (.ops [oM 29 2,oJ 30 .add 29 1,oM 2 30] none [0,1,2]))))) (sq [oM 31 1,oM 32 2,oM 6 31,oM 7 32] [6,7] .ret))))
def Tv:Fi:=⟨33,V4,[.tmp 6,.tmp 7],(.seq .d (.seq (.loop [] [] [] .d) (.seq (.loop [] [] [] .d) .d))),⟨[],[]⟩,none⟩
theorem My:FC Tryz.prog BG Tv:=Oh Tryz.func68
def Gr:Ak:=(sq [oV 2 (.c .AM)] [0] (.seq (sq [oM 3 0,gp 4 (.GO false (.t 3))] [0,4] (.cond (.t 4) (sq [oV 2 (.c .AM)] [2] .ret) .skip)) (sq [gp 5 (.A7 false 0 2 [] []),oM 6 0,oP 7 2 16 5 6,oM 2 7] [2] .ret)))
def GW:Fi:=⟨8,Gr,[.tmp 2],.d,⟨[(5,(.st (.cons (.int .i64) (.cons (.int .i64) .nil)))),(7,(.st (.cons (.int .i64) (.cons (.int .i64) .nil))))],[]⟩,none⟩
theorem Dz:FC Tryz.prog Af GW:=Oh Tryz.func47
def Tn:Ak:=(sq [gp 3 (.box 0 (.t 1)),oV 4 (.c .AM)] [0,3] (sq [gp 5 (.DU 2)] [0,3,5] (.seq (sq [oM 8 0,oN 9 8,oC 10 0] [0,3,5,8,9,10] (.block 0 (.loop [0,3,8,9] [5,10] 2 (sq [oB 11 .lss 10 9] [0,3,5,8,9,10,11] (.seq (.cond (.t 11) .skip (.exit 0)) (.seq (.block 1 (sq [oI 12 2 8 10,oA 13 2 12,gp 7 (.alloc 0 [(.int .i64 0),(.int .i64 0)]),oS 2 7 13] [0,3,5,7,8,9,10] (.ops [oM 14 5,oF 15 0 7,oL 16 15,oF 17 1 7,oL 18 17,oF 19 0 7,oL 20 19,oF 21 0 3,oL 22 21,gp 23 (.max [(.t 20),(.t 22)]),gp 24 (.min [(.t 18),(.t 23)]),gp 25 (.build [(.int .i64 0),(.int .i64 0)] [(0,1,(.t 16)),(1,1,(.t 24))]),oF 26 0 7,oL 27 26,oF 28 1 7,oL 29 28,oF 30 1 3,oL 31 30,gp 32 (.min [(.t 29),(.t 31)]),gp 33 (.max [(.t 27),(.t 32)]),oF 34 1 7,oL 35 34,gp 36 (.build [(.int .i64 0),(.int .i64 0)] [(0,1,(.t 33)),(1,1,(.t 35))]),gp 37 (.A7 true 2 2 [(.int .i64 0),(.int .i64 0),(.int .i64 0),(.int .i64 0)] [(0,2,(.t 25)),(2,2,(.t 36))]),oP 38 2 16 14 37,oM 5 38] none [0,3,5,8,9,10]))) (.ops [oJ 39 .add 10 1,oM 10 39] none [0,3,5,8,9,10]))))))) (.seq (sq [oF 40 0 3,oL 41 40,oF 42 1 3,oL 43 42,oB 44 .eql 41 43] [0,5,44] (.cond (.t 44) (sq [oM 45 0,oG 46 Af [(.t 45)],oM 4 46] [4] .ret) .skip)) (sq [oM 47 5,oG 48 Aq [(.t 47),(.c (.fn (.func Ds) [] []))],oM 4 48] [4] .ret)))))
def SH:Fi:=⟨49,Tn,[.tmp 4],(.seq .d (.seq .d (.seq (.seq .d (.loop [5] [] [] .d)) .d))),⟨[(5,(.st (.cons (.int .i64) (.cons (.int .i64) .nil)))),(37,(.st (.cons (.int .i64) (.cons (.int .i64) .nil)))),(38,(.st (.cons (.int .i64) (.cons (.int .i64) .nil)))),(3,(.st (.cons (.int .i64) (.cons (.int .i64) .nil)))),(7,(.st (.cons (.int .i64) (.cons (.int .i64) .nil))))],[]⟩,none⟩
theorem Ll:FC Tryz.prog Ax SH:=Oh Tryz.func75
def Vq:Ak:=(sq [oV 2 (.c .AM)] [0] (sq [gp 3 (.DU 2)] [0,3] (.seq (sq [oM 7 0,oN 8 7,oC 9 0] [3,7,8,9] (.block 0 (.loop [7,8] [3,9] 1 (sq [oB 10 .lss 9 8] [3,7,8,9,10] (.seq (.cond (.t 10) .skip (.exit 0)) (.join [7,8,9] [3] 2 (.block 1 (sq [oI 11 2 7 9,oA 12 2 11,gp 5 (.alloc 0 [(.int .i64 0),(.int .i64 0)]),oS 2 5 12] [3,5,7,8,9] (sq [oM 13 3,oN 14 13,oM 6 14] [3,5,6,7,8,9] (.block 2 (sq [oF 20 0 5,oL 21 20,oF 22 1 5,oL 23 22,oB 24 .eql 21 23,oM 19 24] [3,5,6,7,8,9,19] (.cond (.t 19) .skip (.seq (.ops [oM 26 6,oJ 27 .gtr 26 0,gb 28 (.C8 (.t 27)),gq 29 (.C8 (.t 3)) 28 true,gq 30 (.C8 (.t 6)) 28 true,gq 31 (.bin .none .sub (.t 30) (ci 1)) 28 true,gq 32 (.D_ 2 none (.t 29) (.t 31)) 28 true,gq 33 (.DJ 1 (.t 32)) 28 true,gq 34 (.load 1 false (.t 33)) 28 true,gq 35 (.DJ 0 (.t 5)) 28 true,gq 36 (.load 1 false (.t 35)) 28 true,gq 37 (.bin .none .geq (.t 34) (.t 36)) 28 true,gp 38 (.pick (.t 28) (.t 37) (.c (.bool false))),oM 25 38] (some (0,0,[0,1,2,3,4,5,6,7,8,9,10,11,12,13])) [3,5,6,7,8,9,25]) (.cond (.t 25) (.ops [oM 39 3,oM 40 6,oJ 41 .sub 40 1,oM 42 3,oM 43 6,oJ 44 .sub 43 1,oI 45 2 42 44,oF 46 1 45,oL 47 46,oF 48 1 5,oL 49 48,gp 50 (.max [(.t 47),(.t 49)]),oI 51 2 39 41,oF 52 1 51,oS 1 52 50] (some (0,0,[0,1,2,3,4,5,6,7,8,9,10,11,12,13,14])) [3,7,8,9]) (.ops [oM 15 3,oA 16 2 5,gp 17 (.A7 true 1 2 [(.int .i64 0),(.int .i64 0)] [(0,2,(.t 16))]),oP 18 2 16 15 17,oM 3 18] none [3,7,8,9]))))))))) (.ops [oJ 53 .add 9 1,oM 9 53] none [3,7,8,9]))))))) (sq [oM 54 3,oM 2 54] [2] .ret))))
def Tj:Fi:=⟨55,Vq,[.tmp 2],(.seq .d (.seq .d (.seq (.seq .d (.loop [3] [] [] .d)) .d))),⟨[(3,(.st (.cons (.int .i64) (.cons (.int .i64) .nil)))),(17,(.st (.cons (.int .i64) (.cons (.int .i64) .nil)))),(18,(.st (.cons (.int .i64) (.cons (.int .i64) .nil)))),(5,(.st (.cons (.int .i64) (.cons (.int .i64) .nil))))],[]⟩,none⟩
theorem Mv:FC Tryz.prog DC Tj:=Oh Tryz.func45
def Tm:Ak:=(sq [gp 3 (.box 0 (.t 1)),oV 4 (.c .AM)] [0,3] (sq [gp 5 (.DU 2)] [0,3,5] (.seq (sq [oM 9 0,oF 10 0 3,oL 11 10,oF 12 0 3,oL 13 12,oF 14 1 3,oL 15 14,oB 16 .add 13 15,gp 17 (.build [(.int .i64 0),(.int .i64 0)] [(0,1,(.t 11)),(1,1,(.t 16))]),oG 18 Ax [(.t 9),(.t 17)],oN 19 18,oC 20 0] [3,5,18,19,20] (.block 0 (.loop [3,18,19] [5,20] 2 (sq [oB 21 .lss 20 19] [3,5,18,19,20,21] (.seq (.cond (.t 21) .skip (.exit 0)) (.seq (.block 1 (sq [oI 22 2 18 20,oA 23 2 22,gp 7 (.alloc 0 [(.int .i64 0),(.int .i64 0)]),oS 2 7 23] [3,5,7,18,19,20] (.join [3,7,18,19,20] [5] 3 (sq [oF 24 0 7,oL 25 24,oF 26 0 3,oL 27 26,oB 28 .lss 25 27,gb 29 (.C8 (.t 28)),gq 30 (.DJ 1 (.t 7)) 29 true,gq 31 (.load 1 false (.t 30)) 29 true,gq 32 (.DJ 0 (.t 3)) 29 true,gq 33 (.load 1 false (.t 32)) 29 true,gq 34 (.bin .none .gtr (.t 31) (.t 33)) 29 true,gp 35 (.pick (.t 29) (.t 34) (.c (.bool false)))] [3,5,7,18,19,20,35] (.cond (.t 35) (sq [oM 36 5,oF 37 0 7,oL 38 37,oF 39 0 3,oL 40 39,gp 41 (.build [(.int .i64 0),(.int .i64 0)] [(0,1,(.t 38)),(1,1,(.t 40))]),gp 42 (.A7 true 1 2 [(.int .i64 0),(.int .i64 0)] [(0,2,(.t 41))]),oP 43 2 16 36 42,oM 5 43] [3,5,7,18,19,20] (.ops [oF 44 0 3,oL 45 44,oF 46 0 7,oS 1 46 45] none [3,5,7,18,19,20])) .skip)) (.join [3,5,7,18,19,20] [] 3 (sq [oF 47 0 7,oL 48 47,oF 49 0 3,oL 50 49,oB 51 .geq 48 50] [3,5,7,18,19,20,51] (.cond (.t 51) (sq [oF 52 2 3,oL 53 52,oT 54 53,oF 55 1 3,oL 56 55,oB 57 .sub 54 56,oM 8 57] [3,5,7,8,18,19,20] (.ops [oF 58 0 7,oL 59 58,oM 60 8,oB 61 .add 59 60,oF 62 1 7,oL 63 62,oM 64 8,oB 65 .add 63 64,gp 66 (.build [(.int .i64 0),(.int .i64 0)] [(0,1,(.t 61)),(1,1,(.t 65))]),oS 2 7 66] none [3,5,7,18,19,20])) .skip)) (.ops [oM 67 5,oA 68 2 7,gp 69 (.A7 true 1 2 [(.int .i64 0),(.int .i64 0)] [(0,2,(.t 68))]),oP 70 2 16 67 69,oM 5 70] none [3,5,18,19,20]))))) (.ops [oJ 71 .add 20 1,oM 20 71] none [3,5,18,19,20]))))))) (.seq (.ops [oM 72 5,oF 74 0 3,oL 75 74,oF 76 0 3,oL 77 76,oF 78 2 3,oL 79 78,oT 80 79,oB 81 .add 77 80,gp 82 (.build [(.int .i64 0),(.int .i64 0)] [(0,1,(.t 75)),(1,1,(.t 81))]),⟨(some 73),.call DC [(.t 72)],none,false,[(75,1,false,(.t 74)),(77,1,false,(.t 76)),(79,1,false,(.t 78))]⟩,gn (.again 75 1 false (.t 74)),gn (.again 77 1 false (.t 76)),gn (.again 79 1 false (.t 78)),oG 83 Bi [(.t 73),(.t 82)],oM 4 83] (some (0,0,[0,2,3,4,5,6,7,8,9,10,1,11,12])) [4]) .ret))))
def SE:Fi:=⟨84,Tm,[.tmp 4],(.seq .d (.seq .d (.seq (.seq .d (.loop [5] [] [] .d)) .d))),⟨[(5,(.st (.cons (.int .i64) (.cons (.int .i64) .nil)))),(42,(.st (.cons (.int .i64) (.cons (.int .i64) .nil)))),(43,(.st (.cons (.int .i64) (.cons (.int .i64) .nil)))),(69,(.st (.cons (.int .i64) (.cons (.int .i64) .nil)))),(70,(.st (.cons (.int .i64) (.cons (.int .i64) .nil)))),(3,(.st (.cons (.int .i64) (.cons (.int .i64) (.cons .str .nil))))),(7,(.st (.cons (.int .i64) (.cons (.int .i64) .nil))))],[]⟩,none⟩
theorem Lk:FC Tryz.prog BV SE:=Oh Tryz.func70
def bp:Ak:=(sq [oV 2 (.c (.bool false))] [0] (.seq (sq [oM 5 0,oN 6 5,oC 7 0] [0,5,6,7] (.block 0 (.loop [0,5,6] [7] 0 (sq [oB 8 .lss 7 6] [0,5,6,7,8] (.seq (.cond (.t 8) .skip (.exit 0)) (.seq (.block 1 (sq [oM 9 7,oI 10 1 5 7,oL 11 10,oM 3 9,oM 4 11] [0,3,4,5,6,7] (sq [oM 12 3,oJ 13 .gtr 12 0,gb 14 (.C8 (.t 13)),gq 15 (.C8 (.t 4)) 14 true,gq 16 (.C8 (.t 0)) 14 true,gq 17 (.C8 (.t 3)) 14 true,gq 18 (.bin .none .sub (.t 17) (ci 1)) 14 true,gq 19 (.D_ 1 none (.t 16) (.t 18)) 14 true,gq 20 (.load 1 false (.t 19)) 14 true,gq 21 (.bin .none .leq (.t 15) (.t 20)) 14 true,gp 22 (.pick (.t 14) (.t 21) (.c (.bool false)))] [0,5,6,7,22] (.cond (.t 22) (sq [oV 2 (.c (.bool false))] [2] .ret) .skip)))) (.ops [oJ 23 .add 7 1,oM 7 23] none [0,5,6,7]))))))) (sq [oM 24 0,oN 25 24,oJ 26 .gtr 25 0,gb 27 (.C8 (.t 26)),gq 28 (.C8 (.t 0)) 27 true,gq 29 (.D_ 1 none (.t 28) (ci 0)) 27 true,gq 30 (.load 1 false (.t 29)) 27 true,gq 31 (.bin .none .eql (.t 30) (ci 0)) 27 true,gp 32 (.pick (.t 27) (.t 31) (.c (.bool false))),gb 33 (.C8 (.t 32)),gq 34 (.C8 (.t 0)) 33 true,gq 35 (.C8 (.t 0)) 33 true,gq 36 (.len false (.t 35)) 33 true,gq 37 (.bin .none .sub (.t 36) (ci 1)) 33 true,gq 38 (.D_ 1 none (.t 34) (.t 37)) 33 true,gq 39 (.load 1 false (.t 38)) 33 true,gq 40 (.bin .none .leq (.t 39) (ci 600)) 33 true,gp 41 (.pick (.t 33) (.t 40) (.c (.bool false))),oM 2 41] [2] .ret)))
def Y7:Fi:=⟨42,bp,[.tmp 2],(.seq .d (.seq (.seq .d (.loop [] [] [] .d)) .d)),⟨[],[]⟩,none⟩
theorem Ql:FC Tryz.prog Ed Y7:=Oh Tryz.func80
def Y5:Ak:=(sq [gp 2 (.box 0 (.t 0)),gp 3 (.box 0 (.t 1)),oC 4 0,oC 5 0] [2,3] (.seq (.block 0 (sq [oL 7 2,oG 8 Ed [(.t 7)],gp 9 (.not (.t 8)),oM 6 9] [2,3,6] (.cond (.t 6) (sq [oC 4 0,oC 5 4] [4,5] .ret) (sq [oL 11 3,oJ 12 .lss 11 0,oM 10 12] [2,3,10] (.cond (.t 10) (sq [oC 4 0,oC 5 2] [4,5] .ret) .skip))))) (sq [oL 13 2,oN 14 13,gp 15 (.GV (.func Ev) [] [(.t 2),(.t 3)]),oG 16 D7 [(.t 14),(.t 15)],oJ 17 .sub 16 1,oM 4 17,oC 5 0] [4,5] .ret)))
def WV:Fi:=⟨18,Y5,[.tmp 4,.tmp 5],.d,⟨[(2,(.sl (.int .i64)))],[]⟩,none⟩
theorem O9:FC Tryz.prog Bh WV:=Oh Tryz.func51
def pF:Ak:=(sq [gp 2 (.alloc 0 [(.int .i64 0),(.int .i64 0),(.int .i64 0)])] [0,2] (sq [oM 3 0,oT 4 3,oM 5 0,oG 6 EX [(.t 5),(.c (.str [10]))],oM 7 0,oT 8 7,oM 9 0,oG 10 CX [(.t 9),(.c (.int .u8 10))],oB 11 .sub 8 10,oJ 12 .sub 11 1,gp 13 (.build [(.int .i64 0),(.int .i64 0),(.int .i64 0)] [(0,1,(.t 4)),(1,1,(.t 6)),(2,1,(.t 12))]),oS 3 2 13] [2] .ret))
def lW:Fi:=⟨14,pF,[.cell 2 3 true],.d,⟨[(2,(.st (.cons (.int .i64) (.cons (.int .i64) (.cons (.int .i64) .nil)))))],[]⟩,none⟩
theorem Xj:FC Tryz.prog Ee lW:=Oh Tryz.func71
def RB:Ak:=(sq [gp 2 (.box 0 (.t 0)),gp 3 (.box 0 (.t 1)),oC 4 0] [2,3] (sq [oL 5 2,oN 6 5,gp 7 (.GV (.func DF) [] [(.t 2),(.t 3)]),oG 8 D7 [(.t 6),(.t 7)],oM 4 8] [4] .ret))
def Pn:Fi:=⟨9,RB,[.tmp 4],.d,⟨[(2,(.sl (.int .i64)))],[]⟩,none⟩
theorem KB:FC Tryz.prog B1 Pn:=Oh Tryz.func95
def Tg:Ak:=(sq [gp 3 (.box 0 (.t 1)),oV 4 (.c .AM)] [0,3] (sq [oM 11 0,oF 12 0 3,oL 13 12,oJ 14 .add 13 1,oG 15 B1 [(.t 11),(.t 14)],oM 5 15] [0,3,5] (sq [oM 16 0,oF 17 0 3,oL 18 17,oF 19 1 3,oL 20 19,oB 21 .add 18 20,oJ 22 .add 21 1,oG 23 B1 [(.t 16),(.t 22)],oM 6 23] [0,3,5,6] (sq [oM 24 0,oM 25 5,gp 26 (.slice 1 (.t 24) none (some (.t 25))),gp 27 (.append 1 8 (.c .AM) (.t 26)),oM 7 27] [0,3,6,7] (.seq (sq [oF 28 2 3,oL 29 28,oT 30 29,oC 31 0] [0,3,6,7,30,31] (.block 0 (.loop [0,3,6,30] [7,31] 2 (sq [oB 32 .lss 31 30] [0,3,6,7,30,31,32] (.seq (.cond (.t 32) .skip (.exit 0)) (.join [0,3,6,30,31] [7] 2 (.block 1 (sq [oM 33 31,oM 8 33] [0,3,6,7,8,30,31] (sq [oF 34 2 3,oL 35 34,oM 36 8,gp 37 (.index 1 none false (.t 35) (.t 36)),gp 38 (.bin .none .eql (.t 37) (.c (.int .u8 10)))] [0,3,6,7,8,30,31,38] (.cond (.t 38) (.ops [oM 39 7,oF 40 0 3,oL 41 40,oM 42 8,oB 43 .add 41 42,oJ 44 .add 43 1,gp 45 (.A7 true 1 1 [(.int .i64 0)] [(0,1,(.t 44))]),oP 46 1 8 39 45,oM 7 46] none [0,3,6,7,30,31]) .skip)))) (.ops [oJ 47 .add 31 1,oM 31 47] none [0,3,6,7,30,31]))))))) (.seq (sq [oM 48 0,oM 49 6,gp 50 (.slice 1 (.t 48) (some (.t 49)) none),oN 51 50,oC 52 0] [3,7,50,51,52] (.block 2 (.loop [3,50,51] [7,52] 2 (sq [oB 53 .lss 52 51] [3,7,50,51,52,53] (.seq (.cond (.t 53) .skip (.exit 2)) (.seq (.block 3 (sq [oI 54 1 50 52,oL 55 54,oM 10 55] [3,7,10,50,51,52] (.ops [oM 56 7,oM 57 10,oF 58 2 3,oL 59 58,oT 60 59,oB 61 .add 57 60,oF 62 1 3,oL 63 62,oB 64 .sub 61 63,gp 65 (.A7 true 1 1 [(.int .i64 0)] [(0,1,(.t 64))]),oP 66 1 8 56 65,oM 7 66] none [3,7,50,51,52]))) (.ops [oJ 67 .add 52 1,oM 52 67] none [3,7,50,51,52]))))))) (sq [oM 68 7,oM 4 68] [4] .ret)))))))
def Rt:Fi:=⟨69,Tg,[.tmp 4],(.seq .d (.seq .d (.seq .d (.seq .d (.seq (.seq .d (.loop [7] [] [] .d)) (.seq (.seq .d (.loop [7] [] [] .d)) .d)))))),⟨[(27,(.int .i64)),(45,(.int .i64)),(46,(.int .i64)),(65,(.int .i64)),(66,(.int .i64)),(3,(.st (.cons (.int .i64) (.cons (.int .i64) (.cons .str .nil)))))],[]⟩,none⟩
theorem LV:FC Tryz.prog BK Rt:=Oh Tryz.func73
def lV:Ak:=(sq [gp 2 (.alloc 0 [(.int .i64 0),(.int .i64 0)])] [0,2] (sq [gp 5 (.build [(.int .i64 0),(.int .i64 0)] [(1,1,(ci 1))]),gp 3 (.alloc 0 [(.int .i64 0),(.int .i64 0)]),oS 2 3 5] [0,2,3] (.seq (sq [oM 6 0,oT 7 6,oC 8 0] [0,2,3,7,8] (.block 0 (.loop [0,2,3,7] [8] 2 (sq [oB 9 .lss 8 7] [0,2,3,7,8,9] (.seq (.cond (.t 9) .skip (.exit 0)) (.seq (.block 1 (sq [oM 10 8,oM 4 10] [0,2,3,4,7,8] (.seq (.ops [oF 11 0 3,oL 12 11,oJ 13 .mul 12 257,oM 14 0,oM 15 4,gp 16 (.index 1 none false (.t 14) (.t 15)),gp 17 (.conv .i64 (.t 16)),oB 18 .add 13 17,oJ 19 .add 18 1,oJ 20 .rem 19 2147483647,oF 21 0 3,oS 1 21 20] (some (0,0,[0,1,2,3,4,5,6,7,8,9,10,11])) [0,2,3,7,8]) (.ops [oF 22 1 3,oL 23 22,oJ 24 .mul 23 257,oJ 25 .rem 24 2147483647,oF 26 1 3,oS 1 26 25] none [0,2,3,7,8])))) (.ops [oJ 27 .add 8 1,oM 8 27] none [0,2,3,7,8]))))))) (sq [oA 28 2 3,oS 2 2 28] [2] .ret))))
def gF:Fi:=⟨29,lV,[.cell 2 2 true],(.seq .d (.seq .d (.seq (.seq .d (.loop [3] [] [] .d)) .d))),⟨[(2,(.st (.cons (.int .i64) (.cons (.int .i64) .nil)))),(3,(.st (.cons (.int .i64) (.cons (.int .i64) .nil))))],[]⟩,none⟩
theorem VU:FC Tryz.prog DE gF:=Oh Tryz.func57
def Wm:Ak:=(sq [oV 2 (.c (.bool false))] [0] (.seq (sq [oM 4 0,oT 5 4,oC 6 0] [0,5,6] (.block 0 (.loop [0,5] [6] 0 (sq [oB 7 .lss 6 5] [0,5,6,7] (.seq (.cond (.t 7) .skip (.exit 0)) (.seq (.block 1 (sq [oM 8 6,oM 3 8] [0,3,5,6] (sq [oM 9 0,oM 10 3,gp 11 (.index 1 none false (.t 9) (.t 10)),oG 12 A6 [(.t 11)],gp 13 (.not (.t 12))] [0,5,6,13] (.cond (.t 13) (sq [oV 2 (.c (.bool false))] [2] .ret) .skip)))) (.ops [oJ 14 .add 6 1,oM 6 14] none [0,5,6]))))))) (sq [oM 15 0,gp 16 (.bin .none .neq (.t 15) (.c (.str []))),gb 17 (.C8 (.t 16)),gq 18 (.C8 (.t 0)) 17 true,gq 19 (.len true (.t 18)) 17 true,gq 20 (.bin .none .leq (.t 19) (ci 12)) 17 true,gp 21 (.pick (.t 17) (.t 20) (.c (.bool false))),oM 2 21] [2] .ret)))
def V5:Fi:=⟨22,Wm,[.tmp 2],(.seq .d (.seq (.seq .d (.loop [] [] [] .d)) .d)),⟨[],[]⟩,none⟩
theorem N8:FC Tryz.prog CI V5:=Oh Tryz.func52
def fZ:Ak:=(sq [oV 2 (.c .AM)] [0] (sq [gp 5 (.A7 false 1 1 [(.int .i64 0)] [(0,1,(ci 0))]),oM 3 5] [0,3] (.seq (sq [oM 6 0,oT 7 6,oC 8 0] [0,3,7,8] (.block 0 (.loop [0,7] [3,8] 1 (sq [oB 9 .lss 8 7] [0,3,7,8,9] (.seq (.cond (.t 9) .skip (.exit 0)) (.join [0,7,8] [3] 1 (.block 1 (sq [oM 10 8,oM 4 10] [0,3,4,7,8] (sq [oM 11 0,oM 12 4,gp 13 (.index 1 none false (.t 11) (.t 12)),gp 14 (.bin .none .eql (.t 13) (.c (.int .u8 10)))] [0,3,4,7,8,14] (.cond (.t 14) (.ops [oM 15 3,oM 16 4,oJ 17 .add 16 1,gp 18 (.A7 true 1 1 [(.int .i64 0)] [(0,1,(.t 17))]),oP 19 1 8 15 18,oM 3 19] none [0,3,7,8]) .skip)))) (.ops [oJ 20 .add 8 1,oM 8 20] none [0,3,7,8]))))))) (sq [oM 21 3,oM 2 21] [2] .ret))))
def bj:Fi:=⟨22,fZ,[.tmp 2],(.seq .d (.seq .d (.seq (.seq .d (.loop [3] [] [] .d)) .d))),⟨[(5,(.int .i64)),(18,(.int .i64)),(19,(.int .i64))],[]⟩,none⟩
theorem Sy:FC Tryz.prog DT bj:=Oh Tryz.func23
def Vx:Ak:=(sq [oV 4 (.c (.bool false))] [0,1] (.seq (sq [oM 6 0,oN 7 6,oM 8 1,oN 9 8,oB 10 .neq 7 9] [0,1,10] (.cond (.t 10) (sq [oV 4 (.c (.bool false))] [4] .ret) .skip)) (.seq (sq [oC 5 0] [0,1,5] (.block 0 (.loop [0,1] [5] 0 (.seq (sq [oM 11 5,oM 12 0,oN 13 12,oB 14 .lss 11 13] [0,1,5,14] (.cond (.t 14) .skip (.exit 0))) (.seq (.block 1 (.seq (.ops [oM 17 0,oM 18 5,oI 19 1 17 18,oL 20 19,oM 21 1,oM 22 5,oI 23 1 21 22,oL 24 23,oB 25 .neq 20 24] (some (0,0,[0,1,2,3,4,5,6,7,8])) [0,1,5,25]) (.cond (.t 25) (sq [oV 4 (.c (.bool false))] [4] .ret) .skip))) (.ops [oM 15 5,oJ 16 .add 15 1,oM 5 16] none [0,1,5])))))) (sq [oV 4 (.c (.bool true))] [4] .ret))))
def Tr:Fi:=⟨26,Vx,[.tmp 4],(.seq .d (.seq .d (.seq (.seq .d (.loop [] [] [] .d)) .d))),⟨[],[]⟩,none⟩
theorem Mx:FC Tryz.prog Cc Tr:=Oh Tryz.func14
def Fc:Ak:=(sq [oV 4 (.c .AM)] [0,1] (sq [oM 8 0,oM 9 1,oG 10 Au [(.t 8),(.t 9)],oM 5 10] [0,1,5] (.seq (sq [oM 11 5,oJ 12 .eql 11 (-1)] [0,1,5,12] (.cond (.t 12) (sq [oM 13 0,oM 4 13] [4] .ret) .skip)) (.seq (sq [oM 14 5,oJ 15 .add 14 1,oM 6 15] [0,1,5,6] (.block 0 (.loop [0,1] [5,6] 0 (.seq (sq [oM 16 6,oM 17 0,oN 18 17,oB 19 .lss 16 18] [0,1,5,6,19] (.cond (.t 19) .skip (.exit 0))) (.join [0,1,6] [5] 1 (.block 1 (sq [oM 22 0,oM 23 6,oI 24 2 22 23,oA 25 2 24,gp 7 (.alloc 0 [(.int .i64 0),(.int .i64 0)]),oS 2 7 25] [0,1,5,6,7] (sq [oM 26 1,oA 27 2 7,gp 28 (.Fo (.t 26) [(.t 27)]),gp 29 (.not (.t 28))] [0,1,5,6,7,29] (.cond (.t 29) (sq [oM 30 0,oM 31 5,oA 32 2 7,oI 33 2 30 31,oS 2 33 32] [0,1,5,6] (.ops [oM 34 5,oJ 35 .add 34 1,oM 5 35] none [0,1,5,6])) .skip)))) (.ops [oM 20 6,oJ 21 .add 20 1,oM 6 21] none [0,1,5,6])))))) (sq [oM 36 0,oM 37 5,gp 38 (.slice 2 (.t 36) (some (.t 37)) none),gn (.clear 2 [(.int .i64 0),(.int .i64 0)] (.t 38))] [0,5] (sq [oM 39 0,oM 40 5,gp 41 (.slice 2 (.t 39) none (some (.t 40))),oM 4 41] [4] .ret))))))
def DK:Fi:=⟨42,Fc,[.tmp 4],(.seq .d (.seq .d (.seq .d (.seq (.seq .d (.loop [1,0] [] [] .d)) .d)))),⟨[(7,(.st (.cons (.int .i64) (.cons (.int .i64) .nil))))],[]⟩,none⟩
theorem FR:FC Tryz.prog Aq DK:=Oh Tryz.func96
def Fl:Ak:=(sq [oC 4 0] [0,1] (.seq (sq [oM 6 0,oN 7 6,oC 8 0] [0,1,7,8] (.block 0 (.loop [0,1,7] [8] 0 (sq [oB 9 .lss 8 7] [0,1,7,8,9] (.seq (.cond (.t 9) .skip (.exit 0)) (.seq (.block 1 (sq [oM 10 8,oM 5 10] [0,1,5,7,8] (sq [oM 11 1,oM 12 0,oM 13 5,oI 14 2 12 13,oA 15 2 14,gp 16 (.Fo (.t 11) [(.t 15)])] [0,1,5,7,8,16] (.cond (.t 16) (sq [oM 17 5,oM 4 17] [4] .ret) .skip)))) (.ops [oJ 18 .add 8 1,oM 8 18] none [0,1,7,8]))))))) (sq [oC 4 (-1)] [4] .ret)))
def DR:Fi:=⟨19,Fl,[.tmp 4],(.seq .d (.seq (.seq .d (.loop [1] [] [] .d)) .d)),⟨[],[]⟩,none⟩
theorem Fe:FC Tryz.prog Au DR:=Oh Tryz.func119
def RG:Ak:=(sq [gp 1 (.box 0 (.t 0)),oV 2 (.c (.bool false))] [1] (sq [oF 3 0 1,oL 4 3,oF 5 1 1,oL 6 5,oB 7 .geq 4 6,oM 2 7] [2] .ret))
def KD:Fi:=⟨8,RG,[.tmp 2],.d,⟨[(1,(.st (.cons (.int .i64) (.cons (.int .i64) .nil))))],[]⟩,none⟩
theorem Pq:FC Tryz.prog Ds KD:=Oh Tryz.func97
def Wg:Ak:=(sq [oC 4 0] [0,1] (sq [oM 8 0,oC 5 0,oM 6 8] [1,5,6] (.seq (.block 0 (.loop [1] [5,6] 0 (.seq (sq [oM 9 5,oM 10 6,oB 11 .lss 9 10] [1,5,6,11] (.cond (.t 11) .skip (.exit 0))) (.block 1 (sq [oM 12 5,oM 13 6,oB 14 .add 12 13,gp 15 (.conv .u64 (.t 14)),gp 16 (.bin .none .shr (.t 15) (.c (.int .u64 1))),gp 17 (.conv .i64 (.t 16)),oM 7 17] [1,5,6,7] (sq [oM 18 1,oM 19 7,gp 20 (.Fo (.t 18) [(.t 19)]),gp 21 (.not (.t 20))] [1,5,6,7,21] (.cond (.t 21) (.ops [oM 22 7,oJ 23 .add 22 1,oM 5 23] none [1,5,6]) (.ops [oM 24 7,oM 6 24] none [1,5,6])))))))) (sq [oM 25 5,oM 4 25] [4] .ret))))
def KC:Fi:=⟨26,Wg,[.tmp 4],(.seq .d (.seq .d (.seq (.loop [1] [] [] .d) .d))),⟨[],[]⟩,none⟩
theorem Ny:FC Tryz.prog D7 KC:=Oh Tryz.func81
def VC:Ak:=(sq [oV 4 (.c (.bool false))] [0,1,2] (.seq (.ops [oL 5 1,oM 6 0,oI 7 1 5 6,oL 8 7,oL 9 2,oB 10 .gtr 8 9,oM 4 10] (some (0,0,[0,1,2,3,4,5,6])) [4]) .ret))
def Mp:Fi:=⟨11,VC,[.tmp 4],.d,⟨[],[]⟩,none⟩
theorem Tf:FC Tryz.prog Ev Mp:=Oh Tryz.func82
def To:Ak:=(sq [oC 4 0] [0,1] (.seq (sq [oM 7 1,oT 8 7,oJ 9 .eql 8 0] [0,1,9] (.cond (.t 9) (sq [oM 10 0,oG 11 CO [(.t 10)],oJ 12 .add 11 1,oM 4 12] [4] .ret) .skip)) (.seq (sq [oM 13 1,oT 14 13,oJ 15 .eql 14 1] [0,1,15] (.cond (.t 15) (sq [oM 16 0,oM 17 1,gp 18 (.index 1 none false (.t 17) (ci 0)),gp 19 (.ext .u0 [(.t 16),(.t 18)]),oM 4 19] [4] .ret) .skip)) (sq [oC 5 0] [0,1,5] (.block 0 (.loop [1] [0,5] 0 (.block 1 (sq [oM 20 0,oM 21 1,oG 22 Gx [(.t 20),(.t 21)],oM 6 22] [0,1,5,6] (.seq (sq [oM 23 6,oJ 24 .eql 23 (-1)] [0,1,5,6,24] (.cond (.t 24) (sq [oM 25 5,oM 4 25] [4] .ret) .skip)) (sq [oM 26 5,oJ 27 .add 26 1,oM 5 27] [0,1,5,6] (.ops [oM 28 0,oM 29 6,oM 30 1,oT 31 30,oB 32 .add 29 31,gp 33 (.slice 0 (.t 28) (some (.t 32)) none),oM 0 33] none [0,1,5])))))))))))
def Lo:Fi:=⟨34,To,[.tmp 4],(.seq .d (.seq .d (.seq .d (.seq .d (.loop [] [] [] .d))))),⟨[],[]⟩,none⟩
theorem SK:FC Tryz.prog EX Lo:=Oh Tryz.func89
def Lp:Ak:=(sq [oC 4 0] [0,1] (sq [oM 5 0,oM 6 1,oG 7 Aw [(.t 5),(.t 6)],oM 4 7] [4] .ret))
def Gs:Fi:=⟨8,Lp,[.tmp 4],.d,⟨[],[]⟩,none⟩
theorem K_:FC Tryz.prog CX Gs:=Oh Tryz.func90
def Fz:Ak:=(sq [oC 4 0] [0,1] (.seq (sq [oM 6 0,oT 7 6,oJ 8 .sub 7 1,oM 5 8] [0,1,5] (.block 0 (.loop [0,1] [5] 0 (.seq (sq [oM 9 5,oJ 10 .geq 9 0] [0,1,5,10] (.cond (.t 10) .skip (.exit 0))) (.seq (.block 1 (sq [oM 13 0,oM 14 5,gp 15 (.index 1 none false (.t 13) (.t 14)),oM 16 1,oB 17 .eql 15 16] [0,1,5,17] (.cond (.t 17) (sq [oM 18 5,oM 4 18] [4] .ret) .skip))) (.ops [oM 11 5,oJ 12 .sub 11 1,oM 5 12] none [0,1,5])))))) (sq [oC 4 (-1)] [4] .ret)))
def DY:Fi:=⟨19,Fz,[.tmp 4],(.seq .d (.seq (.seq .d (.loop [] [] [] .d)) .d)),⟨[],[]⟩,none⟩
theorem Fk:FC Tryz.prog Aw DY:=Oh Tryz.func116
def Oj:Ak:=(sq [oV 4 (.c (.bool false))] [0,1,2] (.seq (.ops [oL 5 1,oM 6 0,oI 7 1 5 6,oL 8 7,oL 9 2,oB 10 .geq 8 9,oM 4 10] (some (0,0,[0,1,2,3,4,5,6])) [4]) .ret))
def I4:Fi:=⟨11,Oj,[.tmp 4],.d,⟨[],[]⟩,none⟩
theorem Nx:FC Tryz.prog DF I4:=Oh Tryz.func118
end Go.Proofs.YtlibocgedgdmlaaGreat
end
section
namespace Go.Fu
open Go.Vc
@[simp] theorem cg {α β : Type} (p : α × β) : (p.1, p.2) = p := rfl
@[simp] theorem KW {p : Prop} : (bo p = true) ↔ p := by simp [bo]
@[simp] theorem ur {p : Prop} : (bo p = false) ↔ ¬ p := by simp [bo]
@[simp] theorem sY {p : Prop} : (true = bo p) ↔ p := by rw [eq_comm]; simp
@[simp] theorem Ug {p : Prop} : (false = bo p) ↔ ¬ p := by rw [eq_comm]; simp
theorem aD {p q:Prop} (h:p↔q):bo p=bo q:=by rw [propext h]
@[simp] theorem nD {p q : Prop} : (bo p = bo q) ↔ (p ↔ q) := by
 rw [Bool.eq_iff_iff];simp
@[simp] theorem vf {b : Bool} : bo (b = true) = b := by rw [Bool.eq_iff_iff]; simp
section
variable {α : Type} [Inhabited α] {l m : List α} {i j : Int} {n : Nat} {a : α}
theorem NQ (h0:0<=i) (h1:i<l.length):gt l i=l[i.toNat]'(by omega):=by
 simp [gt,List.getD_eq_getElem?_getD,List.getElem?_eq_getElem (show i.toNat<l.length by omega)]
theorem LP (h:n<l.length):gt l (n:Int)=l[n]:=by rw [NQ (by omega) (by omega)];simp
theorem Ka (h0:0<=i) (h1:i<l.length):l[i.toNat]?=some (gt l i):=by
 rw [NQ h0 h1,List.getElem?_eq_getElem]
theorem D8 (h0:0<=i) (h1:i<l.length):gt (l++m) i=gt l i:=by
 simp [gt,List.getD_eq_getElem?_getD,List.getElem?_append_left (show i.toNat<l.length by omega)]
theorem D9 (h:(l.length:Int)<=i):gt (l++m) i=gt m (i-l.length):=by
 simp only [gt,List.getD_eq_getElem?_getD,List.getElem?_append_right (show l.length<=i.toNat by omega)];congr 2;omega
theorem NP:gt (l++[a]) (l.length:Int)=a:=by
 rw [D9 (by omega)];simp [gt]
theorem iw {k:Nat} (h0:0<=i) (h1:i<k):gt (l.take k) i=gt l i:=by
 simp [gt,List.getD_eq_getElem?_getD,List.getElem?_take,show i.toNat<k by omega]
theorem iv {k:Nat} (h0:0<=i):gt (l.drop k) i=gt l (i+k):=by
 simp only [gt,List.getD_eq_getElem?_getD,List.getElem?_drop];congr 2;omega
theorem QY:gt (a::l) 0=a:=rfl
theorem Sk (h:0<i):gt (a::l) i=gt l (i-1):=by
 have:i.toNat=(i-1).toNat+1:=by omega
 simp only [gt,this,List.getD_cons_succ]
theorem G3 (h0:0<=i) (h1:i<l.length):l.take (i+1).toNat=l.take i.toNat++[gt l i]:=by
 rw [NQ h0 h1,show (i+1).toNat=i.toNat+1 by omega,List.take_succ_eq_append_getElem]
theorem Ie (h0:0<=i) (h1:i<l.length):l.drop i.toNat=gt l i::l.drop (i+1).toNat:=by
 rw [NQ h0 h1,show (i+1).toNat=i.toNat+1 by omega,List.drop_eq_getElem_cons]
theorem tv {l m:List α} (hl:l.length=m.length) (h: ∀i:Int,0<=i->i<l.length->gt l i=gt m i):l=m:=by
 refine List.ext_getElem hl fun k h1 h2=>?_;have:=h (k:Int) (by omega) (by omega);rwa [LP h1,LP h2] at this
theorem Kz (h0:0<=i) (h1:i<l.length):gt l i∈l:=by rw [NQ h0 h1];exact List.getElem_mem _
theorem Rz (h:a∈l): ∃i:Int,0<=i/\i<l.length/\gt l i=a:=by
 obtain ⟨n,hn,e⟩:=List.getElem_of_mem h;exact ⟨n,by omega,by omega,by rw [LP hn,e]⟩
end
theorem qg (b:UInt8):(b.toNat:Int)<256:=by have:=b.toNat_lt;omega
theorem qh (b:UInt8):0<=(b.toNat:Int):=by omega
end Go.Fu
end
section
namespace Go.Fu
open Go.Vc
noncomputable section
abbrev tI:Ty:= .int .i64
abbrev vX:Ty:= .st (.cons tI (.cons tI .nil))
abbrev wu:Ty:= .st (.cons tI (.cons tI (.cons tI .nil)))
abbrev Gt:Ty:= .st (.cons tI (.cons tI .nil))
abbrev TJ:Ty:= .st (.cons tI (.cons tI (.cons .str .nil)))
abbrev dY (a:Ty):KJ:= .cons a .nil
abbrev Mg (a b:Ty):KJ:= .cons a (.cons b .nil)
abbrev uc (a b c:Ty):KJ:= .cons a (.cons b (.cons c .nil))
abbrev wx (a b c d:Ty):KJ:= .cons a (.cons b (.cons c (.cons d .nil)))
abbrev Bytes:=List UInt8
abbrev M3 (s:List UInt8):Prop:=s.length<=140737488351232
abbrev JE {α:Type} (s:List α):Prop:=s.length<=140737488351232
theorem GG {n:Int}:AH n↔ -9223372036854775808<=n/\n<=9223372036854775807:=Iff.rfl
def pE (h:Int×Int):Prop:=0<=h.1/\h.1<2147483647/\0<h.2/\h.2<2147483647
instance (h:Int×Int):Decidable (pE h):=by unfold pE;infer_instance
def J5 (h:Int×Int) (c:UInt8):Int×Int:=((h.1*257+c.toNat+1)%2147483647,h.2*257%2147483647)
def D6 (s:Bytes):Int×Int:=s.foldl J5 (0,1)
def El:Ct:=⟨dY .str,[.val vX],fun s=>M3 s,fun s=>D6 s⟩
def tH (p:Int×Int×Int):Prop:=0<=p.1/\p.1<=1099511627776/\0<=p.2.1/\p.2.1<=1099511627776/\0<=p.2.2/\p.2.2<=1099511627776/\p.2.1+p.2.2<=p.1/\(0<p.2.1\/p.2.2=p.1)
instance (p:Int×Int×Int):Decidable (tH p):=by unfold tH;infer_instance
def BO (size:Int) (e:Int×Int×Bytes):Int:=
 if size<0\/600<size\/e.1<0\/size<e.1\/e.2.1<0\/size-e.1<e.2.1 then 2 else if 600<size-e.2.1+e.2.2.length then 1 else 0
abbrev Ec (e:Int×Int×Bytes):Prop:=AH e.1/\AH e.2.1/\M3 e.2.2
def CF:Ct:=⟨Mg tI TJ,[.val tI],fun x=>AH x.1/\Ec x.2,fun x=>BO x.1 x.2⟩
def VL (e:Int×Int×Bytes) (at_:Int) (right:Bool):Int:=
 if at_<e.1 then at_
 else if (e.2.1=0/\e.1<at_)\/(0<e.2.1/\e.1+e.2.1<=at_) then at_+e.2.2.length-e.2.1
 else if right=true then e.1+e.2.2.length else e.1
def AP (size:Int):Int->List (Int×Int)->Prop
 | _,[]=>True
 | last,s::l=>last<s.1/\s.1<s.2/\s.2<=size/\AP size s.2 l
def RD (size:Int) (l:List (Int×Int)):Prop:=0<=size/\size<=600/\l.length<=40/\AP size (-1) l
def AQ:Int->Bytes->List Int
 | _,[]=>[]
 | i,c::s=>if c=10 then (i+1)::AQ (i+1) s else AQ (i+1) s
def Aa (s:Bytes):List Int:=0::AQ 0 s
def F5:Ct:=⟨dY .str,[.own tI],fun s=>s.length<=1000000,fun s=>Aa s⟩
def YU (l:List Bytes) (c:UInt8):List Bytes:=if c=10 then l++[[]] else l.dropLast++[l.getLastD []++[c]]
def AO (s:Bytes):List Bytes:=s.foldl YU [[]]
def EZ:Ct:=⟨Mg (.sl tI) (.sl tI),[.val .bool],fun x=>JE x.1/\JE x.2,fun x=>bo (x.1=x.2)⟩
end
end Go.Fu
end
section
namespace Go.Fu
open Go.Vc
theorem TD (s:Bytes) (c:UInt8):D6 (s++[c])=J5 (D6 s) c:=by simp [D6]
theorem cT (h:Int×Int) (c:UInt8):0<=(J5 h c).1/\(J5 h c).1<2147483647/\0<=(J5 h c).2/\(J5 h c).2<2147483647:=by
 simp only [J5];omega
theorem Vo {α:Type} (s:List α):s=[]\/ ∃t c,s=t++[c]:=by
 rcases List.eq_nil_or_concat s with h | ⟨t,c,h⟩
 ·exact .inl h
 ·exact .inr ⟨t,c,by simpa using h⟩
theorem lU (s:Bytes):0<=(D6 s).1/\(D6 s).1<2147483647/\0<=(D6 s).2/\(D6 s).2<2147483647:=by
 rcases Vo s with rfl | ⟨t,c,rfl⟩
 ·simp [D6]
 ·rw [TD];exact cT _ _
theorem Nw {α:Type} {P:List α->Prop} (h0:P []) (h1: ∀s c,P s->P (s++[c])) (s:List α):P s:=by
 have: ∀n (s:List α),s.length=n->P s:=by
  intro n
  induction n with
  | zero=>intro s hs;rw [List.length_eq_zero_iff.1 hs];exact h0
  | succ n ih=>
   intro s hs;rcases Vo s with rfl | ⟨t,c,rfl⟩
   ·simp at hs
   ·exact h1 _ _ (ih t (by simpa using hs))
 exact this _ s rfl
def BJ:Bytes->Bytes->List Bytes
 | cur,[]=>[cur]
 | cur,c::s=>if c=10 then cur::BJ [] s else BJ (cur++[c]) s
theorem YV: ∀(s:Bytes) (pre:List Bytes) (cur:Bytes),s.foldl YU (pre++[cur])=pre++BJ cur s
 | [],pre,cur=>by simp [BJ]
 | c::s,pre,cur=>by
  simp only [List.foldl_cons,BJ,YU];split
  ·rw [YV s (pre++[cur]) []];simp
  ·have:(pre++[cur]).dropLast++[(pre++[cur]).getLastD []++[c]]=pre++[cur++[c]]:=by simp
   rw [this,YV s pre (cur++[c])]
theorem GA (s:Bytes):AO s=BJ [] s:=by
 have:=YV s [] [];simpa [AO] using this
def EA:Int->List Bytes->List Int
 | _,[]=>[]
 | at_,s::r=>at_::EA (at_+s.length+1) r
theorem Ze: ∀(s:Bytes) (cur:Bytes) (at_:Int),EA at_ (BJ cur s)=at_::AQ (at_+cur.length) s
 | [],cur,at_=>by simp [BJ,EA,AQ]
 | c::s,cur,at_=>by
  simp only [BJ,AQ];split
  ·simp only [EA];rw [Ze s [] _];simp
  ·rw [Ze s (cur++[c]) at_];simp [Int.add_assoc]
theorem jW (s:Bytes):EA 0 (AO s)=Aa s:=by
 rw [GA,Ze];simp [Aa]
theorem MK: ∀(s cur:Bytes),(BJ cur s).length<=s.length+1/\ ∀l∈BJ cur s,l.length<=cur.length+s.length
 | [],cur=>by simp [BJ]
 | c::s,cur=>by
  simp only [BJ];split
  ·have:=MK s [];refine ⟨by simp;omega,fun l hl=>?_⟩;rcases List.mem_cons.1 hl with rfl | hl
   ·simp
   ·have:=this.2 l hl;simp at this |-;omega
  ·have:=MK s (cur++[c]);refine ⟨by simp;omega,fun l hl=>?_⟩;have:=this.2 l hl;simp at this |-;omega
theorem FD (s:Bytes):(AO s).length<=s.length+1/\ ∀l∈AO s,l.length<=s.length:=by
 rw [GA];have:=MK s [];simpa using this
theorem eK {b:UInt8}:((b.toNat:Int)=10)↔b=10:=by
 constructor
 ·intro h;exact UInt8.toNat_inj.1 (show b.toNat=(10:UInt8).toNat by have:(10:UInt8).toNat=10:=rfl;omega)
 ·intro h;subst h;rfl
section
variable {k : Int -> Int} {a x b hi : Int}
end
end Go.Fu
end
section
namespace Go.Fu
open Go.Vc
noncomputable section
abbrev FH (x:Int×Int):Prop:=AH x.1/\0<x.2/\x.2<=1000000
def AS (a n:Int):Int:=a%n
def BM:Ct:=⟨Mg tI tI,[.val tI],fun x=>FH x,fun x=>AS x.1 x.2⟩
def T5 (x:Int):UInt8:=if x%2=0 then 97 else 98
def H_ (l:List Int) (n:Int):Bytes:=(l.take n.toNat).map T5
abbrev NL (x:List Int×Int):Prop:=(∀i∈x.1,AH i)/\0<=x.2/\x.2<=1000
def E_:Ct:=⟨Mg (.sl tI) tI,[.val .str],fun x=>NL x,fun x=>H_ x.1 x.2⟩
end
theorem T6 (l:List Int) (n:Int):(H_ l n).length<=n.toNat:=by
 unfold H_;rw [List.length_map,List.length_take];omega
theorem nj {l:List Int} {i:Int} (h0:0<=i) (h1:i<l.length):H_ l (i+1)=H_ l i++[T5 (gt l i)]:=by
 unfold H_;rw [G3 h0 h1];simp
theorem rE (x:Int):gt [[(97:UInt8)],[98]] (AS x 2)=[T5 x]:=by
 unfold T5 AS;rcases (show x%2=0\/x%2=1 by omega) with h | h
 ·rw [h,if_pos rfl];rfl
 ·rw [h,if_neg (by decide)];rfl
end Go.Fu
end
section
namespace Go.Fu
open Go.Vc
noncomputable section
def Jf:Bytes:=[97,98,32,10,97,98,99,100,32,98,10,97]
def N4 (x:Int):UInt8:=gt Jf (x%12)
def Gb (l:List Int) (n:Int):Bytes:=(l.take n.toNat).map N4
def Di:Ct:=⟨Mg (.sl tI) tI,[.val .str],fun x=>NL x,fun x=>Gb x.1 x.2⟩
theorem Vv (l:List Int) (n:Int):(Gb l n).length<=n.toNat:=by
 unfold Gb;rw [List.length_map,List.length_take];omega
theorem mB {l:List Int} {i:Int} (h0:0<=i) (h1:i<l.length):Gb l (i+1)=Gb l i++[N4 (gt l i)]:=by
 unfold Gb;rw [G3 h0 h1];simp
theorem pz (x:Int):List.drop 0 (List.take 1 (List.drop (AS x 12).toNat (List.take ((12:Nat):Int).toNat Jf)))=[N4 x]:=by
 unfold N4 AS;rcases (show x%12=0\/x%12=1\/x%12=2\/x%12=3\/x%12=4\/x%12=5\/x%12=6\/x%12=7\/x%12=8\/x%12=9\/x%12=10\/x%12=11 by omega) with h | h | h | h | h | h | h | h | h | h | h | h<;>rw [h]<;>rfl
end
end Go.Fu
end
section
namespace Go.Fu
open Go.Vc
noncomputable section
abbrev BW:=Int×Int×Bytes
def AV (s:Bytes) (e:BW):Bytes:=s.take e.1.toNat++e.2.2++s.drop (e.1+e.2.1).toNat
def Bt (s:Bytes) (e:BW):BW:=(e.1,(e.2.2.length:Int),(s.take (e.1+e.2.1).toNat).drop e.1.toNat)
def Bz (size:Int) (e:BW):Prop:=BO size e=0
theorem Bb {size:Int} {e:BW}:Bz size e↔0<=size/\size<=600/\0<=e.1/\e.1<=size/\0<=e.2.1/\e.2.1<=size-e.1/\size-e.2.1+e.2.2.length<=600:=by
 unfold Bz BO;constructor
 ·intro h;split at h
  ·omega
  ·split at h<;>omega
 ·intro h;rw [if_neg (by omega),if_neg (by omega)]
theorem CN {s:Bytes} {e:BW} (h:Bz s.length e):((AV s e).length:Int)=s.length-e.2.1+e.2.2.length:=by
 rw [Bb] at h;simp only [AV,List.length_append,List.length_take,List.length_drop];omega
def Bs:Ct:=⟨Mg .str TJ,[.val .str],fun x=>Bz x.1.length x.2,fun x=>AV x.1 x.2⟩
def Cf:Ct:=⟨Mg .str TJ,[.val TJ],fun x=>Bz x.1.length x.2,fun x=>Bt x.1 x.2⟩
def W5 (s:Bytes):List BW->List BW
 | []=>[]
 | e::l=>Bt s e::W5 (AV s e) l
def AY (s:Bytes):List BW->Bytes
 | []=>s
 | e::l=>AY (AV s e) l
def Cl (size:Int):List BW->Int
 | []=>0
 | e::l=>if BO size e≠0 then BO size e else Cl (size-e.2.1+e.2.2.length) l
def OE (s:Bytes) (l:List BW):Int:=if 60<l.length\/600<s.length then 1 else Cl s.length l
def YY (s:Bytes) (l:List BW):Bytes×List BW×Int:=
 if OE s l=0 then (AY s l,W5 s l,0) else ([],[],OE s l)
def W0 (s:Bytes) (l:List BW):Bytes×Int:=((YY s l).1,(YY s l).2.2)
def Eh (l:List Int):Prop:=l≠[]/\gt l 0=0/\(∀i,0<i->i<(l.length:Int)->gt l (i-1)<gt l i)/\gt l ((l.length:Int)-1)<=600
def Hn:Ct:=⟨dY (.sl tI),[.val .bool],fun l=>JE l,fun l=>bo (Eh l)⟩
def U_ (l:List Int) (at_:Int):Int:=((l.takeWhile fun x=>decide (x<=at_)).length:Int)-1
def Ea (l:List Int) (at_:Int):Int×Int:=K0 (¬Eh l) (0,4) (if at_<0 then (0,2) else (U_ l at_,0))
def C_:Ct:=⟨Mg (.sl tI) tI,[.val tI,.val tI],fun x=>JE x.1,fun x=>Ea x.1 x.2⟩
end
end Go.Fu
end
section
namespace Go.Fu
open Go.Vc
theorem Ky (e:BW): ∀(l:List BW) (s:Bytes),AY s (l++[e])=AV (AY s l) e
 | [],s=>rfl
 | x::l,s=>by simp only [List.cons_append,AY];exact Ky e l _
end Go.Fu
end
section
namespace Go.Fu
open Go.Vc
noncomputable section
end
end Go.Fu
end
section
namespace Go.Fu
open Go.Vc
noncomputable section
abbrev nn {α:Type} (l:List α):Prop:=l.length<=1000000
end
end Go.Fu
end
section
namespace Go.Fu
open Go.Vc
noncomputable section
abbrev Span:=Int×Int
def BT (l:List Span) (i:Int):Prop:= ∃s∈l,s.1<=i/\i<s.2
def JW (last:Int) (l:List Span):Prop:=AP 1000000 last l
def Db (P:Int->Prop) (l:List Span):Prop:=JW (-1) l/\ ∀i,BT l i↔P i
def Hf (P:Int->Prop):List Span:=Classical.epsilon (Db P)
theorem DP (i:Int): ¬BT [] i:=by rintro ⟨s,h,_⟩;simp at h
theorem A_ {s:Span} {l:List Span} {i:Int}:BT (s::l) i↔(s.1<=i/\i<s.2)\/BT l i:=by
 unfold BT;constructor
 ·rintro ⟨t,h,g⟩;simp only [List.mem_cons] at h;rcases h with h | h
  ·subst h;exact .inl g
  ·exact .inr ⟨t,h,g⟩
 ·rintro (h | ⟨t,h,g⟩)
  ·exact ⟨s,by simp,h⟩
  ·exact ⟨t,by simp [h],g⟩
theorem E4 {l m:List Span} {i:Int}:BT (l++m) i↔BT l i\/BT m i:=by
 induction l with
 | nil=>simp [DP]
 | cons s l ih=>rw [List.cons_append,A_,A_,ih,or_assoc]
theorem Ef {s:Span} {i:Int}:BT [s] i↔s.1<=i/\i<s.2:=by rw [A_];simp [DP]
theorem GL {n:Int}: ∀ {l:List Span} {last:Int},AP n last l-> ∀s∈l,last<s.1/\s.1<s.2/\s.2<=n
 | [],_,_,s,hs=>by simp at hs
 | a::l,last,h,s,hs=>by
  obtain ⟨h1,h2,h3,h4⟩:=h;simp only [List.mem_cons] at hs;rcases hs with e | e
  ·subst e;exact ⟨h1,h2,h3⟩
  ·have:=GL h4 s e;omega
theorem Ns {n m:Int} (hnm:n<=m): ∀ {l:List Span} {a b:Int},b<=a->AP n a l->AP m b l
 | [],_,_,_,_=>trivial
 | s::l,a,b,hab,⟨h1,h2,h3,h4⟩=>⟨by omega,h2,by omega,Ns hnm (Int.le_refl _) h4⟩
theorem JH {n last i:Int} {l:List Span} (h:AP n last l) (hi:BT l i):last<i/\i<n:=by
 obtain ⟨s,hs,h1,h2⟩:=hi;have:=GL h s hs;omega
theorem dI {n:Int}: ∀ {l m:List Span} {a:Int},AP n a l->AP n a m->(∀i,BT l i↔BT m i)->l=m
 | [],[],_,_,_,_=>rfl
 | s::l,[],a,h,_,e=>absurd ((e s.1).1 (A_.2 (.inl ⟨by omega,h.2.1⟩))) (DP _)
 | [],t::m,a,_,h,e=>absurd ((e t.1).2 (A_.2 (.inl ⟨by omega,h.2.1⟩))) (DP _)
 | s::l,t::m,a,h,g,e=>by
  have lo: ∀ {s t:Span} {l m:List Span},AP n a (s::l)->AP n a (t::m)->(∀i,BT (s::l) i↔BT (t::m) i)->t.1<=s.1:=fun {s t l m} h g e=>by
   rcases A_.1 ((e s.1).1 (A_.2 (.inl ⟨by omega,h.2.1⟩))) with c | c
   ·exact c.1
   ·have:=JH g.2.2.2 c;have:=g.2.1;omega
  have e1:s.1=t.1:=by have:=lo h g e;have:=lo g h fun i=>(e i).symm;omega
  have hi: ∀ {s t:Span} {l m:List Span},s.1=t.1->AP n a (s::l)->AP n a (t::m)->(∀i,BT (s::l) i↔BT (t::m) i)->t.2<=s.2:=fun {s t l m} e1 h g e=>by
   rcases Int.lt_or_le s.2 t.2 with c | c
   ·rcases A_.1 ((e s.2).2 (A_.2 (.inl ⟨by have:=h.2.1;omega,c⟩))) with d | d
    ·omega
    ·have:=JH h.2.2.2 d;omega
   ·exact c
  have e2:s.2=t.2:=by have:=hi e1 h g e;have:=hi e1.symm g h fun i=>(e i).symm;omega
  have es:s=t:=Prod.ext e1 e2;subst es;congr 1;refine dI h.2.2.2 g.2.2.2 fun i=>?_;constructor
  ·intro c;have:=JH h.2.2.2 c;rcases A_.1 ((e i).1 (A_.2 (.inr c))) with d | d
   ·omega
   ·exact d
  ·intro c;have:=JH g.2.2.2 c;rcases A_.1 ((e i).2 (A_.2 (.inr c))) with d | d
   ·omega
   ·exact d
theorem LM {P:Int->Prop} {l:List Span} (h:Db P l):Hf P=l:=by
 have g:=Classical.epsilon_spec (p:=Db P) ⟨l,h⟩;exact dI g.1 h.1 fun i=>(g.2 i).trans (h.2 i).symm
theorem SX {P Q:Int->Prop} (h: ∀i,P i↔Q i):Hf P=Hf Q:=by
 have:P=Q:=funext fun i=>propext (h i);rw [this]
def EL (last:Int) (l:List Span):Int:=l.foldl (fun _ s=>s.2) last
theorem MG (last:Int) (l:List Span) (s:Span):EL last (l++[s])=s.2:=by simp [EL]
theorem I3 {n:Int}: ∀ {l:List Span} {last:Int} {s:Span},AP n last (l++[s])↔AP n last l/\EL last l<s.1/\s.1<s.2/\s.2<=n
 | [],last,s=>by simp [AP,EL]
 | a::l,last,s=>by
  simp only [List.cons_append,AP,I3 (l:=l)];have:EL last (a::l)=EL a.2 l:=rfl;rw [this];constructor
  ·rintro ⟨h1,h2,h3,h4,h5⟩;exact ⟨⟨h1,h2,h3,h4⟩,h5⟩
  ·rintro ⟨⟨h1,h2,h3,h4⟩,h5⟩;exact ⟨h1,h2,h3,h4,h5⟩
theorem TG {n:Int}: ∀ {l:List Span} {last i:Int},AP n last l->BT l i->i<EL last l
 | [],last,i,_,h=>absurd h (DP _)
 | a::l,last,i,h,g=>by
  have e:EL last (a::l)=EL a.2 l:=rfl;rw [e];have mono: ∀ {l:List Span} {b:Int},AP n b l->b<=EL b l:=by
   intro l
   induction l with
   | nil=>intro b _;simp [EL]
   | cons s l ih=>
    intro b hb;have e:EL b (s::l)=EL s.2 l:=rfl;have:=ih hb.2.2.2;have h1:=hb.1;have h2:=hb.2.1;rw [e];omega
  rcases A_.1 g with c | c
  ·have:=mono h.2.2.2;omega
  ·exact TG h.2.2.2 c
theorem fV {l:List Span} {last:Int} (h:l≠[]):EL last l=(gt l ((l.length:Int)-1)).2:=by
 rcases List.eq_nil_or_concat l with e | ⟨m,s,e⟩
 ·exact absurd e h
 ·subst e;rw [List.concat_eq_append,MG,show (((m++[s]).length:Int)-1)=(m.length:Int) by simp,NP]
theorem RU {l:List Span} (h:l≠[]): ∃m s,l=m++[s]/\gt l ((l.length:Int)-1)=s/\ ∀t:Span,l.set ((l.length:Int)-1).toNat t=m++[t]:=by
 rcases List.eq_nil_or_concat l with e | ⟨m,s,e⟩
 ·exact absurd e h
 ·subst e;refine ⟨m,s,by simp,?_,fun t=>?_⟩
  ·rw [List.concat_eq_append,show (((m++[s]).length:Int)-1)=(m.length:Int) by simp,NP]
  ·rw [List.concat_eq_append,show ((((m++[s]).length:Nat):Int)-1).toNat=m.length by simp];simp
theorem eX {P:Int->Prop} {i:Int} {l:List Span} (h:Db (fun j=>0<=j/\j<i/\P j) l) (hn: ¬P i):Db (fun j=>0<=j/\j<i+1/\P j) l:=by
 refine ⟨h.1,fun j=>(h.2 j).trans ⟨fun c=>⟨c.1,by omega,c.2.2⟩,fun c=>⟨c.1,?_,c.2.2⟩⟩⟩;by_cases e:j=i
 ·subst e;exact absurd c.2.2 hn
 ·omega
theorem j9 {P:Int->Prop} {i:Int} {l:List Span} (hi:0<=i) (hb:i<1000000) (h:Db (fun j=>0<=j/\j<i/\P j) l) (hp:P i) (hn: ¬(0<i/\P (i-1))):Db (fun j=>0<=j/\j<i+1/\P j) (l++[(i,i+1)]):=by
 have le:EL (-1) l<i:=by
  by_cases e:l=[]
  ·subst e;simp [EL];omega
  ·obtain ⟨m,s,e1,e2,_⟩:=RU e;subst e1;have h1:=I3.1 h.1;rw [MG];have a:=(h.2 (s.2-1)).1 (E4.2 (.inr (Ef.2 ⟨by omega,by omega⟩)));rcases Int.lt_or_le s.2 i with c | c
   ·exact c
   ·have:s.2-1=i-1:=by omega
    rw [this] at a;exact absurd ⟨by omega,a.2.2⟩ hn
 refine ⟨I3.2 ⟨h.1,le,by simp only;omega,by simp only;omega⟩,fun j=>?_⟩;rw [E4,Ef,h.2 j];simp only;constructor
 ·rintro (c | c)
  ·exact ⟨c.1,by omega,c.2.2⟩
  ·have:j=i:=by omega
   subst this;exact ⟨hi,by omega,hp⟩
 ·rintro ⟨c1,c2,c3⟩;by_cases e:j=i
  ·exact .inr (by omega)
  ·exact .inl ⟨c1,by omega,c3⟩
theorem eS {P:Int->Prop} {i:Int} {l:List Span} (hi:0<i) (hb:i<1000000) (h:Db (fun j=>0<=j/\j<i/\P j) l) (hp:P i) (hq:P (i-1)):
  l≠[]/\Db (fun j=>0<=j/\j<i+1/\P j) (l.set ((l.length:Int)-1).toNat ((gt l ((l.length:Int)-1)).1,i+1)):=by
 have a:=(h.2 (i-1)).2 ⟨by omega,by omega,hq⟩;have hne:l≠[]:=by rintro rfl;exact DP _ a
 refine ⟨hne,?_⟩;obtain ⟨m,s,e1,e2,e3⟩:=RU hne;rw [e2,e3];subst e1;have h1:=I3.1 h.1;have h2:=TG h.1 a;rw [MG] at h2;have h3:=(h.2 (s.2-1)).1 (E4.2 (.inr (Ef.2 ⟨by omega,by omega⟩)));have es:s.2=i:=by omega
 refine ⟨I3.2 ⟨h1.1,h1.2.1,by simp only;omega,by simp only;omega⟩,fun j=>?_⟩;have hj:=h.2 j;rw [E4,Ef] at hj |-;simp only;constructor
 ·rintro (c | c)
  ·have:=hj.1 (.inl c);exact ⟨this.1,by omega,this.2.2⟩
  ·by_cases e:j=i
   ·subst e;exact ⟨by omega,by omega,hp⟩
   ·have:=hj.1 (.inr ⟨c.1,by omega⟩);exact ⟨this.1,by omega,this.2.2⟩
 ·rintro ⟨c1,c2,c3⟩;by_cases e:j=i
  ·subst e;exact .inr ⟨by omega,by omega⟩
  ·rcases hj.2 ⟨c1,by omega,c3⟩ with d | d
   ·exact .inl d
   ·exact .inr ⟨d.1,by omega⟩
def CB (l:List Span) (s:Span):List Span:=l.flatMap fun x=>[(x.1,min x.2 (max x.1 s.1)),(max x.1 (min x.2 s.2),x.2)]
def FG (l:List Span):List Span:=l.filter fun x=>decide (x.1<x.2)
theorem Ys {l:List Span} {i:Int}:BT (FG l) i↔BT l i:=by
 unfold BT FG;constructor
 ·rintro ⟨s,h,g⟩;exact ⟨s,(List.mem_filter.1 h).1,g⟩
 ·rintro ⟨s,h,g⟩;exact ⟨s,List.mem_filter.2 ⟨h,by simp only [decide_eq_true_eq];omega⟩,g⟩
theorem bJ {s:Span} (hs:s.1<s.2): ∀ {l:List Span} {i:Int},BT (CB l s) i↔BT l i/\ ¬(s.1<=i/\i<s.2)
 | [],i=>by simp [CB,DP]
 | x::l,i=>by
  have ih:=bJ hs (l:=l) (i:=i);have e:CB (x::l) s=[(x.1,min x.2 (max x.1 s.1)),(max x.1 (min x.2 s.2),x.2)]++CB l s:=rfl;rw [e,E4,ih,A_,Ef,A_];simp only;constructor
  ·rintro ((c | c) | c)
   ·exact ⟨.inl (by omega),by omega⟩
   ·exact ⟨.inl (by omega),by omega⟩
   ·exact ⟨.inr c.1,c.2⟩
  ·rintro ⟨c | c,d⟩
   ·exact .inl (by omega)
   ·exact .inr ⟨c,d⟩
theorem jQ {s:Span} (hs:s.1<s.2): ∀ {l:List Span} {last:Int},JW last l->JW last (FG (CB l s))
 | [],_,_=>trivial
 | x::l,last,⟨h1,h2,h3,h4⟩=>by
  have ih:=jQ hs h4;have e:FG (CB (x::l) s)=(if x.1<min x.2 (max x.1 s.1) then [(x.1,min x.2 (max x.1 s.1))] else [])++((if max x.1 (min x.2 s.2)<x.2 then [(max x.1 (min x.2 s.2),x.2)] else [])++FG (CB l s)):=by
   have:CB (x::l) s=(x.1,min x.2 (max x.1 s.1))::(max x.1 (min x.2 s.2),x.2)::CB l s:=rfl;rw [this];unfold FG;rw [List.filter_cons,List.filter_cons];simp only [decide_eq_true_eq];split<;>split<;>rfl
  rw [e];split
  ·split
   ·exact ⟨h1,by simp only;omega,by simp only;omega,by simp only;omega,by simp only;omega,by simp only;omega,ih⟩
   ·exact ⟨h1,by simp only;omega,by simp only;omega,Ns (Int.le_refl _) (by simp only;omega) ih⟩
  ·split
   ·exact ⟨by simp only;omega,by simp only;omega,by simp only;omega,ih⟩
   ·exact Ns (Int.le_refl _) (by omega) ih
theorem j_ {l:List Span} {s:Span} (hs:s.1<s.2) (h:JW (-1) l):FG (CB l s)=Hf fun i=>BT l i/\ ¬(s.1<=i/\i<s.2):=
 (LM ⟨jQ hs h,fun i=>by rw [Ys,bJ hs]⟩).symm
theorem eW {l:List Span} {s:Span} (hs:s.1=s.2) (h:JW (-1) l):l=Hf fun i=>BT l i/\ ¬(s.1<=i/\i<s.2):=
 (LM ⟨h,fun i=>⟨fun c=>⟨c,by omega⟩,fun c=>c.1⟩⟩).symm
theorem pN {l:List Span} {s:Span} {x:Int} (h0:0<=x) (h1:x<l.length):CB (l.take (x+1).toNat) s=CB (l.take x.toNat) s++[((gt l x).1,min (gt l x).2 (max (gt l x).1 s.1)),(max (gt l x).1 (min (gt l x).2 s.2),(gt l x).2)]:=by
 rw [G3 h0 h1];simp [CB]
theorem sH (l:List Span) (s:Span):(CB l s).length=2*l.length:=by
 induction l with
 | nil=>rfl
 | cons x l ih=>
  have e:CB (x::l) s=(x.1,min x.2 (max x.1 s.1))::(max x.1 (min x.2 s.2),x.2)::CB l s:=rfl;rw [e,List.length_cons,List.length_cons,ih,List.length_cons];omega
theorem MO (l:List Span) (x:Span):FG (l++[x])=FG l++if x.1<x.2 then [x] else []:=by
 unfold FG;rw [List.filter_append,List.filter_cons];simp only [decide_eq_true_eq,List.filter_nil]
theorem S7 {l:List Span} (h: ∀j:Int,0<=j->j<l.length->(gt l j).1<(gt l j).2):FG l=l:=by
 unfold FG;rw [List.filter_eq_self];intro x hx;obtain ⟨j,a,b,rfl⟩:=Rz hx;simpa using h j a b
theorem Wj {α:Type} {s:List α} {i:Int} {v:α} (h0:0<=i) (h1:i<s.length):(s.set i.toNat v).take (i+1).toNat=s.take i.toNat++[v]:=by
 have h:i.toNat<s.length:=by omega
 rw [show (i+1).toNat=i.toNat+1 by omega,List.take_add_one,List.take_set_of_le (Nat.le_refl _),List.getElem?_set_self h];rfl
theorem aZ {α:Type} {s:List α} {i j:Int} {v:α} (h0:0<=i) (h1:i<j):(s.set i.toNat v).drop j.toNat=s.drop j.toNat:=by
 rw [List.drop_set_of_lt (by omega)]
def thin (out s:List Span) (i j:Int):Prop:=0<=i/\i<=j/\j<=out.length/\s.length=out.length/\s.take i.toNat=FG (out.take j.toNat)/\s.drop j.toNat=out.drop j.toNat
theorem jb {out s:List Span} {i j:Int} (h:thin out s i j) (hj:j<out.length):gt s j=gt out j:=by
 obtain ⟨h1,h2,h3,h4,h5,h6⟩:=h;have a:=Ie (l:=s) (i:=j) (by omega) (by omega);have b:=Ie (l:=out) (i:=j) (by omega) hj;rw [h6,b] at a;exact (List.cons.inj a).1.symm
theorem mE {out s:List Span} {i j:Int} (h:thin out s i j) (hj:j<out.length) (hb:(gt s j).1<(gt s j).2):thin out (s.set i.toNat (gt s j)) (i+1) (j+1):=by
 have e:=jb h hj;obtain ⟨h1,h2,h3,h4,h5,h6⟩:=h;refine ⟨by omega,by omega,by omega,by simp [h4],?_,?_⟩
 ·rw [Wj h1 (by omega),h5,G3 (by omega) hj,MO,<-e,if_pos hb]
 ·rw [aZ h1 (by omega)];have a:=Ie (l:=s) (i:=j) (by omega) (by omega);have b:=Ie (l:=out) (i:=j) (by omega) hj;rw [h6,b] at a;exact (List.cons.inj a).2.symm
theorem mC {out s:List Span} {i j:Int} (h:thin out s i j) (hj:j<out.length) (hb: ¬(gt s j).1<(gt s j).2):thin out s i (j+1):=by
 have e:=jb h hj;obtain ⟨h1,h2,h3,h4,h5,h6⟩:=h;refine ⟨by omega,by omega,by omega,h4,?_,?_⟩
 ·rw [h5,G3 (by omega) hj,MO,<-e,if_neg hb,List.append_nil]
 ·have a:=Ie (l:=s) (i:=j) (by omega) (by omega);have b:=Ie (l:=out) (i:=j) (by omega) hj;rw [h6,b] at a;exact (List.cons.inj a).2.symm
theorem gj {out:List Span} {x:Int} (h0:0<=x) (h1:x<out.length) (h2: ∀j,0<=j->j<x->(gt out j).1<(gt out j).2) (h3: ¬(gt out x).1<(gt out x).2):thin out out x (x+1):=by
 refine ⟨h0,by omega,by omega,rfl,?_,rfl⟩;rw [G3 h0 h1,MO,if_neg h3,List.append_nil,S7];intro j a b;rw [List.length_take] at b;rw [iw a (by omega)];exact h2 j a (by omega)
theorem p8 {out s:List Span} {i j:Int} (h:thin out s i j) (hj: ¬j<out.length):s.take i.toNat=FG out:=by
 obtain ⟨h1,h2,h3,h4,h5,h6⟩:=h;rw [h5,List.take_of_length_le (by omega)]
abbrev FI (s:Span):Prop:=0<=s.1/\s.1<=s.2/\s.2<=1000000
abbrev D1 (l:List Span):Prop:=l.length<=100000/\JW (-1) l
def Ao (l:List Span) (s:Span):List Span:=Hf fun i=>BT l i/\ ¬(s.1<=i/\i<s.2)
def E8 (l:List Span) (s:Span):List Span:=Hf fun i=>BT l i\/(s.1<=i/\i<s.2)
def IV:Ct:=⟨Mg (.sl Gt) Gt,[.own Gt],fun x=>D1 x.1/\FI x.2,fun x=>Ao x.1 x.2⟩
def CP:Ct:=⟨Mg (.sl Gt) Gt,[.val (.sl Gt)],fun x=>D1 x.1/\FI x.2,fun x=>Ao x.1 x.2⟩
def C1:Ct:=⟨Mg (.sl Gt) Gt,[.own Gt],fun x=>D1 x.1/\FI x.2,fun x=>E8 x.1 x.2⟩
def BN:Ct:=⟨dY (.sl Gt),[.own Gt],fun l=>nn l,fun l=>l⟩
def SD (l:List Span):List Span×Int:=if 40<l.length then ([],8) else (l,0)
abbrev NB:List Span->Prop:=fun l=>l.length<=100001/\(∀s∈l,FI s)/\l.Pairwise fun a b=>a.1<=b.1
def K3 (l:List Span):List Span:=Hf (BT l)
def C3:Ct:=⟨dY (.sl Gt),[.own Gt],fun l=>NB l,fun l=>K3 l⟩
end
end Go.Fu
end
section
namespace Go.Fu
open Go.Vc
theorem eT {P:Int->Prop} {m:List Span} {t s:Span} (h:Db P (m++[t])) (h1:t.1<=s.1) (h2:s.1<=t.2) (h3:s.1<=s.2) (h4:s.2<=1000000):Db (fun i=>P i\/(s.1<=i/\i<s.2)) (m++[(t.1,max t.2 s.2)]):=by
 obtain ⟨g1,g2⟩:=h;obtain ⟨k1,k2,k3,k4⟩:=I3.1 g1;refine ⟨I3.2 ⟨k1,k2,by show t.1<max t.2 s.2;omega,by show max t.2 s.2<=1000000;omega⟩,fun i=>?_⟩;have e:=g2 i;rw [E4,Ef] at e;rw [E4,Ef];show BT m i\/(t.1<=i/\i<max t.2 s.2)↔(P i\/(s.1<=i/\i<s.2));rw [<-e];constructor
 ·rintro (a | a)
  ·exact .inl (.inl a)
  ·by_cases c:i<t.2
   ·exact .inl (.inr ⟨a.1,c⟩)
   ·exact .inr (by omega)
 ·rintro ((a | a) | a)
  ·exact .inl a
  ·exact .inr (by omega)
  ·exact .inr (by omega)
theorem eU {P:Int->Prop} {m:List Span} {s:Span} (h:Db P m) (h1:EL (-1) m<s.1) (h3:s.1<s.2) (h4:s.2<=1000000):Db (fun i=>P i\/(s.1<=i/\i<s.2)) (m++[s]):=by
 obtain ⟨g1,g2⟩:=h;refine ⟨I3.2 ⟨g1,h1,h3,h4⟩,fun i=>?_⟩;rw [E4,Ef,g2 i]
structure Jn (l:List Span) (x:Int) (out:List Span):Prop where
 canon:Db (BT (l.take x.toNat)) out
 lo: ∀t∈out,∀j:Int,x<=j->j<l.length->t.1<=(gt l j).1
 len:(out.length:Int)<=x
theorem Jn.init (l:List Span):Jn l 0 []:=
 ⟨⟨trivial,fun i=>by simp [DP]⟩,fun t h=>by simp at h,by simp⟩
section
variable {l out : List Span} {x : Int}
theorem Rk (h0:0<=x) (h1:x<l.length) (i:Int):BT (l.take (x+1).toNat) i↔BT (l.take x.toNat) i\/((gt l x).1<=i/\i<(gt l x).2):=by
 rw [G3 h0 h1,E4,Ef]
theorem Jn.skip (h:Jn l x out) (h0:0<=x) (h1:x<l.length) (e:(gt l x).1=(gt l x).2):Jn l (x+1) out:=
 ⟨⟨h.canon.1,fun i=>by
  rw [Rk h0 h1,h.canon.2 i];constructor
  ·exact .inl
  ·rintro (a | a)
   ·exact a
   ·omega⟩,fun t ht j a b=>h.lo t ht j (by omega) b,by have:=h.len;omega⟩
theorem tY {l:List Span} (h:NB l) {i j:Int} (h0:0<=i) (h1:i<j) (h2:j<l.length):(gt l i).1<=(gt l j).1:=by
 have:=List.pairwise_iff_getElem.1 h.2.2 i.toNat j.toNat (by omega) (by omega) (by omega);rw [NQ h0 (by omega),NQ (by omega) h2];exact this
theorem Jn.more (h:Jn l x out) (ha:NB l) (h0:0<=x) (h1:x<l.length) (hn:0<out.length) (e:(gt l x).1<=(gt out ((out.length:Int)-1)).2):
  Jn l (x+1) (out.set ((out.length:Int)-1).toNat ((gt out ((out.length:Int)-1)).1,max (gt out ((out.length:Int)-1)).2 (gt l x).2)):=by
 obtain ⟨m,t,rfl,e1,e2⟩:=RU (l:=out) (fun q=>by rw [q] at hn;simp at hn);have sp:=ha.2.1 _ (Kz h0 h1);rw [e1] at e;rw [e2,e1];have tl:=h.lo t (by simp) x (Int.le_refl _) h1;have cm:=eT h.canon tl e sp.2.1 sp.2.2;refine ⟨⟨cm.1,fun i=>by rw [cm.2 i,Rk h0 h1]⟩,fun u hu j a b=>?_,by have:=h.len;simp only [List.length_append,List.length_singleton] at*;omega⟩;simp only [List.mem_append,List.mem_singleton] at hu;rcases hu with hu | rfl
 ·exact h.lo u (by simp [hu]) j (by omega) b
 ·exact h.lo t (by simp) j (by omega) b
theorem Jn.next (h:Jn l x out) (ha:NB l) (h0:0<=x) (h1:x<l.length) (e: ¬(gt l x).1=(gt l x).2) (hn: ¬(0<out.length/\(gt l x).1<=(gt out ((out.length:Int)-1)).2)):Jn l (x+1) (out++[gt l x]):=by
 have sp:=ha.2.1 _ (Kz h0 h1);have le:EL (-1) out<(gt l x).1:=by
  by_cases q:out=[]
  ·subst q;show-1<_;have:=sp.1;omega
  ·have ql:0<out.length:=List.length_pos_iff.2 q;rw [fV q];exact Classical.byContradiction fun w=>hn ⟨ql,by omega⟩
 have cn:=eU h.canon le (by have:=sp.2.1;omega) sp.2.2;refine ⟨⟨cn.1,fun i=>by rw [cn.2 i,Rk h0 h1]⟩,fun u hu j a b=>?_,by have:=h.len;simp only [List.length_append,List.length_singleton];omega⟩;simp only [List.mem_append,List.mem_singleton] at hu;rcases hu with hu | rfl
 ·exact h.lo u hu j (by omega) b
 ·exact tY ha h0 (by omega) b
theorem Jn.fin (h:Jn l x out) (hx: ¬x<l.length):out=K3 l:=by
 have c:=h.canon;rw [List.take_of_length_le (by omega)] at c;exact (LM c).symm
end
noncomputable def D0 (l:List Span) (i:Int) (s:Span):List Span:=l.take i.toNat++[s]++l.drop i.toNat
theorem rQ {l:List Span} {s:Span} {i:Int} (hl:D1 l) (hs:FI s) (h0:0<=i) (h1:i<=l.length) (lo: ∀j:Int,0<=j->j<i->(gt l j).1<s.1) (hi: ∀j:Int,i<=j->j<l.length->s.1<=(gt l j).1):NB (D0 l i s):=by
 have hm: ∀x∈l,FI x:=fun x hx=>by
  have:=GL hl.2 x hx;exact ⟨by omega,by omega,this.2.2⟩
 have pw: ∀ {l:List Span} {a:Int},JW a l->l.Pairwise fun a b=>a.1<=b.1:=by
  intro l
  induction l with
  | nil=>intro a _;exact .nil
  | cons s l ih=>
   intro a h;refine .cons (fun b hb=>?_) (ih h.2.2.2);have:=GL h.2.2.2 b hb;have:=h.2.1;omega
 have pl:=pw hl.2;refine ⟨?_,fun x hx=>?_,?_⟩
 ·unfold D0;simp only [List.length_append,List.length_take,List.length_singleton,List.length_drop];have:=hl.1;omega
 ·unfold D0 at hx;simp only [List.mem_append,List.mem_singleton] at hx;rcases hx with (hx | rfl) | hx
  ·exact hm x (List.mem_of_mem_take hx)
  ·exact hs
  ·exact hm x (List.mem_of_mem_drop hx)
 ·unfold D0;rw [List.append_assoc,List.pairwise_append];refine ⟨pl.sublist (List.take_sublist _ _),?_,fun a ha b hb=>?_⟩
  ·rw [List.singleton_append,List.pairwise_cons];refine ⟨fun b hb=>?_,pl.sublist (List.drop_sublist _ _)⟩;obtain ⟨j,j0,j1,rfl⟩:=Rz hb;rw [iv j0];simp only [List.length_drop] at j1;exact hi _ (by omega) (by omega)
  ·obtain ⟨j,j0,j1,rfl⟩:=Rz ha;simp only [List.length_take] at j1;rw [iw j0 (by omega)];have l1:=lo j j0 (by omega);simp only [List.singleton_append,List.mem_cons] at hb;rcases hb with rfl | hb
   ·omega
   ·obtain ⟨k,k0,k1,rfl⟩:=Rz hb;rw [iv k0];simp only [List.length_drop] at k1;have:=hi (k+i.toNat) (by omega) (by omega);omega
theorem fN {l:List Span} {s:Span} {i:Int}:K3 (D0 l i s)=E8 l s:=by
 unfold K3 E8;refine SX fun j=>?_;unfold D0;rw [E4,E4,Ef];have e:BT l j↔BT (l.take i.toNat) j\/BT (l.drop i.toNat) j:=by
  conv=>lhs;rw [<-List.take_append_drop i.toNat l]
  rw [E4]
 rw [e];constructor
 ·rintro ((a | a) | a)
  ·exact .inl (.inl a)
  ·exact .inr a
  ·exact .inl (.inr a)
 ·rintro ((a | a) | a)
  ·exact .inl (.inl a)
  ·exact .inr a
  ·exact .inl (.inr a)
end Go.Fu
end
section
namespace Go.Fu
open Go.Vc
noncomputable section
def Pm (l:List Span) (e:BW) (j:Int):Prop:=(∃i,BT l i/\ ¬(e.1<=i/\i<e.1+e.2.1)/\VL e i true=j)\/(e.1<=j/\j<e.1+e.2.2.length)
def Dt (l:List Span) (e:BW):List Span:=Hf (Pm l e)
def Xy (size:Int) (l:List Span):Prop:=0<=size/\size<=600/\AP size (-1) l
abbrev Vm (l:List Span) (e:BW):Prop:= ∃size,Xy size l/\BO size e=0
def Ck:Ct:=⟨Mg (.sl Gt) TJ,[.own Gt],fun x=>Vm x.1 x.2,fun x=>Dt x.1 x.2⟩
def Mc (size:Int) (l:List Span) (e:BW):List Span×Int:=
 open Classical in if ¬RD size l then ([],4) else if BO size e≠0 then ([],BO size e) else SD (Dt l e)
end
theorem ZZ {size:Int} {l:List Span} {e:BW} (h:RD size l) (g:BO size e=0):Mc size l e=SD (Dt l e):=by unfold Mc;rw [if_neg (by simpa using h),if_neg (by simpa using g)]
theorem aH (P:Int->Prop): ∀n:Nat,n<=1000000-> ∃l,Db (fun j=>0<=j/\j<(n:Int)/\P j) l
 | 0,_=>⟨[],trivial,fun i=>by simp [DP];omega⟩
 | n+1,hn=>by
  obtain ⟨l,h⟩:=aH P n (by omega);rw [show ((n+1:Nat):Int)=(n:Int)+1 by omega];by_cases p:P (n:Int)
  ·by_cases q:0<(n:Int)/\P ((n:Int)-1)
   ·exact ⟨_,(eS q.1 (by omega) h p q.2).2⟩
   ·exact ⟨_,j9 (by omega) (by omega) h p q⟩
  ·exact ⟨l,eX h p⟩
theorem NC {P:Int->Prop} (h: ∀j,P j->0<=j/\j<1000000):Db P (Hf P):=by
 obtain ⟨l,g1,g2⟩:=aH P 1000000 (Nat.le_refl _);have:Db P l:=⟨g1,fun i=>by rw [g2 i];exact ⟨fun q=>q.2.2,fun q=>⟨(h i q).1,(h i q).2,q⟩⟩⟩
 rw [LM this];exact this
theorem Xx {m n:Int}: ∀ {l:List Span} {a:Int},AP n a l->(∀j,BT l j->j<m)->AP m a l
 | [],_,_,_=>trivial
 | s::l,a,h,g=>⟨h.1,h.2.1,by have:=g (s.2-1) (A_.2 (.inl (by have:=h.2.1;omega)));omega,Xx h.2.2.2 fun j hj=>g j (A_.2 (.inr hj))⟩
theorem Q8 {n:Int}: ∀ {l:List Span} {a:Int},a<=n->AP n a l->(l.length:Int)<=n-a
 | [],_,h,_=>by simp;omega
 | s::l,a,h,g=>by have:=Q8 g.2.2.1 g.2.2.2;have:=g.1;have:=g.2.1;simp only [List.length_cons];omega
theorem HE {P:Int->Prop} {l:List Span} {m:Int} (h:Db P l) (hm: ∀j,P j->j<m) (h0: -1<=m):AP m (-1) l/\(l.length:Int)<=m+1:=by
 have:=Xx h.1 fun j hj=>hm j ((h.2 j).1 hj);exact ⟨this,by have:=Q8 h0 this;omega⟩
def IU (e:BW) (s:Span):List Span:=
 if s.1<e.1/\e.1<s.2 then [(s.1,e.1),(e.1+(e.2.2.length-e.2.1),s.2+(e.2.2.length-e.2.1))]
 else if e.1<=s.1 then [(s.1+(e.2.2.length-e.2.1),s.2+(e.2.2.length-e.2.1))] else [s]
def F6 (e:BW) (l:List Span):List Span:=l.flatMap (IU e)
theorem gS {e:BW} {l:List Span} {x:Int} (h0:0<=x) (h1:x<l.length):F6 e (l.take (x+1).toNat)=F6 e (l.take x.toNat)++IU e (gt l x):=by
 unfold F6;rw [G3 h0 h1];simp
def db (e:BW) (s:Span):Prop:=0<=s.1/\s.1<s.2/\s.2<=600/\0<=e.1/\0<=e.2.1/\e.2.2.length<=600+e.2.1/\e.1+e.2.1<=600/\(e.2.1=0\/s.2<=e.1\/e.1+e.2.1<=s.1)
theorem Jy {e:BW} {i:Int} (h:i<e.1):VL e i true=i:=by unfold VL;rw [if_pos h]
theorem Jx {e:BW} {i:Int} (h0:0<=e.2.1) (h:e.1+e.2.1<=i):VL e i true=i+e.2.2.length-e.2.1:=by
 unfold VL;rw [if_neg (by omega)];split
 ·rfl
 ·rw [if_pos rfl];omega
theorem kf {e:BW} {s:Span} (h:db e s) (j:Int):BT (IU e s) j↔ ∃i,s.1<=i/\i<s.2/\VL e i true=j:=by
 obtain ⟨a1,a2,a3,a4,a5,a6,a7,a8⟩:=h;unfold IU;by_cases c1:s.1<e.1/\e.1<s.2
 ·rw [if_pos c1,A_,Ef];have z:e.2.1=0:=by omega
  constructor
  ·rintro (q | q)
   ·exact ⟨j,q.1,by omega,Jy q.2⟩
   ·exact ⟨j-(e.2.2.length-e.2.1),by omega,by omega,by rw [Jx a5 (by omega)];omega⟩
  ·rintro ⟨i,b1,b2,b3⟩;by_cases c:i<e.1
   ·rw [Jy c] at b3;left;omega
   ·rw [Jx a5 (by omega)] at b3;right;omega
 ·rw [if_neg c1];by_cases c2:e.1<=s.1
  ·rw [if_pos c2,Ef];constructor
   ·rintro q;exact ⟨j-(e.2.2.length-e.2.1),by omega,by omega,by rw [Jx a5 (by omega)];omega⟩
   ·rintro ⟨i,b1,b2,b3⟩;rw [Jx a5 (by omega)] at b3;omega
  ·rw [if_neg c2,Ef];constructor
   ·rintro q;exact ⟨j,q.1,q.2,Jy (by omega)⟩
   ·rintro ⟨i,b1,b2,b3⟩;rw [Jy (by omega)] at b3;omega
theorem Us {e:BW}: ∀ {l:List Span},(∀s∈l,db e s)-> ∀j:Int,BT (F6 e l) j↔ ∃i,BT l i/\VL e i true=j
 | [],_,j=>by simp [F6,DP]
 | s::l,h,j=>by
  have e1:F6 e (s::l)=IU e s++F6 e l:=by simp [F6]
  rw [e1,E4,kf (h s (by simp)),Us (fun t ht=>h t (by simp [ht]))];constructor
  ·rintro (⟨i,a,b,c⟩ | ⟨i,a,b⟩)
   ·exact ⟨i,A_.2 (.inl ⟨a,b⟩),c⟩
   ·exact ⟨i,A_.2 (.inr a),b⟩
  ·rintro ⟨i,a,b⟩;rcases A_.1 a with a | a
   ·exact .inl ⟨i,a.1,a.2,b⟩
   ·exact .inr ⟨i,a,b⟩
theorem dO {e:BW} {s:Span} (h:db e s): ∀t∈IU e s,0<=t.1/\t.1<=t.2/\t.2<=1800:=by
 obtain ⟨a1,a2,a3,a4,a5,a6,a7,a8⟩:=h;intro t ht;unfold IU at ht;split at ht
 ·simp at ht;rcases ht with rfl | rfl<;>simp only<;>omega
 ·split at ht
  ·simp at ht;subst ht;simp only;omega
  ·simp at ht;subst ht;omega
theorem pf (e:BW) (s:Span):(IU e s).length<=2:=by unfold IU;split<;>(try split)<;>simp
theorem SC (e:BW): ∀l:List Span,(F6 e l).length<=2*l.length
 | []=>by simp [F6]
 | s::l=>by
  have e1:F6 e (s::l)=IU e s++F6 e l:=by simp [F6]
  have:=pf e s;have:=SC e l;rw [e1,List.length_append,List.length_cons];omega
theorem dH {n:Int}: ∀ {l:List Span} {a:Int},AP n a l->l.Pairwise fun s t=>s.2<t.1
 | [],_,_=>.nil
 | s::l,a,h=>.cons (fun t ht=>(GL h.2.2.2 t ht).1) (dH h.2.2.2)
theorem ly {e:BW} {l:List Span} {n a:Int} (hl:AP n a l) (hu: ∀s∈l,db e s) (hn:l.length<=50000):NB (F6 e l):=by
 refine ⟨by have:=SC e l;omega,fun t ht=>?_,?_⟩
 ·simp only [F6,List.mem_flatMap] at ht;obtain ⟨s,h1,h2⟩:=ht;have:=dO (hu s h1) t h2;exact ⟨this.1,this.2.1,by omega⟩
 ·unfold F6;rw [List.pairwise_flatMap];refine ⟨fun s hs=>?_,(dH hl).imp_of_mem fun {s t} hs ht hst x hx y hy=>?_⟩
  ·obtain ⟨a1,a2,a3,a4,a5,a6,a7,a8⟩:=hu s hs;unfold IU;split
   ·simp;omega
   ·split<;>simp
  ·obtain ⟨a1,a2,a3,a4,a5,a6,a7,a8⟩:=hu s hs;obtain ⟨b1,b2,b3,b4,b5,b6,b7,b8⟩:=hu t ht;unfold IU at hx hy;split at hx<;>split at hy
   ·omega
   ·split at hy<;>simp at hx hy<;>subst hy<;>rcases hx with rfl | rfl<;>simp only<;>omega
   ·split at hx<;>simp at hx hy<;>subst hx<;>rcases hy with rfl | rfl<;>simp only<;>omega
   ·split at hx<;>split at hy<;>simp at hx hy<;>subst hx<;>subst hy<;>(try simp only)<;>omega
theorem kq {l:List Span} (h:NB l):Db (BT l) (K3 l):=
 NC fun j ⟨s,hs,a,b⟩=>by
  have:=h.2.1 s hs;exact ⟨by omega,by omega⟩
theorem Pz {l:List Span} {s:Span} (h:JW (-1) l):Db (fun i=>BT l i/\ ¬(s.1<=i/\i<s.2)) (Ao l s):=
 NC fun j ⟨a,_⟩=>by have:=JH h a;omega
theorem RD.set {size:Int} {l:List Span} (h:RD size l):Xy size l:=⟨h.1,h.2.1,h.2.2.2⟩
theorem Xy.pre {size:Int} {l:List Span} (h:Xy size l):D1 l:=⟨by have:=Q8 (by have:=h.1;omega) h.2.2;have:=h.2.1;omega,Ns (by have:=h.2.1;omega) (Int.le_refl _) h.2.2⟩
theorem U8 {size:Int} {l:List Span} {e:BW} (ok:Xy size l) (f:BO size e=0):(∀s∈Ao l (e.1,e.1+e.2.1),db e s)/\AP 600 (-1) (Ao l (e.1,e.1+e.2.1))/\((Ao l (e.1,e.1+e.2.1)).length:Int)<=601:=by
 have m:=Bb.1 (show Bz size e from f);have hc:=Pz (s:=(e.1,e.1+e.2.1)) ok.pre.2;have hs:=HE hc (m:=600) (fun j hj=>by have:=JH ok.2.2 hj.1;have:=ok.2.1;omega) (by omega);refine ⟨fun s hs'=>?_,hs.1,by omega⟩;have b:=GL hs.1 s hs';have z: ∀i,s.1<=i->i<s.2-> ¬(e.1<=i/\i<e.1+e.2.1):=fun i a b=>((hc.2 i).1 ⟨s,hs',a,b⟩).2;have z1:=z s.1 (Int.le_refl _) b.2.1;have z2:=z e.1;refine ⟨by omega,b.2.1,b.2.2,m.2.2.1,m.2.2.2.2.1,by omega,by omega,?_⟩;by_cases c:e.2.1=0
 ·exact .inl c
 ·right;by_cases d:s.2<=e.1
  ·exact .inl d
  ·right;by_cases d2:e.1+e.2.1<=s.1
   ·exact d2
   ·exfalso;by_cases d3:e.1<=s.1
    ·exact z1 ⟨d3,by omega⟩
    ·exact z2 (by omega) (by omega) ⟨by omega,by omega⟩
theorem gU {size:Int} {l:List Span} {e:BW} (ok:Xy size l) (f:BO size e=0):
  NB (F6 e (Ao l (e.1,e.1+e.2.1)))/\D1 (K3 (F6 e (Ao l (e.1,e.1+e.2.1))))/\FI (e.1,e.1+e.2.2.length)/\E8 (K3 (F6 e (Ao l (e.1,e.1+e.2.1)))) (e.1,e.1+e.2.2.length)=Dt l e:=by
 have m:=Bb.1 (show Bz size e from f);obtain ⟨u1,u2,u3⟩:=U8 ok f;have ha:=ly u2 u1 (by omega);have hj:=kq ha;have hc:=Pz (s:=(e.1,e.1+e.2.1)) ok.pre.2;have small: ∀j,BT (F6 e (Ao l (e.1,e.1+e.2.1))) j->j<1800:=fun j ⟨t,ht,a,b⟩=>by
  simp only [F6,List.mem_flatMap] at ht;obtain ⟨s,h1,h2⟩:=ht;have:=dO (u1 s h1) t h2;omega
 have hs:=HE hj (m:=1800) small (by omega);refine ⟨ha,⟨by omega,hj.1⟩,⟨m.2.2.1,by show e.1<=e.1+e.2.2.length;omega,by show e.1+(e.2.2.length:Int)<=1000000;omega⟩,SX fun j=>?_⟩;rw [hj.2 j,Us u1];unfold Pm;constructor
 ·rintro (⟨i,a,b⟩ | a)
  ·have:=(hc.2 i).1 a;exact .inl ⟨i,this.1,this.2,b⟩
  ·exact .inr a
 ·rintro (⟨i,a,b,c⟩ | a)
  ·exact .inl ⟨i,(hc.2 i).2 ⟨a,b⟩,c⟩
  ·exact .inr a
end Go.Fu
end
section
namespace Go.Fu
open Go.Vc
end Go.Fu
end
section
namespace Go.Fu
open Go.Vc
noncomputable section
def Hs (p:Int×Int×Int) (c:UInt8):Int×Int×Int:=if c=10 then (p.1+1,p.2.1+1,0) else (p.1+1,p.2.1,p.2.2+1)
def posOf (s:Bytes):Int×Int×Int:=s.foldl Hs (0,0,0)
def GK:Ct:=⟨dY .str,[.val wu],fun s=>M3 s,fun s=>posOf s⟩
theorem IP (s:Bytes) (c:UInt8):posOf (s++[c])=Hs (posOf s) c:=by simp [posOf]
theorem Pj {s:Bytes} {i:Int} (h0:0<=i) (h1:i<s.length):posOf (s.take (i+1).toNat)=Hs (posOf (s.take i.toNat)) (gt s i):=by
 rw [G3 h0 h1,IP]
theorem Iy (s:Bytes):(posOf s).1=s.length/\0<=(posOf s).2.1/\0<=(posOf s).2.2/\(posOf s).2.1+(posOf s).2.2<=s.length/\((posOf s).2.1=0->(posOf s).2.2=s.length):=by
 induction s using Nw with
 | h0=>simp [posOf]
 | h1 s c ih=>
  rw [IP];simp only [Hs,List.length_append,List.length_cons,List.length_nil];split<;>simp only<;>omega
theorem Ph {s:Bytes} {i:Int} (h0:0<=i): ∀(n:Nat),i+n<=s.length->(∀j,i<=j->j<i+n->gt s j≠10)->posOf (s.take (i+n).toNat)=((posOf (s.take i.toNat)).1+n,(posOf (s.take i.toNat)).2.1,(posOf (s.take i.toNat)).2.2+n)
 | 0,h1,h2=>by simp
 | n+1,h1,h2=>by
  have ih:=Ph h0 n (by omega) fun j a b=>h2 j a (by omega);rw [show i+((n+1:Nat):Int)=(i+n)+1 by omega,Pj (by omega) (by omega),ih];simp only [Hs];rw [if_neg (h2 _ (by omega) (by omega))];refine Prod.ext ?_ (Prod.ext ?_ ?_)<;>simp only<;>omega
theorem gJ {s:Bytes} {i j:Int} (h0:0<=i) (h1:i<=j) (h2:j<=s.length):(posOf (s.take i.toNat)).2.1<=(posOf (s.take j.toNat)).2.1:=by
 have: ∀n:Nat,i+n<=s.length->(posOf (s.take i.toNat)).2.1<=(posOf (s.take (i+n).toNat)).2.1:=by
  intro n
  induction n with
  | zero=>intro _;simp
  | succ n ih=>
   intro h;have:=ih (by omega);rw [show i+((n+1:Nat):Int)=(i+n)+1 by omega,Pj (by omega) (by omega)];simp only [Hs];split<;>simp only<;>omega
 have:=this (j-i).toNat (by omega);rwa [show i+((j-i).toNat:Int)=j by omega] at this
end
end Go.Fu
end
section
namespace Go.Fu
open Go.Vc
noncomputable section
end
end Go.Fu
end
section
namespace Go.Fu
open Go.Vc
noncomputable section
def Y4 (s:Bytes) (lo:Int):Int:=Classical.epsilon fun r=>0<=r/\r<=lo/\(∀j,r<=j->j<lo->gt s j≠10)/\(0<r->gt s (r-1)=10)
theorem XU {s:Bytes} {lo r:Int} (h:0<=r/\r<=lo/\(∀j,r<=j->j<lo->gt s j≠10)/\(0<r->gt s (r-1)=10)):Y4 s lo=r:=by
 have g:=Classical.epsilon_spec (p:=fun r=>0<=r/\r<=lo/\(∀j,r<=j->j<lo->gt s j≠10)/\(0<r->gt s (r-1)=10)) ⟨r,h⟩;change _/\_ at g;obtain ⟨h0,h1,h2,h3⟩:=h;obtain ⟨g0,g1,g2,g3⟩:=g;simp only [Y4];rcases Int.lt_trichotomy (Classical.epsilon fun r=>0<=r/\r<=lo/\(∀j,r<=j->j<lo->gt s j≠10)/\(0<r->gt s (r-1)=10)) r with c | c | c
 ·exact absurd (h3 (by omega)) (g2 _ (by omega) (by omega))
 ·exact c
 ·exact absurd (g3 (by omega)) (h2 _ (by omega) (by omega))
def kY (s:Bytes) (hi r:Int):Prop:=hi<=r/\r<=s.length/\(∀j,hi<=j->j<r-1->gt s j≠10)/\((r<s.length\/hi<r/\gt s (r-1)=10)->hi<r/\gt s (r-1)=10)
theorem kZ {s:Bytes} {hi q r:Int} (h:kY s hi r) (g:kY s hi q):q=r:=by
 obtain ⟨h0,h1,h2,h3⟩:=h;obtain ⟨g0,g1,g2,g3⟩:=g;rcases Int.lt_trichotomy q r with c | c | c
 ·have:=g3 (.inl (by omega));exact absurd this.2 (h2 _ (by omega) (by omega))
 ·exact c
 ·have:=h3 (.inl (by omega));exact absurd this.2 (g2 _ (by omega) (by omega))
def fY (s:Bytes) (hi:Int):Int:=Classical.epsilon (kY s hi)
theorem XT {s:Bytes} {hi r:Int} (h:kY s hi r):fY s hi=r:=
 kZ h (Classical.epsilon_spec (p:=kY s hi) ⟨r,h⟩)
def Zn (s:Bytes) (x:Int×Int):Int×Int:=(Y4 s x.1,fY s x.2)
def Md (s:Bytes) (x:Int×Int):(Int×Int)×Int:=
 if 600<s.length then ((0,0),1) else if x.1<0\/x.2<x.1\/(s.length:Int)<x.2 then ((0,0),2) else (Zn s x,0)
end
end Go.Fu
end
