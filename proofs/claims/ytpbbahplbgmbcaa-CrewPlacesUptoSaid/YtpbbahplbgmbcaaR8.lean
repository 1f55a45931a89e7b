/- Part of the proof of crewPlacesUpto_holds: the whole is true of every input. Conditions: none. -/
import Derived.Test.YtpbbahplbgmbcaaR7
set_option linter.all false
section
namespace Go.Vc
theorem mpr' {p q:Prop} (h:p) (e:p=q):q:=e▸h
def lawCt (ts:Tys):Ct:=⟨ts,[.val .bool],okTs ts,fun _=>true⟩
def SpOk (P:Program) (f:Nat) (s:Sp):Prop:= ∀ {xs:List TV} {G:List RF} {TS:List TOb} {ps:List Prop} {y:TV} {G':List RF} {TS':List TOb},s.ev xs G TS=some (ps,y,G',TS')→AllP ps→
 ∀ {H:HF} {S:Store} {AG:List Frame} {ys:List AVal},St3 H TS S→SimG H G AG→SimL H xs ys→ACalls P f ys S fun r S'=> ∃H',St3 H' TS' S'∧SimG H' G' AG∧SimV H' y r
structure FiOk (P:Program) (f:Nat) (fi:Fi):Prop where
 able:fi.sp=none→callable P f=true
 out: ∀ {args:List AVal} {S:Store} {R:AVal→Store→Prop},fi.sp=none→vcFun P fi.code fi.res args S R→args.length≤fi.n→ACalls P f args S R
 sum: ∀s,fi.sp=some s→SpOk P f s
def Fis (P:Program):List (Nat×Fi)→Prop
 | []=>True
 | (f,fi)::L=>FiOk P f fi∧Fis P L
theorem Fis.look {P:Program}: ∀ {L:List (Nat×Fi)} {f:Nat} {fi:Fi},Fis P L→lookN L f=some fi→FiOk P f fi
 | [],_,_,_,h=>by simp [lookN] at h
 | (g,c)::L,f,ct,hc,h=>by
  simp only [lookN] at h
  split at h
  ·rename_i hb;cases h;rw [←beq_eq hb];exact hc.1
  ·exact Fis.look hc.2 h
theorem arg_sim {H:HF}: ∀ {xs:List TV} {ys:List AVal} (i:Nat),SimL H xs ys→SimF H (argT i xs) (argF i ys)∧PlainF (argT i xs)
 | [],ys,i,h=>⟨fun s gs P x hx=>by simp [argT,lookN] at hx,fun s gs P x hx=>by simp [argT,lookN] at hx⟩
 | x::xs,ys,i,h=>by
  simp only [SimL] at h
  obtain ⟨y,zs,rfl,h1,h2⟩:=h
  obtain ⟨g1,g2⟩:=arg_sim (i+1) h2
  refine ⟨fun s gs P z hz=>?_,fun s gs P z hz=>?_⟩<;>simp only [argT,lookN] at hz
  ·simp only [argF]
   split at hz
   ·rename_i hb
    cases hz
    rw [←beq_eq hb]
    exact plainEnt (by rw [get_cons,if_pos rfl];exact h1)
   ·rename_i hb
    have hne:i≠s:=fun e=>by subst e;simp at hb
    obtain ⟨rfl,rfl⟩:=g2 _ _ _ _ hz
    exact plainEnt (by rw [get_cons,if_neg hne];exact (g1 _ _ _ _ hz).on holds_nil)
  ·split at hz
   ·cases hz;exact ⟨rfl,rfl⟩
   ·exact g2 _ _ _ _ hz
theorem res_sound {H:HF} {TS:List TOb} {S:Store} {F:RF} {A:Frame} (st:St3 H TS S) (hF:SimF H F A): ∀ {rs:List RRes} {xs:List TV} {K:List AVal→Prop},resV F TS rs=some xs→(∀ys,SimL H xs ys→K ys)→wRes A S K rs
 | [],xs,K,h,hk=>by simp only [resV,Option.some.injEq] at h;subst h;exact hk _ (by simp [SimL])
 | .tmp t::rs,xs,K,h,hk=>by
  simp only [resV] at h
  split at h<;>cases h
  rename_i zs hz
  simp only [wRes,getK_iff]
  exact res_sound st hF hz fun ys hs=>hk _ (by simp only [SimL];exact ⟨_,_,rfl,lookT_sim hF t,hs⟩)
 | .cell t n ag::rs,xs,K,h,hk=>by
  simp only [resV] at h
  split at h
  ·rename_i l off hl
   split at h
   ·rename_i k cs ho
    split at h
    ·rename_i us hu
     split at h<;>cases h
     rename_i y zs hm hz
     simp only [wRes,getK_iff]
     have hs:=lookT_sim hF t
     rw [hl] at hs
     have he:evLoad TS n ag (.ptr l off)=some ([],y):=by simp [evLoad,ho,partV,hu,hm]
     exact load_sound' st he hs fun z hz'=>res_sound st hF hz fun ys hs=>hk _ (by simp only [SimL];exact ⟨_,_,rfl,hz',hs⟩)
    ·cases h
   ·cases h
  ·cases h
theorem retV_iff {ys:List AVal} {K:AVal→Prop}:retV ys K↔K (retA ys):=by
 match ys with
 | []=>exact Iff.rfl
 | [x]=>exact Iff.rfl
 | x::y::ys=>exact Iff.rfl
section
variable {P : Program} {Γ : List (Nat × Ct)} {call : Nat → List TV → List RF → List TOb → (TV → List RF → List TOb → Prop) → Prop}
theorem tFunL_sound (hΓ:Cons P Γ) (hC:CallOk P call) {hi:Hi} {c:SCode} {an:An} {res:List RRes} {xs:List TV} {G:List RF} {TS:List TOb} {K:List TV→List RF→List TOb→Prop} {H:HF} {S:Store} {AG:List Frame} {ys:List AVal} {R:AVal→Store→Prop}
  (h:tFunL Γ call hi c an res xs G TS K) (st:St3 H TS S) (hG:SimG H G AG) (hs:SimL H xs ys) (hR: ∀zs us S' H' G' TS',K zs G' TS'→St3 H' TS' S'→SimG H' G' AG→SimL H' zs us→R (retA us) S'):vcFun P c res ys S R:=by
 unfold vcFun
 have fin: ∀ {A':Frame} {S':Store} {H':HF} {F':RF} {G':List RF} {TS':List TOb},St3 H' TS' S'→SimF H' F' A'→SimG H' G' AG→(match resV F' TS' res with | some xs=>K xs G' TS' | none=>False)→wRes A' S' (fun xs=>retV xs fun r=>R r S') res:=fun q1 q2 q3 q4=>by
  split at q4
  ·rename_i zs hz
   exact res_sound q1 q2 hz fun us hu=>retV_iff.2 (hR _ _ _ _ _ _ q4 q1 q3 hu)
  ·exact q4.elim
 refine tvc_sound hΓ hC hi c an st (arg_sim 0 hs).1 hG h fun e A' S' H' F' G' TS' q1 q2 q3 q4=>?_
 cases e with
 | normal=>exact fin q1 q2 q3 q4
 | exit id=>exact q4.elim
 | ret=>exact fin q1 q2 q3 q4
theorem callN_ok (hΓ:Cons P Γ) {L:List (Nat×Fi)} (hL:Fis P L): ∀n,CallOk P (callN Γ L n)
 | 0=>⟨fun h=>h.elim⟩
 | n+1=>by
  have ih:=callN_ok hΓ hL n
  refine ⟨fun {f xs G TS K} h {H S AG ys} st hG hs=>?_⟩
  simp only [callN] at h
  ·split at h
   ·rename_i fi hf
    split at h
    ·rename_i s hs'
     split at h
     ·rename_i ps y G' TS' he
      obtain ⟨h1,h2⟩:=conj_iff.1 h
      exact ACallsMono ((hL.look hf).sum s hs' he h1 st hG hs) fun r S' ⟨H',q1,q2,q3⟩=>⟨H',G',TS',y,h2,q1,q2,q3⟩
     ·exact h.elim
    rename_i hsn
    split at h
    ·rename_i hb
     have ok:=hL.look hf
     refine ok.out hsn (tFunL_sound hΓ ih (R:=fun r S'=> ∃H' G' TS' x,K x G' TS'∧St3 H' TS' S'∧SimG H' G' AG∧SimV H' x r) h st hG hs fun zs us S' H' G' TS' q1 q2 q3 q4=>⟨H',G',TS',retT zs,q1,q2,q3,ret_sim q4⟩) ?_
     rw [hs.length]
     exact Nat.le_of_ble_eq_true hb
    ·exact h.elim
   ·exact h.elim
theorem decA0_le {H:HF} {t:Ty} {x:TV} {a:T t} {y:AVal} (h:decA [] t x=some a) (hs:SimV H x y):LeV y (encA t a):=by
 intro E fz w v hr
 cases t with
 | sl e=>
  simp only [decA] at h
  unfold decS at h
  split at h
  ·split at h<;>cases h
   rename_i hh _
   subst hh
   simp only [SimV] at hs
   subst hs
   exact hr
  ·cases h
   simp only [SimV] at hs
   subst hs
   simp only [Rel,encA] at hr ⊢
   exact .inl ⟨rfl,none,0,hr⟩
  ·simp [objAt] at h
  ·simp [objAt] at h
  ·cases h
 | int k=>
  simp only [decA,decAI] at h
  split at h
  ·rename_i k' n hi
   split at h<;>cases h
   rename_i hk
   have hk:=kEq_eq hk
   subst hk
   rw [asI_sim hi hs] at hr
   exact hr
  ·cases h
 | str=>
  simp only [decA] at h
  unfold decAS at h
  split at h<;>cases h
  simp only [SimV] at hs
  subst hs
  exact hr
 | bool=>
  simp only [decA] at h
  rw [asB_sim h hs] at hr
  exact hr
 | st fs=>
  simp only [decA] at h
  unfold decAg at h
  split at h
  ·split at h<;>cases h
   rename_i hd
   simp only [SimV] at hs
   obtain ⟨xs,rfl,hs⟩:=hs
   obtain ⟨zs,rfl,hz⟩:=decCs_sim fs hd hs
   simp only [SimL] at hz
   subst hz
   rw [List.append_nil] at hr
   exact hr
  ·cases h
theorem hasN_mem: ∀ {l:List Nat} {n:Nat},hasN l n=false→n ∉ l
 | [],_,_=>by simp
 | a::l,n,h=>by
  simp only [hasN] at h
  split at h
  ·cases h
  ·rename_i hb
   intro hm
   rcases List.mem_cons.1 hm with e | e
   ·subst e;simp at hb
   ·exact hasN_mem h e
def one1 (r:RTy) (a:RT r) (n:Nat) (y y':AVal) (S:Store) (L:List (Nat×Ob)):Prop:=
 match r,a with
 | .val t,a=>LeV y y'∧y'=encA t a∧L=[]
 | .own t,a=>(∃p v o0,y= .sl p v 0 (List.length (α:=T t) a)∧y'= .sl n v 0 (List.length (α:=T t) a)∧S[p]?=some o0∧LeO o0 (.row v (szT t) (List.flatMap (α:=T t) (encT t) a))∧L=[(p,.row v (szT t) (List.flatMap (α:=T t) (encT t) a))])∨(a=([]:List (T t))∧y= .nils∧y'= .nils∧L=[])
def objIs (x:TV) (l:Nat):Prop:=x= .slf l∨ ∃o n,x= .sl l o n
theorem resO_sound {H:HF} {TS:List TOb} {S:Store} (st:St3 H TS S) {r:RTy} {x:TV} {ps:List Prop} {a:RT r} {y:AVal} (h:resO TS r x=some (ps,a)) (hps:AllP ps) (hs:SimV H x y) (n:Nat):
  ∃y' L,one1 r a n y y' S L∧ ∀q∈L,∃l hd v,objIs x l∧(∃t,r= .own t)∧H l=some hd∧hd.loc=some (q.1,v):=by
 cases r with
 | val t=>
  simp only [resO] at h
  split at h<;>cases h
  rename_i ha
  exact ⟨encA t a,[],⟨decA0_le ha hs,rfl,rfl⟩,by simp⟩
 | own t=>
  simp only [resO] at h
  unfold subO at h
  split at h
  ·rename_i l off len
   split at h
   ·rename_i e ls ho
    split at h<;>cases h
    rename_i hh _
    subst hh
    have h0:off=0:=hps.cons.1
    obtain ⟨loc,q1,q2⟩:=row_get st ho
    simp only [SimV] at hs
    obtain ⟨hd,e1,r1,r2,r3,e2⟩:=hs
    rw [q1] at e1;cases e1
    simp only at r3 e2
    have hl:(ls.take len.toNat).length=len.toNat:=by simp;omega
    cases loc with
    | none=>
     simp only [RowAt] at q2
     subst q2
     simp only [slA] at e2
     exact ⟨.nils,[],.inr ⟨by simp,e2,rfl,rfl⟩,by simp⟩
    | some q=>
     obtain ⟨p,v⟩:=q
     simp only [slA,h0,Int.toNat_zero,Nat.zero_mul] at e2
     simp only [RowAt] at q2
     refine ⟨.sl n v 0 (ls.take len.toNat).length,_,.inl ⟨p,v,_,by rw [hl];exact e2,rfl,q2,?_,rfl⟩,fun p' hp=>?_⟩
     ·have e5:ls.flatMap (encT e)=(ls.take len.toNat).flatMap (encT e)++(ls.drop len.toNat).flatMap (encT e):=by rw [←List.flatMap_append,List.take_append_drop]
      have e6:=flatMap_length (encT_length e) (ls.take len.toNat)
      have:=LeO.trunc (v:=v) (k:=szT e) (cs:=ls.flatMap (encT e)) ((ls.take len.toNat).length*szT e)
      rw [e5,List.take_left' e6,←e5] at this
      exact this
     ·simp at hp
      subst hp
      exact ⟨l,_,v,.inr ⟨off,len,rfl⟩,⟨_,rfl⟩,q1,rfl⟩
   ·cases h
  ·split at h<;>cases h
   rename_i h
   unfold decO at h
   split at h
   ·cases h
    simp only [SimV] at hs
    exact ⟨.nils,[],.inr ⟨rfl,hs,rfl,rfl⟩,by simp⟩
   ·rename_i l _
    split at h
    ·rename_i e ls ho
     split at h<;>cases h
     rename_i hh _
     subst hh
     obtain ⟨loc,q1,q2⟩:=row_get st ho
     simp only [SimV] at hs
     obtain ⟨hd,e1,rfl⟩:=hs
     rw [q1] at e1;cases e1
     cases loc with
     | none=>
      simp only [RowAt] at q2
      subst q2
      exact ⟨.nils,[],.inr ⟨rfl,rfl,rfl,rfl⟩,by simp⟩
     | some q=>
      obtain ⟨p,v⟩:=q
      refine ⟨.sl n v 0 ls.length,_,.inl ⟨p,v,_,rfl,rfl,q2,.refl _,rfl⟩,fun p' hp=>?_⟩
      simp at hp
      subst hp
      exact ⟨l,_,v,.inl rfl,⟨_,rfl⟩,q1,rfl⟩
    ·cases h
   ·cases h
theorem resK_cons {TS:List TOb} {r:RTy} {rs:List RTy} {x:TV} {xs:List TV} {K:RTs (r::rs)→Prop} (h:resK TS (r::rs) (x::xs) K):
  ∃ps a,resO TS r x=some (ps,a)∧AllP ps∧resK TS rs xs fun y=> ∀z:RTs (r::rs),hdR r rs z=a→tlR r rs z=y→K z:=by
 cases rs with
 | nil=>
  simp only [resK] at h
  split at h
  ·rename_i e
   cases e
   split at h
   ·rename_i ps a ha
    rw [conj_iff] at h
    refine ⟨ps,a,ha,h.1,?_⟩
    simp only [resK]
    intro z hz _
    have:z=a:=hz
    rw [this];exact h.2
   ·exact h.elim
  ·exact h.elim
 | cons s rs=>
  simp only [resK] at h
  split at h
  ·rename_i ps a ha
   rw [conj_iff] at h
   refine ⟨ps,a,ha,h.1,?_⟩
   have mono: ∀(rs:List RTy) (xs:List TV) {K K':RTs rs→Prop},(∀y,K y→K' y)→resK TS rs xs K→resK TS rs xs K':=by
    intro rs
    induction rs with
    | nil=>intro xs K K' hm h;cases xs<;>simp only [resK] at* ;exact hm _ h
    | cons r rs ih=>
     intro xs K K' hm h
     cases rs with
     | nil=>
      simp only [resK] at*
      split at h
      ·split at h
       ·rw [conj_iff] at h ⊢;exact ⟨h.1,hm _ h.2⟩
       ·exact h.elim
      ·exact h.elim
     | cons s rs=>
      simp only [resK] at*
      cases xs with
      | nil=>exact h
      | cons x xs=>
       simp only at*
       split at h
       ·rw [conj_iff] at h ⊢;exact ⟨h.1,ih _ (fun y hy=>hm _ hy) h.2⟩
       ·exact h.elim
   exact mono _ _ (fun y hy z h1 h2=>by
    have:z=(a,y):=by
     obtain ⟨z1,z2⟩:=z
     simp only [hdR,tlR] at h1 h2
     rw [h1,h2]
    rw [this];exact hy) h.2
  ·exact h.elim
theorem mkRTs (r:RTy): ∀(rs:List RTy) (a:RT r) (y:RTs rs),∃z:RTs (r::rs),hdR r rs z=a∧tlR r rs z=y
 | [],a,y=>⟨a,rfl,rfl⟩
 | _::_,a,y=>⟨(a,y),rfl,rfl⟩
theorem ownN_own {t:Ty} {rs:List RTy} {x:TV} {xs:List TV} {l:Nat} (h:objIs x l):ownN (.own t::rs) (x::xs)=l::ownN rs xs:=by
 rcases h with rfl | ⟨o,n,rfl⟩<;>rfl
theorem ownN_not {t:Ty} {rs:List RTy} {x:TV} {xs:List TV} (h: ∀l,¬objIs x l):ownN (.own t::rs) (x::xs)=ownN rs xs:=by
 cases x<;>first | rfl | exact (h _ (.inl rfl)).elim | exact (h _ (.inr ⟨_,_,rfl⟩)).elim
theorem objIs_eq {x:TV} {l m:Nat} (h:objIs x l) (g:objIs x m):l=m:=by
 rcases h with rfl | ⟨o,n,rfl⟩<;>rcases g with g | ⟨_,_,g⟩<;>cases g<;>rfl
theorem resK_sound {H:HF} {TS:List TOb} {S:Store} (st:St3 H TS S): ∀(rs:List RTy) {xs:List TV} {ys:List AVal} {K:RTs rs→Prop} (n:Nat),resK TS rs xs K→SimL H xs ys→distinct (ownN rs xs)=true→
  ∃(z:RTs rs) (L:List (Nat×Ob)) (ys':List AVal),K z∧LeL ys ys'∧resA rs z n ys' (L.map (·.2))∧(∀q∈L,∃o0,S[q.1]?=some o0∧LeO o0 q.2)∧(L.map (·.1)).Nodup∧ ∀q∈L,∃l∈ownN rs xs,∃hd v,H l=some hd∧hd.loc=some (q.1,v)
 | [],xs,ys,K,n,h,hs,hd=>by
  cases xs with
  | nil=>
   simp only [resK] at h
   simp only [SimL] at hs
   subst hs
   exact ⟨(),[],[],h,.nil,by simp [resA],by simp,by simp,by simp⟩
  | cons=>simp only [resK] at h
 | r::rs,[],ys,K,n,h,hs,hd=>by cases rs<;>simp only [resK] at h
 | r::rs,x::xs,ys,K,n,h,hs,hd=>by
  obtain ⟨ps,a,ha,hps,h⟩:=resK_cons h
  simp only [SimL] at hs
  obtain ⟨y,zs,rfl,s1,s2⟩:=hs
  obtain ⟨y',L1,o1,o2⟩:=resO_sound st ha hps s1 n
  have hd2:distinct (ownN rs xs)=true∧ ∀l,objIs x l→(∃t,r= .own t)→l ∉ ownN rs xs:=by
   cases r with
   | val t=>
    simp only [ownN] at hd
    exact ⟨hd,fun l _ ⟨t',e⟩=>by cases e⟩
   | own t=>
    by_cases hx: ∃l,objIs x l
    ·obtain ⟨l,hx⟩:=hx
     rw [ownN_own hx] at hd
     simp only [distinct] at hd
     split at hd
     ·cases hd
     ·rename_i hh
      exact ⟨hd,fun l' e _=>by rw [objIs_eq e hx];exact hasN_mem hh⟩
    ·rw [ownN_not fun l hl=>hx ⟨l,hl⟩] at hd
     exact ⟨hd,fun l e=>(hx ⟨l,e⟩).elim⟩
  have sub: ∀l,l∈ownN rs xs→l∈ownN (r::rs) (x::xs):=fun l hl=>by
   cases r<;>cases x<;>simp only [ownN]<;>first | exact hl | exact List.mem_cons_of_mem _ hl
  obtain ⟨z,L2,ys',g1,g2,g3,g4,g5,g6⟩:=resK_sound st rs (n+L1.length) h s2 hd2.1
  obtain ⟨Z,e1,e2⟩:=mkRTs r rs a z
  refine ⟨Z,L1++L2,y'::ys',g1 Z e1 e2,?_,?_,?_,?_,?_⟩
  ·refine .cons ?_ g2
   cases r with
   | val t=>exact o1.1
   | own t=>
    rcases o1 with ⟨p,v,o0,rfl,rfl,_⟩ | ⟨_,rfl,rfl,_⟩
    ·exact .sl
    ·exact .refl _
  ·cases r with
   | val t=>
    obtain ⟨_,rfl,rfl⟩:=o1
    simp only [resA]
    refine ⟨ys',by rw [e1],?_⟩
    rw [e2]
    simpa using g3
   | own t=>
    rcases o1 with ⟨p,v,o0,rfl,rfl,q3,_,rfl⟩ | ⟨q1,rfl,rfl,rfl⟩
    ·simp only [resA]
     refine .inl ⟨v,ys',L2.map (·.2),by rw [e1],?_,?_⟩
     ·rw [e1];simp
     ·rw [e2];simpa using g3
    ·simp only [resA]
     refine .inr ⟨by rw [e1];exact q1,ys',rfl,?_⟩
     rw [e2]
     simpa using g3
  ·intro q hq
   rcases List.mem_append.1 hq with hq | hq
   ·cases r with
    | val t=>obtain ⟨_,_,rfl⟩:=o1;cases hq
    | own t=>
     rcases o1 with ⟨p,v,o0,_,_,q3,q4,rfl⟩ | ⟨_,_,_,rfl⟩
     ·simp at hq;subst hq;exact ⟨o0,q3,q4⟩
     ·cases hq
   ·exact g4 q hq
  ·rw [List.map_append,List.nodup_append]
   refine ⟨?_,g5,fun p hp q hq e=>?_⟩
   ·cases r with
    | val t=>obtain ⟨_,_,rfl⟩:=o1;simp
    | own t=>rcases o1 with ⟨_,_,_,_,_,_,_,rfl⟩ | ⟨_,_,_,rfl⟩<;>simp
   ·subst e
    obtain ⟨a1,ha1,rfl⟩:=List.mem_map.1 hp
    obtain ⟨a2,ha2,he⟩:=List.mem_map.1 hq
    obtain ⟨l,hd,v,h0,h0',h1,h2⟩:=o2 a1 ha1
    obtain ⟨l',hl',hd',v',h3,h4⟩:=g6 a2 ha2
    rw [he] at h4
    have:=st.inj _ _ _ _ _ _ _ h1 h3 h2 h4
    subst this
    exact hd2.2 l h0 h0' hl'
  ·intro p hp
   rcases List.mem_append.1 hp with hp | hp
   ·obtain ⟨l,hd',v,h0,⟨t,h0'⟩,h1,h2⟩:=o2 p hp
    subst h0'
    exact ⟨l,by rw [ownN_own h0];simp,hd',v,h1,h2⟩
   ·obtain ⟨l,hl,q⟩:=g6 p hp
    exact ⟨l,sub l hl,q⟩
theorem eqR_eq: ∀(rs:List RTy) {x y:RTs rs},eqR rs x y→x=y
 | [],_,_,_=>rfl
 | [_],_,_,h=>h
 | r::s::rs,(x1,x2),(y1,y2),h=>by
  simp only [eqR] at h
  rw [h.1,eqR_eq (s::rs) h.2]
theorem retA_le: ∀ {xs ys:List AVal},LeL xs ys→LeV (retA xs) (retA ys):=fun {xs ys} h=>by
 cases h with
 | nil=>exact .refl _
 | cons h1 h2=>cases h2 with
  | nil=>exact h1
  | cons h3 h4=>exact .tup (.cons h1 (.cons h3 h4))
def lenTys:Tys→Nat
 | .nil=>0
 | .cons _ ts=>lenTys ts+1
theorem encAs_length: ∀(ts:Tys) (x:Ts ts),(encAs ts x).length=lenTys ts
 | .nil,_=>rfl
 | .cons t .nil,x=>rfl
 | .cons t (.cons u ts),(x,y)=>by
  have:=encAs_length (.cons u ts) y
  simp only [encAs,List.length_cons,this,lenTys]
theorem con_of (hΓ:Cons P Γ) {L:List (Nat×Fi)} (hL:Fis P L) {f:Nat} {fi:Fi} {ct:Ct} (hf:FiOk P f fi) {depth:Nat} (hsp:fi.sp=none) (hn:Nat.ble (lenTys ct.args) fi.n=true) (x:Ts ct.args) (h:tCon Γ L depth fi ct x):ACalls P f (encAs ct.args x) [] (resR ct.res (ct.fn x)):=by
 have hlen:(encAs ct.args x).length≤fi.n:=by rw [encAs_length];exact Nat.le_of_ble_eq_true hn
 refine (hf.out hsp (R:=fun r S'=> ∃H' TS' zs us,(match distinct (ownN ct.res zs) with | true=>resK TS' ct.res zs fun y=>eqR ct.res y (ct.fn x) | false=>False)∧St3 H' TS' S'∧SimL H' zs us∧r=retA us)
  (tFunL_sound hΓ (callN_ok hΓ hL depth) h St3.nil .nil (tvAs_sim ct.args x) fun zs us S' H' G' TS' q1 q2 q3 q4=>⟨H',TS',zs,us,q1,q2,q4,rfl⟩) hlen).weak ?_
 rintro r S' ⟨H',TS',zs,us,h1,h2,h3,rfl⟩
 split at h1
 ·rename_i hd
  obtain ⟨z,L,ys',g1,g2,g3,g4,g5,_⟩:=resK_sound h2 ct.res 0 h1 h3 hd
  have e:=eqR_eq ct.res g1
  subst e
  refine ⟨retA ys',fun l=>(L.map (·.1)).getD l 0,L.map (·.2),retA_le g2,⟨fun l l' hl hl' e=>?_,fun l o hl=>?_⟩,ys',g3,rfl⟩
  ·have h1:l<(L.map (·.1)).length:=by simpa using hl
   have h2:l'<(L.map (·.1)).length:=by simpa using hl'
   simp only [List.getD_eq_getElem?_getD,List.getElem?_eq_getElem h1,List.getElem?_eq_getElem h2,Option.getD_some] at e
   exact (List.getElem_inj g5).1 e
  ·rw [List.getElem?_map] at hl
   cases hp:L[l]? with
   | none=>rw [hp] at hl;cases hl
   | some p=>
    rw [hp] at hl
    simp at hl
    subst hl
    obtain ⟨o0,k1,k2⟩:=g4 p (List.mem_of_getElem? hp)
    refine ⟨o0,?_,k2⟩
    simp only [List.getD_eq_getElem?_getD,List.getElem?_map,hp,Option.map_some,Option.getD_some]
    exact k1
 ·exact h1.elim
theorem con_eq (hΓ:Cons P Γ) {L:List (Nat×Fi)} (hL:Fis P L) {f:Nat} {fi:Fi} {ct:Ct} (hf:FiOk P f fi) {depth:Nat} (hsp:fi.sp=none) (hn:Nat.ble (lenTys ct.args) fi.n=true) (x:Ts ct.args) {T:Prop} (h:T) (e:T=tCon Γ L depth fi ct x):ACalls P f (encAs ct.args x) [] (resR ct.res (ct.fn x)):=
 con_of hΓ hL hf hsp hn x (e▸h)
end
theorem Con.frozen {P:Program} {f:FuncId} {args:Tys} {t:Ty} {pre:Ts args→Prop} {fn:Ts args→List (T t)} (h:Con P f ⟨args,[.own t],pre,fn⟩):Con P f ⟨args,[.val (.sl t)],pre,fn⟩:=by
 refine ⟨h.1,fun x hx=>ACalls.freeze 1 (ACallsMono (h.2 x hx) fun r S' hr=>?_)⟩
 obtain ⟨ys,h1,rfl⟩:=hr
 refine ⟨[encA (.sl t) (fn x)],⟨[],rfl,rfl,rfl⟩,?_⟩
 rcases h1 with ⟨v,ys',S1,rfl,rfl,rfl,rfl⟩ | ⟨h0,ys',rfl,rfl,rfl⟩
 ·simp only [retA,deref,hdR,encA,List.getElem?_cons_zero,if_pos,List.drop_zero]
  simp [deref]
 ·simp only [retA,deref,encA]
  have h0:fn x=[]:=h0
  rw [h0]
  rfl
def ref1A (t:Ty) (r:Bool) (a:T t):List (List AVal):=match r with | true=>[encT t a] | false=>[]
def refsA:(ts:Tys)→List Bool→Ts ts→List (List AVal)
 | .nil,_,_=>[]
 | .cons t .nil,rs,a=>ref1A t (hdB rs) a
 | .cons t (.cons u ts),rs,(a,b)=>ref1A t (hdB rs) a++refsA (.cons u ts) (tlB rs) b
def enc1M (t:Ty) (r:Bool) (a:T t) (vs:Nat→Nat) (k:Nat):AVal:=match r with | true=>.ptr k (vs k) 0 | false=>encA t a
def encM:(ts:Tys)→List Bool→Ts ts→(Nat→Nat)→Nat→List AVal
 | .nil,_,_,_,_=>[]
 | .cons t .nil,rs,a,vs,k=>[enc1M t (hdB rs) a vs k]
 | .cons t (.cons u ts),rs,(a,b),vs,k=>enc1M t (hdB rs) a vs k::encM (.cons u ts) (tlB rs) b vs (nx (hdB rs) k)
def stM:List (List AVal)→(Nat→Nat)→Nat→Store
 | [],_,_=>[]
 | cs::L,vs,k=>.row (vs k) 0 cs::stM L vs (k+1)
inductive Par (H:HF) (S:Store):List Nat→List (Nat×Nat)→List (List AVal)→Prop
 | nil:Par H S [] [] []
 | cons {l p v:Nat} {cs:List AVal} {ls:List Nat} {pvs:List (Nat×Nat)} {L:List (List AVal)} (h:H l=some ⟨some (p,v),0,cs.length,[]⟩) (hS:S[p]?=some (.row v 0 cs)) (hr:Par H S ls pvs L):Par H S (l::ls) ((p,v)::pvs) (cs::L)
theorem Par.append {H:HF} {S:Store} {ls ls':List Nat} {pvs pvs':List (Nat×Nat)} {L L':List (List AVal)} (h:Par H S ls pvs L) (h':Par H S ls' pvs' L'):Par H S (ls++ls') (pvs++pvs') (L++L'):=by
 induction h with
 | nil=>exact h'
 | cons h1 h2 _ ih=>exact .cons h1 h2 ih
theorem Par.len {H:HF} {S:Store} {ls:List Nat} {pvs:List (Nat×Nat)} {L:List (List AVal)} (h:Par H S ls pvs L):pvs.length=L.length∧ls.length=L.length:=by
 induction h with
 | nil=>exact ⟨rfl,rfl⟩
 | cons _ _ _ ih=>exact ⟨by simp [ih.1],by simp [ih.2]⟩
theorem Par.at {H:HF} {S:Store} {ls:List Nat} {pvs:List (Nat×Nat)} {L:List (List AVal)} (h:Par H S ls pvs L): ∀(vs:Nat→Nat) (k:Nat),(∀(i:Nat) pv,pvs[i]?=some pv→vs (k+i)=pv.2)→ ∀(i:Nat) o q,(stM L vs k)[i]?=some o→(pvs.map (·.1))[i]?=some q→S[q]?=some o:=by
 induction h with
 | nil=>intro vs k _ i o q h;simp [stM] at h
 | cons h1 h2 hr ih=>
  intro vs k hv i o q g1 g2
  cases i with
  | zero=>
   simp [stM] at g1 g2
   have:=hv 0 _ rfl
   simp only [Nat.add_zero] at this
   subst g1;subst g2
   rw [this];exact h2
  | succ i=>
   simp only [stM,List.map_cons,List.getElem?_cons_succ] at g1 g2
   exact ih vs (k+1) (fun j pv hj=>by have:=hv (j+1) pv (by simpa using hj);rwa [show k+1+j=k+(j+1) by omega]) i o q g1 g2
theorem stM_length: ∀(L:List (List AVal)) (vs:Nat→Nat) (k:Nat),(stM L vs k).length=L.length
 | [],_,_=>rfl
 | cs::L,vs,k=>by simp [stM,stM_length L]
inductive Par2 (H:HF):List (List TV)→List (List AVal)→List (List AVal)→Prop
 | nil:Par2 H [] [] []
 | cons {cs:List TV} {xs ys:List AVal} {L:List (List TV)} {M N:List (List AVal)} (h:SimL H cs xs) (hl:xs.length=ys.length) (hr:Par2 H L M N):Par2 H (cs::L) (xs::M) (ys::N)
theorem Par2.append {H:HF} {L L':List (List TV)} {M M' N N':List (List AVal)} (h:Par2 H L M N) (h':Par2 H L' M' N'):Par2 H (L++L') (M++M') (N++N'):=by
 induction h with
 | nil=>exact h'
 | cons h1 h2 _ ih=>exact .cons h1 h2 ih
inductive Par0:List (List TV)→List (List AVal)→Prop
 | nil:Par0 [] []
 | cons {cs:List TV} {xs:List AVal} {L:List (List TV)} {M:List (List AVal)} (h: ∀H,SimL H cs xs) (hr:Par0 L M):Par0 (cs::L) (xs::M)
theorem Par0.append {L L':List (List TV)} {M M':List (List AVal)} (h:Par0 L M) (h':Par0 L' M'):Par0 (L++L') (M++M'):=by
 induction h with
 | nil=>exact h'
 | cons h1 _ ih=>exact .cons h1 ih
theorem Par0.len {L:List (List TV)} {M:List (List AVal)} (h:Par0 L M):L.length=M.length:=by
 induction h with
 | nil=>rfl
 | cons _ _ ih=>simp [ih]
theorem nx_len (t:Ty) (r:Bool) (a:T t) (k:Nat):nx r k=k+(ref1T t r a).length:=by
 cases r<;>rfl
theorem end1_at {H:HF} {TS:List TOb} {S:Store} (st:St3 H TS S) {t:Ty} {r:Bool} {a:T t} {vs:Nat→Nat} {k:Nat} {q:Prop} (h:end1 TS t r a k q) (hl: ∀i,i<(ref1T t r a).length→SimV H (.ptr (k+i) 0) (.ptr (k+i) (vs (k+i)) 0)):
  (∀i o,(stM (ref1A t r a) vs k)[i]?=some o→S[k+i]?=some o)∧q:=by
 cases r with
 | false=>exact ⟨fun i o hi=>by simp [ref1A,stM] at hi,h⟩
 | true=>
  simp only [end1] at h
  split at h
  case h_2=>exact h.elim
  rename_i cs ho
  split at h
  case h_2=>exact h.elim
  rename_i a' hd
  obtain ⟨e,hq⟩:=h
  subst e
  have hp:=hl 0 (by simp [ref1T])
  simp only [Nat.add_zero,SimV] at hp
  obtain ⟨hd',p,v,g1,g2,g3⟩:=hp
  cases g3
  obtain ⟨p',v',xs',q1,q2,q3⟩:=cells_get st ho
  rw [q1] at g1;cases g1
  cases g2
  obtain ⟨ws,rfl,hu⟩:=decC_sim t hd q3
  simp only [SimL] at hu
  subst hu
  rw [List.append_nil] at q2
  refine ⟨fun i o hi=>?_,hq⟩
  cases i with
  | zero=>simp [ref1A,stM] at hi;subst hi;exact q2
  | succ i=>simp [ref1A,stM] at hi
theorem stM_append: ∀(L M:List (List AVal)) (vs:Nat→Nat) (k:Nat),stM (L++M) vs k=stM L vs k++stM M vs (k+L.length)
 | [],M,vs,k=>rfl
 | cs::L,M,vs,k=>by
  simp only [List.cons_append,stM,List.length_cons]
  rw [stM_append L M vs (k+1),show k+1+L.length=k+(L.length+1) by omega]
theorem ref1_len (t:Ty) (r:Bool) (a b:T t):(ref1A t r a).length=(ref1T t r b).length:=by cases r<;>rfl
theorem end_at {H:HF} {TS:List TOb} {S:Store} (st:St3 H TS S): ∀(ts:Tys) (rs:List Bool) (a:Ts ts) (vs:Nat→Nat) (k:Nat) {q:Prop},endM TS ts rs a k q→(∀i,i<(refsT ts rs a).length→SimV H (.ptr (k+i) 0) (.ptr (k+i) (vs (k+i)) 0))→
  (∀i o,(stM (refsA ts rs a) vs k)[i]?=some o→S[k+i]?=some o)∧q
 | .nil,_,_,_,_,q,h,_=>⟨fun i o hi=>by simp [refsA,stM] at hi,h⟩
 | .cons t .nil,rs,a,vs,k,q,h,hl=>end1_at (a:=a) st h hl
 | .cons t (.cons u ts),rs,(a,b),vs,k,q,h,hl=>by
  simp only [endM] at h
  simp only [refsT,List.length_append] at hl
  obtain ⟨g1,g2⟩:=end1_at (vs:=vs) st h fun i hi=>hl i (by omega)
  obtain ⟨g3,g4⟩:=end_at st (.cons u ts) (tlB rs) b vs _ g2 fun i hi=>by
   rw [nx_len t (hdB rs) a k]
   have:=hl ((ref1T t (hdB rs) a).length+i) (by omega)
   rwa [←Nat.add_assoc] at this
  refine ⟨fun i o hi=>?_,g4⟩
  simp only [refsA] at hi
  rw [stM_append] at hi
  rcases Nat.lt_or_ge i (ref1A t (hdB rs) a).length with c | c
  ·rw [List.getElem?_append_left (by rw [stM_length];exact c)] at hi
   exact g1 i o hi
  ·rw [List.getElem?_append_right (by rw [stM_length];exact c),stM_length] at hi
   have e:nx (hdB rs) k=k+(ref1A t (hdB rs) a).length:=by rw [nx_len t (hdB rs) a k,ref1_len t _ a a]
   rw [←e] at hi
   have:=g3 _ o hi
   rwa [e,show k+(ref1A t (hdB rs) a).length+(i-(ref1A t (hdB rs) a).length)=k+i by omega] at this
end Go.Vc
namespace Go.Vc
abbrev gb (d:Nat) (o:SOp):GOp:=⟨some d,o,none,true,[]⟩
end Go.Vc
end
section
namespace Go.Vc
abbrev Hp:=List (Nat×Ob)
structure HasL (S:Store) (H:Hp):Prop where
 nd:(H.map (·.1)).Nodup
 at_: ∀p∈H,S[p.1]?=some p.2
theorem HasL.perm {S:Store} {H H':Hp} (h:HasL S H) (hp:H.Perm H'):HasL S H':=⟨(hp.map _).nodup_iff.1 h.nd,fun p hm=>h.at_ p (hp.mem_iff.2 hm)⟩
def HM:Type:=Quotient (List.isSetoid (Nat×Ob))
namespace HM
def of (l:Hp):HM:=Quotient.mk _ l
def nil:HM:=of []
def add (a b:HM):HM:=Quotient.liftOn₂ a b (fun x y=>of (x++y)) fun a b c d h1 h2=>Quotient.sound (List.Perm.append h1 h2)
instance:Add HM:=⟨add⟩
theorem of_add (x y:Hp):of x+of y=of (x++y):=rfl
theorem of_perm {x y:Hp} (h:x.Perm y):of x=of y:=Quotient.sound h
theorem ex (a:HM): ∃l,a=of l:=Quotient.inductionOn a fun l=>⟨l,rfl⟩
instance:Std.Associative (α:=HM) (· + ·):=⟨fun a b c=>by
 obtain ⟨x,rfl⟩:=a.ex;obtain ⟨y,rfl⟩:=b.ex;obtain ⟨z,rfl⟩:=c.ex
 simp only [of_add,List.append_assoc]⟩
instance:Std.Commutative (α:=HM) (· + ·):=⟨fun a b=>by
 obtain ⟨x,rfl⟩:=a.ex;obtain ⟨y,rfl⟩:=b.ex
 simp only [of_add];exact of_perm List.perm_append_comm⟩
theorem nil_add (a:HM):nil+a=a:=by obtain ⟨x,rfl⟩:=a.ex;rfl
theorem add_nil (a:HM):a+nil=a:=by obtain ⟨x,rfl⟩:=a.ex;show of (x++[])=_;rw [List.append_nil]
instance:Std.LawfulIdentity (α:=HM) (· + ·) nil:={left_id:=nil_add,right_id:=add_nil}
end HM
open HM
def pt (l:Nat) (o:Ob):HM:=of [(l,o)]
def Has (S:Store) (m:HM):Prop:=Quotient.liftOn m (HasL S) fun a b h=>propext ⟨fun q=>q.perm h,fun q=>q.perm h.symm⟩
section
variable {S : Store} {m a b R : HM} {l v k : Nat} {o o' : Ob} {cs : List AVal}
theorem Has.nil:Has S HM.nil:=⟨.nil,fun p h=>by simp at h⟩
theorem Has.left (h:Has S (a+b)):Has S a:=by
 obtain ⟨x,rfl⟩:=a.ex;obtain ⟨y,rfl⟩:=b.ex
 have h:HasL S (x++y):=h
 exact ⟨h.nd.sublist ((List.sublist_append_left x y).map _),fun p hp=>h.at_ p (List.mem_append_left _ hp)⟩
theorem Has.comm (h:Has S (a+b)):Has S (b+a):=by rw [show b+a=a+b from Std.Commutative.comm _ _];exact h
theorem Has.right (h:Has S (a+b)):Has S b:=h.comm.left
theorem Has.get (h:Has S (pt l o+R)):S[l]?=some o:=by
 obtain ⟨x,rfl⟩:=R.ex
 have h:HasL S ((l,o)::x):=h
 exact h.at_ (l,o) (List.mem_cons_self ..)
theorem Has.put (h:Has S (pt l o+R)) (o':Ob):Has (S.set l o') (pt l o'+R):=by
 have hl:l<S.length:=(List.getElem?_eq_some_iff.1 h.get).1
 obtain ⟨x,rfl⟩:=R.ex
 have h:HasL S ((l,o)::x):=h
 obtain ⟨h1,h2⟩:=List.nodup_cons.1 (by simpa using h.nd:(l::x.map (·.1)).Nodup)
 refine (⟨by simpa using ⟨fun a q=>h1 (List.mem_map.2 ⟨_,q,rfl⟩),h2⟩,fun p hp=>?_⟩:HasL _ ((l,o')::x))
 rcases List.mem_cons.1 hp with rfl | hp
 ·exact List.getElem?_set_self hl
 ·have hne:l≠p.1:=fun e=>h1 (List.mem_map.2 ⟨p,hp,e.symm⟩)
  rw [List.getElem?_set_ne hne];exact h.at_ p (List.mem_cons_of_mem _ hp)
theorem Has.more (h:Has S R) (o:Ob):Has (S++[o]) (pt S.length o+R):=by
 obtain ⟨x,rfl⟩:=R.ex
 have h:HasL S x:=h
 have hlt: ∀p∈x,p.1<S.length:=fun p hp=>(List.getElem?_eq_some_iff.1 (h.at_ p hp)).1
 refine (⟨?_,fun p hp=>?_⟩:HasL _ ((S.length,o)::x))
 ·show (S.length::x.map (·.1)).Nodup
  refine List.nodup_cons.2 ⟨fun hm=>?_,h.nd⟩
  obtain ⟨p,hp,e⟩:=List.mem_map.1 hm
  have:=hlt p hp;omega
 ·rcases List.mem_cons.1 hp with rfl | hp
  ·simp
  ·rw [List.getElem?_append_left (hlt p hp)];exact h.at_ p hp
theorem Has.deads (h:Has S R) (r:Nat):Has (S++List.replicate r .dead) R:=by
 obtain ⟨x,rfl⟩:=R.ex
 have h:HasL S x:=h
 show HasL (S++List.replicate r .dead) x
 refine ⟨h.nd,fun p hp=>?_⟩
 rw [List.getElem?_append_left (List.getElem?_eq_some_iff.1 (h.at_ p hp)).1]
 exact h.at_ p hp
theorem Has.eq {m':HM} (h:Has S m) (e:m=m'):Has S m':=e▸h
end
class At (m:HM) (l:Nat) (o:outParam Ob) (f:outParam (Ob→HM)):Prop where
 eq:m=f o
 split: ∃R,∀x,f x=pt l x+R
instance At.here {l:Nat} {o:Ob}:At (pt l o) l o (fun x=>pt l x):=⟨rfl,HM.nil,fun x=>(HM.add_nil _).symm⟩
instance At.inl {a b:HM} {l:Nat} {o:Ob} {f:Ob→HM} [h:At a l o f]:At (a+b) l o (fun x=>f x+b):=
 ⟨by rw [←h.eq],by obtain ⟨R,hR⟩:=h.split;exact ⟨R+b,fun x=>by rw [hR];ac_rfl⟩⟩
instance At.inr {a b:HM} {l:Nat} {o:Ob} {f:Ob→HM} [h:At b l o f]:At (a+b) l o (fun x=>a+f x):=
 ⟨by rw [←h.eq],by obtain ⟨R,hR⟩:=h.split;exact ⟨a+R,fun x=>by rw [hR];ac_rfl⟩⟩
class Part (m a:HM) (f:outParam (HM→HM)):Prop where
 eq:m=f a
 split: ∃R,∀x,f x=x+R
instance Part.here {a:HM}:Part a a (fun x=>x):=⟨rfl,HM.nil,fun x=>(HM.add_nil _).symm⟩
instance Part.inl {a b c:HM} {f:HM→HM} [h:Part a c f]:Part (a+b) c (fun x=>f x+b):=
 ⟨by rw [←h.eq],by obtain ⟨R,hR⟩:=h.split;exact ⟨R+b,fun x=>by rw [hR];ac_rfl⟩⟩
instance Part.inr {a b c:HM} {f:HM→HM} [h:Part b c f]:Part (a+b) c (fun x=>a+f x):=
 ⟨by rw [←h.eq],by obtain ⟨R,hR⟩:=h.split;exact ⟨a+R,fun x=>by rw [hR];ac_rfl⟩⟩
section
variable {S : Store} {m a : HM} {l v k : Nat} {o o' : Ob} {cs : List AVal} {f : Ob → HM} {g : HM → HM}
theorem Has.here [i:At m l o f] (h:Has S m):S[l]?=some o:=by
 obtain ⟨R,hR⟩:=i.split
 have h:=i.eq▸h
 rw [hR] at h;exact h.get
theorem Has.row [i:At m l o f] (h:Has S m) {K:Nat→List AVal→Prop} (ho:o= .row v k cs) (hk:K k cs):wRow S l v K:=wRow_iff.2 ⟨k,cs,by rw [h.here (l:=l),ho],hk⟩
theorem Has.wset [i:At m l o f] (h:Has S m) {K:Store→Prop} (hk: ∀S',Has S' (f o')→K S'):wSet S l o' K:=by
 have hl:=h.here (l:=l)
 refine wSet_iff.2 ⟨(List.getElem?_eq_some_iff.1 hl).1,hk _ ?_⟩
 obtain ⟨R,hR⟩:=i.split
 have h:=i.eq▸h
 rw [hR] at h
 rw [hR];exact h.put o'
theorem Has.wpush (h:Has S m) {K:Nat→Store→Prop} (hk: ∀l S',Has S' (pt l o+m)→K l S'):wPush S o K:=wPush_iff.2 (hk _ _ (h.more o))
end
def HC (P:Program) (f:FuncId) (args:List AVal) (m:HM) (R:AVal→HM→Prop):Prop:=
 ∀S mf,Has S (m+mf)→ACalls P f args S fun r S'=> ∃m',R r m'∧Has S' (m'+mf)
theorem HC.use {P:Program} {f:FuncId} {args:List AVal} {m a:HM} {R:AVal→HM→Prop} {g:HM→HM} [i:Part m a g] (hc:HC P f args a R) {S:Store} (h:Has S m) {K:AVal→Store→Prop} (hk: ∀r m' S',R r m'→Has S' (g m')→K r S'):ACalls P f args S K:=by
 obtain ⟨R0,hR⟩:=i.split
 have h:=i.eq▸h
 rw [hR] at h
 exact (hc S R0 h).mono fun r S' ⟨m',h1,h2⟩=>hk r m' S' h1 (by rw [hR];exact h2)
theorem HC.mono {P:Program} {f:FuncId} {args:List AVal} {m:HM} {R R':AVal→HM→Prop} (h:HC P f args m R) (hr: ∀r m',R r m'→R' r m'):HC P f args m R':=
 fun S mf hS=>(h S mf hS).mono fun r S' ⟨m',h1,h2⟩=>⟨m',hr _ _ h1,h2⟩
theorem Con.plain {P:Program} {f:FuncId} {ct:Ct} (h:Con P f ct) (x:Ts ct.args) (hx:ct.pre x) (hv:allVal ct.res=true) {S:Store} {K:AVal→Store→Prop} (hk:K (retA (encsR ct.res (ct.fn x))) S):ACalls P f (encAs ct.args x) S K:=by
 refine ACalls.use (Q:=fun r=>r=retA (encsR ct.res (ct.fn x))) ((h.2 x hx).mono fun r S' ⟨ys,h1,h2⟩=>?_) fun r e=>e▸hk
 obtain ⟨e1,e2⟩:=val_det _ _ _ hv h1
 rw [h2,e1]
end Go.Vc
end
section
namespace Go.Vc
open HM
def cellsF:AVal→Option (List AVal)
 | .agg cs=>some cs
 | .tup _=>none
 | .junk=>none
 | .cst _=>none
 | x=>some [x]
def mkF (ag:Bool) (xs:List AVal):Option AVal:=match ag with | true=>some (.agg xs) | false=>(match xs with | [x]=>some x | _=>none)
def lenB {α:Type}:List α→Nat→Bool
 | [],0=>true
 | _::l,n+1=>lenB l n
 | _,_=>false
def leB {α:Type}:Nat→List α→Bool
 | 0,_=>true
 | n+1,_::l=>leB n l
 | _+1,[]=>false
theorem lenB_iff {α:Type}: ∀ {l:List α} {n:Nat},lenB l n=true→l.length=n
 | [],0,_=>rfl
 | _::l,n+1,h=>by simp [lenB_iff (l:=l) (n:=n) h]
 | [],_+1,h=>by simp [lenB] at h
 | _::_,0,h=>by simp [lenB] at h
theorem leB_iff {α:Type}: ∀ {n:Nat} {l:List α},leB n l=true→n≤l.length
 | 0,_,_=>Nat.zero_le _
 | n+1,_::l,h=>by have:=leB_iff (n:=n) (l:=l) h;simp;omega
 | _+1,[],h=>by simp [leB] at h
def fillF (F:Frame) (cs:List AVal):List (Nat×Nat×Rand)→Option (List AVal)
 | []=>some cs
 | (off,n,x)::rest=>match cellsF (rd F x) with
  | some ys=>(match lenB ys n,leB (off+n) cs with | true,true=>fillF F (setCells cs off ys) rest | _,_=>none)
  | none=>none
def wMkF (k:IntKind) (n:Int):Prop×AVal:=match k with | .i64=>(inI64 n,.int .i64 n) | k=>(True,.int k (k.wrap n))
def intF (op:BinOp) (k:IntKind) (a b:Int):Option (Prop×AVal):=
 match op with
 | .add=>some (wMkF k (a+b))
 | .sub=>some (wMkF k (a-b))
 | .mul=>some (wMkF k (a*b))
 | .quo=>some (b≠0∧(wMkF k (a.tdiv b)).1,(wMkF k (a.tdiv b)).2)
 | .rem=>some (b≠0,.int k (a.tmod b))
 | .eql=>some (True,.bool (decide (a=b)))
 | .neq=>some (True,.bool (!decide (a=b)))
 | .lss=>some (True,.bool (decide (a<b)))
 | .leq=>some (True,.bool (decide (a≤b)))
 | .gtr=>some (True,.bool (decide (b<a)))
 | .geq=>some (True,.bool (decide (b≤a)))
 | _=>none
def strF (op:BinOp) (a b:List UInt8):Option (Prop×AVal):=
 match op with
 | .add=>some (inI64 (a.length+b.length),.str (a++b))
 | .eql=>some (True,.bool (decide (a=b)))
 | .neq=>some (True,.bool (!decide (a=b)))
 | .lss=>some (True,.bool (Op.bytesLess a b))
 | .leq=>some (True,.bool (Op.bytesLess a b || decide (a=b)))
 | .gtr=>some (True,.bool (!(Op.bytesLess a b || decide (a=b))))
 | .geq=>some (True,.bool (!Op.bytesLess a b))
 | _=>none
def eqF (op:BinOp) (r:Bool):Option (Prop×AVal):=match op with | .eql=>some (True,.bool r) | .neq=>some (True,.bool (!r)) | _=>none
def kB:IntKind→IntKind→Bool
 | .i8,.i8 | .u8,.u8 | .i16,.i16 | .u16,.u16 | .i32,.i32 | .u32,.u32 | .i64,.i64 | .u64,.u64=>true
 | _,_=>false
theorem kB_iff {a b:IntKind} (h:kB a b=true):a=b:=by cases a<;>cases b<;>simp_all [kB]
def binF (q:EqQ) (op:BinOp) (x y:AVal):Option (Prop×AVal):=
 match x,y with
 | .int k a,.int k' b=>(match op with
  | .shl=>none
  | .shr=>none
  | op=>(match kB k k' with | true=>intF op k a b | false=>none))
 | .str a,.str b=>strF op a b
 | .bool a,.bool b=>(match q with | .bool=>eqF op (decide (a=b)) | _=>none)
 | .nilp,.nilp=>(match q with | .ptr=>eqF op true | _=>none)
 | .ptr _ _ _,.nilp=>(match q with | .ptr=>eqF op false | _=>none)
 | .nilp,.ptr _ _ _=>(match q with | .ptr=>eqF op false | _=>none)
 | .rop _,.nilp=>(match q with | .ptr=>eqF op false | _=>none)
 | .nilp,.rop _=>(match q with | .ptr=>eqF op false | _=>none)
 | _,_=>none
section
variable {P : Program} {F : Frame} {S : Store} {K : AVal → Store → Prop}
theorem wMkF_ok {k:IntKind} {n:Int} {K:AVal→Prop} (hp:(wMkF k n).1) (h:K (wMkF k n).2):wMk k n K:=by
 cases k<;>first | exact h | exact ⟨hp,h⟩
theorem intF_ok {op:BinOp} {k:IntKind} {a b:Int} {p:Prop} {r:AVal} {K:AVal→Prop} (hb:intF op k a b=some (p,r)) (hp:p) (h:K r):intBin op k a b K:=by
 cases op<;>simp only [intF] at hb<;>first | cases hb | skip
 all_goals (try (simp only [Option.some.injEq,Prod.mk.injEq] at hb;obtain ⟨rfl,rfl⟩:=hb))
 all_goals first
  | exact h
  | exact ⟨hp,h⟩
  | (simp only [Option.some.injEq] at hb;rw [Prod.ext_iff] at hb;obtain ⟨e1,e2⟩:=hb;simp only at e1 e2;subst e1 e2;exact wMkF_ok hp h)
  | exact ⟨hp.1,wMkF_ok hp.2 h⟩
theorem strF_ok {op:BinOp} {a b:List UInt8} {p:Prop} {r:AVal} {K:AVal→Prop} (hb:strF op a b=some (p,r)) (hp:p) (h:K r):strBin op a b K:=by
 cases op<;>simp only [strF,Option.some.injEq,Prod.mk.injEq] at hb<;>first | cases hb;done | skip
 all_goals (obtain ⟨rfl,rfl⟩:=hb;first | exact h | exact ⟨hp,h⟩)
theorem eqF_ok {op:BinOp} {b:Bool} {p:Prop} {r:AVal} {K:AVal→Prop} (hb:eqF op b=some (p,r)) (hp:p) (h:K r):eqK op b K:=by
 cases op<;>simp only [eqF,Option.some.injEq,Prod.mk.injEq] at hb<;>first | cases hb;done | skip
 all_goals (obtain ⟨rfl,rfl⟩:=hb;exact h)
theorem binF_ok {q:EqQ} {op:BinOp} {x y:AVal} {p:Prop} {r:AVal} {K:AVal→Prop} (hb:binF q op x y=some (p,r)) (hp:p) (h:K r):vcBin q op x y K:=by
 unfold binF at hb
 split at hb
 ·rename_i k a k' b
  have: ∀o:BinOp,o≠ .shl→o≠ .shr→(match kB k k' with | true=>intF o k a b | false=>none)=some (p,r)→k=k'∧intBin o k a b K:=fun o h1 h2 hb=>by
   cases hk:kB k k' with
   | false=>rw [hk] at hb;cases hb
   | true=>rw [hk] at hb;exact ⟨kB_iff hk,intF_ok hb hp h⟩
  cases op<;>first | (cases hb;done) | exact this _ (by simp) (by simp) hb
 ·exact strF_ok hb hp h
 ·rename_i a b
  cases q<;>first | (cases hb;done) | exact eqF_ok hb hp h
 all_goals (cases q<;>first | (cases hb;done) | exact eqF_ok hb hp h)
theorem cellsF_ok {x:AVal} {ys:List AVal} {K:List AVal→Prop} (h:cellsF x=some ys) (hk:K ys):wCells x K:=by
 cases x<;>simp only [cellsF,Option.some.injEq] at h<;>first | (cases h;done) | (subst h;exact hk)
theorem fillF_ok {K:List AVal→Prop}: ∀ {ps:List (Nat×Nat×Rand)} {cs cs':List AVal},fillF F cs ps=some cs'→K cs'→wFill F cs K ps
 | [],cs,cs',h,hk=>by simp only [fillF] at h;cases h;exact hk
 | (off,n,x)::rest,cs,cs',h,hk=>by
  simp only [fillF] at h
  split at h
  ·rename_i ys hy
   split at h
   ·rename_i h1 h2
    simp only [wFill,rdK_iff]
    exact cellsF_ok hy ⟨lenB_iff h1,leB_iff h2,setCellsK_iff.2 (fillF_ok h hk)⟩
   ·cases h
  ·cases h
theorem mkF_ok {ag:Bool} {xs:List AVal} {x:AVal} {K:AVal→Prop} (h:mkF ag xs=some x) (hk:K x):mkVK ag xs K:=by
 cases ag
 ·simp only [mkF] at h
  split at h
  ·cases h;exact hk
  ·cases h
 ·cases h;exact hk
variable {m : HM} {l v k off n : Nat} {o : Ob} {f : Ob → HM} {cs xs ys : List AVal} {x y z : Rand} {r : AVal} {ag : Bool} {d : Option Nat} {chk : List (Nat × Nat × Bool × Rand)}
theorem o_mov (h:K (rd F x) S):vcOp P F S K (.mov x):=rdK_iff.2 h
theorem o_newnil (hS:Has S m) (h: ∀v l S',Has S' (pt l (.row v k [])+m)→K (.sl l v 0 0) S'):vcOp P F S K (.newnil k):=fun v=>hS.wpush fun l S'=>h v l S'
theorem o_alloc {z:List AVal} (hS:Has S m) (h: ∀v l S',Has S' (pt l (.row v k z)+m)→K (.ptr l v 0) S'):vcOp P F S K (.alloc k z):=fun v=>hS.wpush fun l S'=>h v l S'
theorem o_build {z:List AVal} {ps:List (Nat×Nat×Rand)} (hf:fillF F z ps=some ys) (h:K (.agg ys) S):vcOp P F S K (.build z ps):=fillF_ok hf h
theorem o_bsliceR {len:Nat} {z:List AVal} {ps:List (Nat×Nat×Rand)} (hf:fillF F z ps=some ys) (h:K (.ros len ys) S):vcOp P F S K (.bslice true len k z ps):=fillF_ok hf h
theorem o_load (hS:Has S m) (hx:rd F x= .ptr l v off) [i:At m l o f] (ho:o= .row v k cs) (ht:takeN n (cs.drop off)=some xs) (hm:mkF ag xs=some r) (h:K r S):vcOp P F S K (.load n ag x):=by
 refine rdK_iff.2 ?_
 rw [hx]
 refine hS.row ho ?_
 cases k with
 | zero=>exact dropK_iff.2 (takeK_iff.2 ⟨xs,ht,mkF_ok hm h⟩)
 | succ k=>exact ⟨xs,ht,mkF_ok hm h⟩
theorem o_loadR (hx:rd F x= .rop cs) (ht:takeN n cs=some xs) (hm:mkF ag xs=some r) (h:K r S):vcOp P F S K (.load n ag x):=by
 refine rdK_iff.2 ?_
 rw [hx]
 exact takeK_iff.2 ⟨xs,ht,mkF_ok hm h⟩
theorem o_store (hS:Has S m) (hx:rd F x= .ptr l v off) [i:At m l o f] (ho:o= .row v k cs) (hc:cellsF (rd F y)=some ys) (hn:ys.length=n) (hle:off+n≤cs.length) (h: ∀S',Has S' (f (.row v k (setCells cs off ys)))→K .junk S'):vcOp P F S K (.store n x y):=by
 refine rdK_iff.2 ?_
 rw [hx]
 refine hS.row ho (rdK_iff.2 (cellsF_ok hc ⟨hn,hle,setRowK_iff.2 (hS.wset fun S' hS'=>h S' hS')⟩))
theorem o_bin {q:EqQ} {op:BinOp} {p:Prop} (hb:binF q op (rd F x) (rd F y)=some (p,r)) (hp:p) (h:K r S):vcOp P F S K (.bin q op x y):=rdK_iff.2 (rdK_iff.2 (binF_ok hb hp h))
variable {lo hi : Option Rand} {j h' : Nat}
theorem o_faddr (hx:rd F x= .ptr l v n) (h:K (.ptr l v (n+off)) S):vcOp P F S K (.faddr off x):=by refine rdK_iff.2 ?_;rw [hx];exact h
theorem o_faddrR (hx:rd F x= .rop cs) (h:K (.rop (cs.drop off)) S):vcOp P F S K (.faddr off x):=by refine rdK_iff.2 ?_;rw [hx];exact dropK_iff.2 h
theorem o_iaddr {ik:IntKind} (hS:Has S m) (hx:rd F x= .sl l v off n) (hy:rd F y= .int ik (j:Int)) [i:At m l o f] (ho:o= .row v k cs) (hj:j<n) (h:K (.ptr l v (off+j*k)) S):vcOp P F S K (.iaddr k none x y):=by
 refine rdK_iff.2 (rdK_iff.2 ?_);rw [hx,hy];exact ⟨j,rfl,hj,hS.row ho ⟨.inl rfl,h⟩⟩
theorem o_iaddr0 {ik:IntKind} (hS:Has S m) (hx:rd F x= .sl l v off n) (hy:rd F y= .int ik (j:Int)) [i:At m l o f] (ho:o= .row v 0 cs) (hj:j<n) (h:K (.ptr l v (off+j*k)) S):vcOp P F S K (.iaddr k none x y):=by
 refine rdK_iff.2 (rdK_iff.2 ?_);rw [hx,hy];exact ⟨j,rfl,hj,hS.row ho ⟨.inr rfl,h⟩⟩
theorem o_iaddrR {ik:IntKind} (hx:rd F x= .ros n cs) (hy:rd F y= .int ik (j:Int)) (hj:j<n) (ht:takeN k (cs.drop (j*k))=some xs) (h:K (.rop xs) S):vcOp P F S K (.iaddr k none x y):=by
 refine rdK_iff.2 (rdK_iff.2 ?_);rw [hx,hy];exact ⟨j,rfl,hj,xs,ht,h⟩
theorem o_iaddrA {ik:IntKind} (hx:rd F x= .ptr l v off) (hy:rd F y= .int ik (j:Int)) (hj:j<n) (h:K (.ptr l v (off+j*k)) S):vcOp P F S K (.iaddr k (some n) x y):=by
 refine rdK_iff.2 (rdK_iff.2 ?_);rw [hx,hy];exact ⟨j,rfl,hj,h⟩
theorem o_iaddrAR {ik:IntKind} (hx:rd F x= .rop cs) (hy:rd F y= .int ik (j:Int)) (hj:j<n) (h:K (.rop (cs.drop (j*k))) S):vcOp P F S K (.iaddr k (some n) x y):=by
 refine rdK_iff.2 (rdK_iff.2 ?_);rw [hx,hy];exact ⟨j,rfl,hj,h⟩
def lenF:Bool→AVal→Option Nat
 | true,.str s=>some s.length
 | false,.ros n _=>some n
 | false,.sl _ _ _ n=>some n
 | false,.nils=>some 0
 | _,_=>none
theorem o_len {b:Bool} (hx:lenF b (rd F x)=some n) (h:K (.int .i64 (n:Int)) S):vcOp P F S K (.len b x):=by
 refine rdK_iff.2 ?_
 generalize rd F x=X at*
 cases b<;>cases X<;>simp only [lenF,Option.some.injEq] at hx<;>first | (cases hx;done) | (subst hx;exact h)
def SrcOf (m:HM) (k:Nat) (x:AVal) (n:Nat) (ys:List AVal):Prop:=
 match x with
 | .nils=>n=0∧ys=[]
 | .ros n' cs=>n=n'∧n*k≤cs.length∧ys=cs.take (n*k)
 | .sl l v off n'=>n=n'∧ ∃cs f o,At m l o f∧o= .row v k cs∧off+n*k≤cs.length∧ys=subL cs off (n*k)
 | .str s=>k=1∧n=s.length∧ys=s.map fun c=>.int .u8 c.toNat
 | _=>False
theorem SrcOf.ok {X:AVal} (hS:Has S m) {K:Nat→List AVal→Prop} (h:SrcOf m k X n ys) (hk:K n ys):wSrc S k X K:=by
 cases X<;>simp only [SrcOf] at h<;>first | exact h.elim | skip
 ·obtain ⟨h1,rfl,rfl⟩:=h;exact ⟨h1,hk⟩
 ·obtain ⟨rfl,rfl⟩:=h;exact hk
 ·obtain ⟨rfl,cs,f,o,hi,ho,h1,rfl⟩:=h;exact hS.row ho ⟨h1,hk⟩
 ·obtain ⟨rfl,h1,rfl⟩:=h;exact ⟨h1,hk⟩
theorem o_append {b len:Nat} (hS:Has S m) (hx:rd F x= .sl l v off len) (hy:SrcOf m k (rd F y) n ys) [i:At m l o f] (ho:o= .row v k cs) (hle:off+len*k≤cs.length) (hb:(len+n)*b≤140737488355328) (h: ∀v' S',Has S' (f (.row v' k (subL cs off (len*k)++ys)))→K (.sl l v' 0 (len+n)) S'):vcOp P F S K (.append k b x y):=by
 refine rdK_iff.2 (rdK_iff.2 (hy.ok hS ?_));rw [hx];exact hS.row ho ⟨rfl,hle,hb,fun v'=>hS.wset fun S'=>h v' S'⟩
theorem rdsK_of {xs:List Rand} {K:List AVal→Prop} (h:K (xs.map (rd F))):rdsK F xs K:=rdsK_iff.2 h
theorem o_extract (hx:rd F x= .tup xs) (hj:xs.drop j=r::ys) (h:K r S):vcOp P F S K (.extract x j):=by
 refine rdK_iff.2 ?_;rw [hx];refine dropK_iff.2 ?_;rw [hj];exact h
theorem o_call {g:FuncId} {asx:List Rand} (h:ACalls P g (asx.map (rd F)) S K):vcOp P F S K (.call g asx):=rdsK_of h
theorem o_callv {g:FuncId} {asx:List Rand} {cap:List AVal} (hx:rd F x= .fn (.func g) [] cap) (h:ACalls P g (asx.map (rd F)++cap) S K):vcOp P F S K (.callv x asx):=by
 refine rdK_iff.2 ?_;rw [hx];exact ⟨trivial,rdsK_of h⟩
end
section
variable {P : Program} {F : Frame} {S : Store} {K : Frame → Store → Prop} {d : Option Nat} {op : SOp} {g : Bool} {chk : List (Nat × Nat × Bool × Rand)} {rest : List GOp} {gd j : Nat} {w : Bool} {xs : List AVal}
theorem r_nil (h:K F S):vcOps P K [] F S:=h
theorem r_op (h:vcOp P F S (fun x S'=>splitG g x fun x=>vcOps P K rest (putF F d x) S') op):vcOps P K (⟨d,op,none,g,chk⟩::rest) F S:=h
theorem r_ff (hg:F.get gd= .ff) (h:vcOp P F S (fun x S'=>splitG g x fun x=>vcOps P K rest (putF F d x) S') op):vcOps P K (⟨d,op,some (gd,false),g,chk⟩::rest) F S:=by
 refine getK_iff.2 ?_;rw [hg];exact h
theorem r_st (hg:F.get gd= .ff) (h:vcOps P K rest (putF F d (.tup [])) S):vcOps P K (⟨d,op,some (gd,true),g,chk⟩::rest) F S:=by
 refine getK_iff.2 ?_;rw [hg];exact h
theorem r_sf (hg:F.get gd= .tt) (h:vcOps P K rest (putF F d (.tup [])) S):vcOps P K (⟨d,op,some (gd,false),g,chk⟩::rest) F S:=by
 refine getK_iff.2 ?_;rw [hg];exact h
theorem r_su (hg:F.get gd= .tup xs) (h:vcOps P K rest (putF F d (.tup [])) S):vcOps P K (⟨d,op,some (gd,w),g,chk⟩::rest) F S:=by
 refine getK_iff.2 ?_;rw [hg];exact h
theorem d_zero {l:List GOp} (h:vcOps P K l F S):vcOpsD P K 0 l F S:=h
theorem d_op (h:vcOpD P F S (fun x S'=>splitG g x fun x=>vcOpsD P K j rest (putF F d x) S') op):vcOpsD P K (j+1) (⟨d,op,none,g,chk⟩::rest) F S:=h
theorem s_no {x:AVal} {K:AVal→Prop} (h:K x):splitG false x K:=h
theorem s_ndec {p:Prop} [Decidable p] {K:AVal→Prop} (ht: ¬p→K .tt) (hf:p→K .ff):splitG true (.bool (!decide p)) K:=⟨fun h=>ht (by simpa using h),fun h=>hf (by simpa using h)⟩
theorem s_bool {b:Bool} {K:AVal→Prop} (ht:b=true→K .tt) (hf:b=false→K .ff):splitG true (.bool b) K:=⟨ht,hf⟩
end
section
variable {P : Program} {F : Frame} {S : Store} {K : AVal → Store → Prop}
theorem q_op {so:SOp} (hq:so.isCall=false) (h:vcOp P F S K so):vcOpD P F S K so:=by rw [vcOpD_of hq];exact h
theorem q_call {g:FuncId} {asx:List Rand} (r0:AVal) (h:ACalls P g (asx.map (rd F)) S (fun r S'=>r=r0∧S'=S)) (hk:K r0 S):vcOpD P F S K (.call g asx):=rdsK_iff.2 ⟨r0,h,hk⟩
end
section
variable {P : Program} {F : Frame} {S : Store} {Q : SExit → Frame → Store → Prop} {a b : SCode} {x : Rand} {keep W : List Nat} {n id : Nat} {l : List GOp}
theorem c_ops {ks:List Nat} (h:vcOps P (fun F' S'=>onlyK ks F' fun F''=>Q .normal F'' S') l F S):vc P (.ops l none ks) Q F S:=h
theorem c_opsD {d:Nat×Nat×List Nat} {ks:List Nat} (h:vcOpsD P (fun F' S'=>onlyK ks F' fun F''=>Q .normal F'' S') d.1 l F (S++List.replicate d.2.1 .dead)):vc P (.ops l (some d) ks) Q F S:=h
theorem c_opsD0 {m:HM} {j:Nat} {π ks:List Nat} (hS:Has S m) (h: ∀S',Has S' m→vcOpsD P (fun F' S'=>onlyK ks F' fun F''=>Q .normal F'' S') j l F S'):vc P (.ops l (some (j,0,π)) ks) Q F S:=c_opsD (h _ (hS.deads _))
theorem c_seq (h:vc P a (SExit.onNormal (vc P b Q) Q) F S):vc P (.seq a b) Q F S:=h
theorem c_skip (h:Q .normal F S):vc P .skip Q F S:=h
theorem c_ret (h:Q .ret F S):vc P .ret Q F S:=h
theorem c_exit (h:Q (.exit id) F S):vc P (.exit id) Q F S:=h
theorem c_block (h:vc P a (SExit.onBlock id Q) F S):vc P (.block id a) Q F S:=h
theorem c_dec {p:Prop} [Decidable p] (hx:rd F x= .bool (decide p)) (ht:p→vc P a Q F S) (hf: ¬p→vc P b Q F S):vc P (.cond x a b) Q F S:=by
 refine rdK_iff.2 ?_;rw [hx];exact ⟨fun h=>ht (of_decide_eq_true h),fun h=>hf (of_decide_eq_false h)⟩
theorem c_ndec {p:Prop} [Decidable p] (hx:rd F x= .bool (!decide p)) (ht: ¬p→vc P a Q F S) (hf:p→vc P b Q F S):vc P (.cond x a b) Q F S:=by
 refine rdK_iff.2 ?_;rw [hx];exact ⟨fun h=>ht (by simpa using h),fun h=>hf (by simpa using h)⟩
theorem c_bool {c:Bool} (hx:rd F x= .bool c) (ht:c=true→vc P a Q F S) (hf:c=false→vc P b Q F S):vc P (.cond x a b) Q F S:=by
 refine rdK_iff.2 ?_;rw [hx];exact ⟨ht,hf⟩
theorem c_keep {ks:List Nat} {K:Frame→Prop} (h:K (ks.map fun t=>(t,F.get t))):onlyK ks F K:=onlyK_iff.2 h
theorem c_loop (I:Nat→List AVal→Store→Prop) (k:Nat) (h0:I k (W.map F.get) S) (h: ∀k xs os,xs.length=W.length→I k xs os→vc P a (SExit.onNormal (fun F' S'=> ∃k',k'<k∧I k' (W.map F'.get) S') Q) (zipF W xs (keep.map fun t=>(t,F.get t))) os):vc P (.loop keep W n a) Q F S:=by
 refine ⟨I,getsK_iff.2 ⟨k,h0⟩,onlyK_iff.2 (allA_iff.2 fun xs hl k os hI=>?_)⟩
 have:=h k xs os hl hI
 have e:(fun F' S'=>getsK W F' fun ys=> ∃k',k'<k∧I k' ys S')=fun F' S'=> ∃k',k'<k∧I k' (W.map F'.get) S':=by funext F' S';exact propext getsK_iff
 rw [e];exact this
theorem on_n {N:Frame→Store→Prop} (h:N F S):SExit.onNormal N Q .normal F S:=h
theorem on_r {N:Frame→Store→Prop} (h:Q .ret F S):SExit.onNormal N Q .ret F S:=h
theorem on_e {N:Frame→Store→Prop} (h:Q (.exit id) F S):SExit.onNormal N Q (.exit id) F S:=h
theorem ob_n (h:Q .normal F S):SExit.onBlock id Q .normal F S:=h
theorem ob_r (h:Q .ret F S):SExit.onBlock id Q .ret F S:=h
theorem ob_e (h:Q .normal F S):SExit.onBlock id Q (.exit id) F S:=by simp only [SExit.onBlock,Nat.beq_refl];exact h
theorem ob_x {j:Nat} (hn:Nat.beq j id=false) (h:Q (.exit j) F S):SExit.onBlock id Q (.exit j) F S:=by simp only [SExit.onBlock,hn];exact h
end
theorem w_nil {F:Frame} {S:Store} {K:List AVal→Prop} (h:K []):wRes F S K []:=h
theorem w_tmp {F:Frame} {S:Store} {K:List AVal→Prop} {t:Nat} {rs:List RRes} (h:wRes F S (fun xs=>K (F.get t::xs)) rs):wRes F S K (.tmp t::rs):=getK_iff.2 h
theorem w_cell {F:Frame} {S:Store} {K:List AVal→Prop} {t n:Nat} {ag:Bool} {rs:List RRes} {m:HM} {l v off k:Nat} {o:Ob} {f:Ob→HM} {cs xs:List AVal} {r:AVal} (hS:Has S m) (hx:F.get t= .ptr l v off) [i:At m l o f] (ho:o= .row v k cs) (ht:takeN n (cs.drop off)=some xs) (hm:mkF ag xs=some r) (h:wRes F S (fun xs=>K (r::xs)) rs):wRes F S K (.cell t n ag::rs):=by
 refine getK_iff.2 ?_
 rw [hx]
 refine hS.row ho ?_
 cases k with
 | zero=>exact dropK_iff.2 (takeK_iff.2 ⟨xs,ht,mkF_ok hm h⟩)
 | succ k=>exact ⟨xs,ht,mkF_ok hm h⟩
end Go.Vc
end
section
namespace Go.Vc
open HM
theorem Has.mid {S:Store} {a b c:HM} (h:Has S (a+(b+c))):Has S (a+c):=(h.eq (m':=b+(a+c)) (by ac_rfl)).right
def SlR (k:Nat) (x:AVal) (cells:List AVal) (n:Nat) (m:HM):Prop:=
 (x= .nils∧n=0∧cells=[]∧m=HM.nil)∨ ∃p v off cs,x= .sl p v off n∧m=pt p (.row v k cs)∧off+n*k≤cs.length∧cells=subL cs off (n*k)
section
variable {k n : Nat} {x : AVal} {cells cs ys : List AVal} {m : HM}
theorem SlR.nil:SlR k .nils [] 0 HM.nil:= .inl ⟨rfl,rfl,rfl,rfl⟩
theorem SlR.mk {p v off:Nat} (h:off+n*k≤cs.length):SlR k (.sl p v off n) (subL cs off (n*k)) n (pt p (.row v k cs)):= .inr ⟨p,v,off,cs,rfl,rfl,h,rfl⟩
theorem SlR.len (h:SlR k x cells n m):lenF false x=some n:=by
 rcases h with ⟨rfl,rfl,_,_⟩ | ⟨p,v,off,cs,rfl,_,_,_⟩<;>rfl
theorem SlR.cl (h:SlR k x cells n m):cellsF x=some [x]:=by
 rcases h with ⟨rfl,rfl,_,_⟩ | ⟨p,v,off,cs,rfl,_,_,_⟩<;>rfl
theorem SlR.pos (h:SlR k x cells n m) (hn:0<n): ∃p v off cs,x= .sl p v off n∧m=pt p (.row v k cs)∧off+n*k≤cs.length∧cells=subL cs off (n*k):=by
 rcases h with ⟨rfl,rfl,rfl,_⟩ | h
 ·omega
 ·exact h
theorem SlR.elem {p v off:Nat} (h:SlR k (.sl p v off n) cells n (pt p (.row v k cs))):True:=trivial
end
section
variable {P : Program} {F : Frame} {S : Store} {K : AVal → Store → Prop} {m a : HM} {g : HM → HM} {x y : Rand} {X : AVal} {cells ys : List AVal} {k n n' b : Nat}
theorem SrcOf.one (h:ys.length=k):SrcOf m k (.ros 1 ys) 1 ys:=⟨rfl,by omega,by rw [List.take_of_length_le (by omega)]⟩
theorem SrcOf.own {p v off:Nat} {cs:List AVal} {o:Ob} {f:Ob→HM} [i:At m p o f] (ho:o= .row v k cs) (hle:off+n*k≤cs.length):SrcOf m k (.sl p v off n) n (subL cs off (n*k)):=⟨rfl,cs,f,o,i,ho,hle,rfl⟩
theorem o_appendX {p v:Nat} {f:Ob→HM} {o:Ob} {cs:List AVal} (hS:Has S m) (hx:rd F x= .sl p v 0 n) (hy:SrcOf m k (rd F y) n' ys) [i:At m p o f] (ho:o= .row v k cs) (hl:cs.length=n*k) (hb:(n+n')*b≤140737488355328) (h: ∀v' S',Has S' (f (.row v' k (cs++ys)))→K (.sl p v' 0 (n+n')) S'):vcOp P F S K (.append k b x y):=by
 refine o_append hS hx hy ho (by omega) hb fun v' S' hS'=>h v' S' ?_
 have e:subL cs 0 (n*k)=cs:=by unfold subL;rw [List.drop_zero,List.take_of_length_le (by omega)]
 rw [e] at hS';exact hS'
theorem o_pickT {c:Rand} (hc:rd F c= .tt) (h:K (rd F x) S):vcOp P F S K (.pick c x y):=by refine rdK_iff.2 ?_;rw [hc];exact rdK_iff.2 h
theorem o_pickF {c:Rand} (hc:rd F c= .ff) (h:K (rd F y) S):vcOp P F S K (.pick c x y):=by refine rdK_iff.2 ?_;rw [hc];exact rdK_iff.2 h
end
end Go.Vc
end
section
namespace Go.Vc
open HM
def RC (P:Program) (f:FuncId) (args:List AVal) (r0:AVal):Prop:=ACalls P f args [] fun r _=>r=r0
section
variable {P : Program} {f : FuncId} {args : List AVal} {r0 : AVal} {S : Store} {m a : HM} {K : AVal → Store → Prop} {R : AVal → HM → Prop}
theorem RC.use (h:RC P f args r0) (hk:K r0 S):ACalls P f args S K:=ACalls.use (Q:=fun r=>r=r0) h fun r e=>e▸hk
theorem RC.of (n:Nat) (h:HC P f args HM.nil R) (hR: ∀r m' S',R r m'→Has S' m'→deref S' n r=r0):RC P f args r0:=
 ACalls.freeze n ((h [] HM.nil (by rw [HM.add_nil];exact Has.nil)).mono fun r S' ⟨m',h1,h2⟩=>hR r m' S' h1 h2.left)
theorem RC.val (h:HC P f args HM.nil fun r _=>r=r0):RC P f args r0:=RC.of 0 h fun r m' S' e _=>e
theorem Has.rest (h:Has S m): ∃mf,Has S (m+mf)∧ ∀S',Has S' (m+mf)→ ∀(l:Nat) o,S[l]?=some o→S'[l]?=some o:=by
 obtain ⟨H,rfl⟩:=m.ex
 have h:HasL S H:=h
 let G:Hp:=((List.range S.length).filter fun l=> !(H.map (·.1)).contains l).map fun l=>(l,S.getD l .dead)
 have gk:G.map (·.1)=(List.range S.length).filter fun l=> !(H.map (·.1)).contains l:=by
  simp only [G,List.map_map]
  exact List.map_id' _
 have hG:HasL S (H++G):=by
  refine ⟨?_,fun p hp=>?_⟩
  ·rw [List.map_append,gk]
   refine List.nodup_append.2 ⟨h.nd,(List.nodup_range).sublist (List.filter_sublist),fun x hx y hy=>?_⟩
   rintro rfl
   have:=(List.mem_filter.1 hy).2
   simp only [Bool.not_eq_true',List.contains_eq_mem,decide_eq_false_iff_not] at this
   exact this hx
  ·rcases List.mem_append.1 hp with hp | hp
   ·exact h.at_ p hp
   ·obtain ⟨l,hl,rfl⟩:=List.mem_map.1 hp
    have:=List.mem_range.1 (List.mem_filter.1 hl).1
    simp [List.getD,List.getElem?_eq_getElem this]
 refine ⟨of G,hG,fun S' h' l o hl=>?_⟩
 have h':HasL S' (H++G):=h'
 by_cases c:l∈H.map (·.1)
 ·obtain ⟨p,hp,e⟩:=List.mem_map.1 c
  have h1:=h.at_ p hp
  have h2:=h'.at_ p (List.mem_append_left _ hp)
  rw [e] at h1 h2
  rw [h2,←h1,hl]
 ·have hlt:=(List.getElem?_eq_some_iff.1 hl).1
  have:=h'.at_ (l,S.getD l .dead) (List.mem_append_right _ (List.mem_map.2 ⟨l,List.mem_filter.2 ⟨List.mem_range.2 hlt,by simpa using c⟩,rfl⟩))
  rw [show S.getD l .dead=o by simp [List.getD,hl]] at this
  exact this
theorem HC.quiet {g:HM→HM} [i:Part m a g] (hc:HC P f args a R) (hR: ∀r m',R r m'→r=r0∧ ∃X,m'=a+X) (h:Has S m) (hk:K r0 S):ACalls P f args S K:=by
 obtain ⟨R0,hm⟩:=i.split
 have h:=i.eq▸h
 rw [hm] at h
 obtain ⟨mf,h1,h2⟩:=h.rest
 refine (hc S (R0+mf) (h1.eq (by ac_rfl))).weak fun r S' ⟨m',g1,g2⟩=>?_
 obtain ⟨rfl,X,rfl⟩:=hR r m' g1
 have g3:=(g2.eq (m':=(a+R0+mf)+X) (by ac_rfl)).left
 exact ⟨_,id,S,LeV.refl _,⟨fun l l' _ _ e=>e,fun l o hl=>⟨o,h2 S' g3 l o hl,.refl o⟩⟩,hk⟩
end
end Go.Vc
end
section
namespace Go.Vc
open HM
def derefT (S:Store):Nat→AVal→AVal
 | 0,x=>x
 | n+1,.sl l v off len=>match S[l]? with
  | some (.row v' k cs)=>if v'=v then .ros len (((cs.drop off).take (len*k)).map (derefT S n)) else .sl l v off len
  | _=>.sl l v off len
 | n+1,.ptr l v off=>match S[l]? with
  | some (.row v' _ cs)=>if v'=v then .rop ((cs.drop off).map (derefT S n)) else .ptr l v off
  | _=>.ptr l v off
 | n+1,.agg cs=>.agg (cs.map (derefT S n))
 | n+1,.tup cs=>.tup (cs.map (derefT S n))
 | _+1,.nils=>.ros 0 []
 | _+1,x=>x
theorem derefT_rel {E:Env} {fz:Nat→Prop} {S:Store} {w:World} (st:St E fz S w): ∀(n:Nat) (x:AVal) (v:Value),Rel E fz w x v→Rel E (frozen E fz S) w (derefT S n x) v:=by
 have up: ∀(x:AVal) (v:Value),Rel E fz w x v→Rel E (frozen E fz S) w x v:=fun x v h=>Rel.mono (fun _ _ h=>h) (fun _ h=>.inl h) (fun _ _=>rfl) x h
 intro n
 induction n with
 | zero=>intro x v h;exact up x v h
 | succ n ih=>
  intro x v h
  have row: ∀ {l ver k:Nat} {cs:List AVal} {b base cap k0:Nat},S[l]?=some (.row ver k cs)→E ver=some (.real b base cap k0)→frozen E fz S b∧RelC E fz w b base cs:=fun {l ver k cs b base cap k0} hl hv=>by
   rcases st.ok l _ hl with ⟨h1,_⟩ | ⟨b',base',cap',arr,T,lo,hi,h1,_,_,_,_,h6,_⟩
   ·rw [h1] at hv;cases hv
   ·rw [h1] at hv;cases hv
    exact ⟨.inr ⟨l,_,hl,by simp [obBlock,h1]⟩,h6⟩
  cases x
  case sl l ver off len=>
   simp only [derefT]
   split
   ·rename_i v' k cs hl
    split
    ·rename_i he;subst he
     simp only [Rel] at h ⊢
     rcases h with ⟨h1,a,h2⟩ | ⟨b,base,cap,k0,c,h1,h2,h3,h4⟩
     ·exact .inl ⟨h1,a,0,h2⟩
     ·obtain ⟨g1,g2⟩:=row hl h1
      exact .inr ⟨b,base+off,c,g1,h2,h4,relC_map ih _ _ ((g2.drop off).take _)⟩
    ·exact up _ _ h
   ·exact up _ _ h
  case ptr l ver off=>
   simp only [derefT]
   split
   ·rename_i v' k cs hl
    split
    ·rename_i he;subst he
     simp only [Rel] at h ⊢
     obtain ⟨b,base,cap,k0,h1,h2⟩:=h
     obtain ⟨g1,g2⟩:=row hl h1
     exact ⟨b,base+off,g1,h2,relC_map ih _ _ (g2.drop off)⟩
    ·exact up _ _ h
   ·exact up _ _ h
  case agg cs=>
   simp only [derefT,Rel] at h ⊢
   obtain ⟨vs,h1,h2,h3⟩:=h
   exact ⟨vs,h1,relL_map ih cs vs h2,h3⟩
  case tup cs=>
   simp only [derefT,Rel] at h ⊢
   obtain ⟨vs,h1,h2⟩:=h
   exact ⟨vs,h1,relL_map ih cs vs h2⟩
  case nils=>
   simp only [derefT,Rel] at h ⊢
   exact .inl ⟨by simp,none,0,h⟩
  all_goals exact up _ _ h
section
variable {P : Program} {f : FuncId} {args : List AVal} {r0 : AVal} {S : Store} {m mf : HM} {R : AVal → HM → Prop} {k n : Nat} {x : AVal} {cells : List AVal}
theorem derefT_row {p v off len k:Nat} {cs:List AVal} (hS:Has S (pt p (.row v k cs)+m)) (d:Nat):derefT S (d+1) (.sl p v off len)= .ros len ((subL cs off (len*k)).map (derefT S d)):=by
 simp only [derefT];rw [hS.get];simp [subL]
theorem SlR.derefT (h:SlR k x cells n m) (hS:Has S (m+mf)) (d:Nat):Go.Vc.derefT S (d+1) x= .ros n (cells.map (Go.Vc.derefT S d)):=by
 rcases h with ⟨rfl,rfl,rfl,rfl⟩ | ⟨p,v,off,cs,rfl,rfl,h1,rfl⟩
 ·rfl
 ·exact derefT_row hS d
theorem o_again {F:Frame} {K:AVal→Store→Prop} {t l v k n off:Nat} {ag:Bool} {x:Rand} {o:Ob} {g:Ob→HM} {cs xs:List AVal} {r:AVal} (hS:Has S m) (hx:rd F x= .ptr l v off) [i:At m l o g] (ho:o= .row v k cs) (ht:takeN n (cs.drop off)=some xs) (hm:mkF ag xs=some r) (hr:rd F (.t t)=r) (h:K .junk S):vcOp P F S K (.again t n ag x):=by
 refine rdK_iff.2 (rdK_iff.2 ?_)
 rw [hx,hr]
 refine hS.row ho ?_
 cases k with
 | zero=>exact dropK_iff.2 (takeK_iff.2 ⟨xs,ht,mkF_ok hm ⟨rfl,h⟩⟩)
 | succ k=>exact ⟨xs,ht,mkF_ok hm ⟨rfl,h⟩⟩
theorem o_againR {F:Frame} {K:AVal→Store→Prop} {t n:Nat} {ag:Bool} {x:Rand} {cs xs:List AVal} {r:AVal} (hx:rd F x= .rop cs) (ht:takeN n cs=some xs) (hm:mkF ag xs=some r) (hr:rd F (.t t)=r) (h:K .junk S):vcOp P F S K (.again t n ag x):=by
 refine rdK_iff.2 (rdK_iff.2 ?_)
 rw [hx,hr]
 exact takeK_iff.2 ⟨xs,ht,mkF_ok hm ⟨rfl,h⟩⟩
theorem SrcOf.ros {cs:List AVal} (h:cs.length=n*k):SrcOf m k (.ros n cs) n cs:=⟨rfl,by omega,(List.take_of_length_le (by omega)).symm⟩
end
end Go.Vc
end
section
namespace Go.Vc
open HM
theorem has_ne {S:Store} {l l':Nat} {o o':Ob} {R:HM} (h:Has S (pt l o+(pt l' o'+R))):l≠l':=by
  obtain ⟨x,rfl⟩:=R.ex
  have h:HasL S ((l,o)::(l',o')::x):=h
  intro e
  have:=(List.nodup_cons.1 h.nd).1
  exact this (by simp [e])
section
variable {P : Program} {F : Frame} {S : Store} {m : HM} {K : AVal → Store → Prop} {l d k n : Nat} {f : Ob → HM} {x y : Rand}
theorem Has.wput {o o':Ob} [i:At m l o f] (h:Has S m):Has (S.set l o') (f o'):=by
  obtain ⟨R,hR⟩:=i.split
  have h:=i.eq▸h
  rw [hR] at h
  rw [hR];exact h.put o'
theorem o_mkres {b:Nat} {z:List AVal} {ik:IntKind} (hS:Has S m) (hL:S.length=l+d) (hd:0<d) [i:At m l .dead f] (hx:rd F x= .int ik (n:Int)) (hy:rd F y=rd F x) (hb:b*n≤140737488355328)
    (h: ∀v S',Has S' (f (.row v k (List.replicate n z).flatten))→S'.length=l+d→K (.sl l v 0 n) S'):vcOp P F S K (.mkres d k b z x y):=by
  have e:S.length-d=l:=by omega
  refine rdK_iff.2 (rdK_iff.2 ?_)
  rw [hy,hx]
  refine ⟨n,rfl,rfl,hb,hd,by omega,by rw [e];exact hS.here,fun v=>?_⟩
  rw [e]
  exact h v _ hS.wput (by rw [List.length_set];exact hL)
end
def killZ (Z:List Nat) (S:Store):Store:=S.mapIdx fun l o=>if l∈Z then .dead else o
def keepZ (Z:List Nat) (S:Store):Store:=S.mapIdx fun l o=>if l∈Z then o else .dead
theorem killZ_at {Z:List Nat} {S:Store} {l:Nat} {o:Ob} (h:(killZ Z S)[l]?=some o):(l∈Z∧o= .dead)∨(l ∉ Z∧S[l]?=some o):=by
  unfold killZ at h
  rw [List.getElem?_mapIdx] at h
  obtain ⟨o',h1,h2⟩:=Option.map_eq_some_iff.1 h
  by_cases c:l∈Z
  · rw [if_pos c] at h2;exact .inl ⟨c,h2.symm⟩
  · rw [if_neg c] at h2;exact .inr ⟨c,by rw [←h2];exact h1⟩
theorem keepZ_at {Z:List Nat} {S:Store} {l:Nat} {o:Ob} (h:(keepZ Z S)[l]?=some o):(l ∉ Z∧o= .dead)∨(l∈Z∧S[l]?=some o):=by
  unfold keepZ at h
  rw [List.getElem?_mapIdx] at h
  obtain ⟨o',h1,h2⟩:=Option.map_eq_some_iff.1 h
  by_cases c:l∈Z
  · rw [if_pos c] at h2;exact .inr ⟨c,by rw [←h2];exact h1⟩
  · rw [if_neg c] at h2;exact .inl ⟨c,h2.symm⟩
theorem killZ_own {Z:List Nat} {S:Store} {E:Env} {l b:Nat} (h:OwnAt E (killZ Z S) l b):l ∉ Z∧OwnAt E S l b:=by
  obtain ⟨o,h1,h2⟩:=h
  rcases killZ_at h1 with ⟨_,rfl⟩ | ⟨c,h3⟩
  · cases h2
  · exact ⟨c,o,h3,h2⟩
theorem keepZ_own {Z:List Nat} {S:Store} {E:Env} {l b:Nat} (h:OwnAt E (keepZ Z S) l b):l∈Z∧OwnAt E S l b:=by
  obtain ⟨o,h1,h2⟩:=h
  rcases keepZ_at h1 with ⟨_,rfl⟩ | ⟨c,h3⟩
  · cases h2
  · exact ⟨c,o,h3,h2⟩
section
variable {E : Env} {fz : Nat → Prop} {S : Store} {w : World} {P : Program} {f : FuncId} {args : List AVal}
theorem St.keepZ (Z:List Nat) (st:St E fz S w):St E fz (Go.Vc.keepZ Z S) w:=
  ⟨fun l o h=>by
    rcases keepZ_at h with ⟨_,rfl⟩ | ⟨_,h⟩
    · trivial
    · exact st.ok l o h,fun l l' b h h'=>st.sep l l' b (keepZ_own h).2 (keepZ_own h').2,st.fzlt,st.fresh⟩
theorem St.killZ (Z:List Nat) (st:St E fz S w):St E (frozen E fz (Go.Vc.keepZ Z S)) (Go.Vc.killZ Z S) w:=
  ⟨fun l o h=>by
    rcases killZ_at h with ⟨_,rfl⟩ | ⟨c,h⟩
    · trivial
    · refine (st.ok l o h).mono (fun _ _ h=>h) (fun _ h=>.inl h) (fun _ _=>rfl) fun b hb=>⟨rfl,?_⟩
      rintro (hf | ⟨l',ho⟩)
      · exact (st.own_lt ⟨o,h,hb⟩).2 hf
      · obtain ⟨h1,h2⟩:=keepZ_own ho
        exact c (st.sep l l' b ⟨o,h,hb⟩ h2▸h1),
   fun l l' b h h'=>st.sep l l' b (killZ_own h).2 (killZ_own h').2,fun b hb=>hb.elim (st.fzlt b) fun ⟨l,h⟩=>(st.own_lt (keepZ_own h).2).1,st.fresh⟩
theorem ACalls.freezeZ {R K:AVal→Store→Prop} (n:Nat) (h:ACalls P f args S R) (hK: ∀r S',R r S'→ ∃Z,K (derefT (keepZ Z S') n r) (killZ Z S')):ACalls P f args S K:=
  ⟨fun E fz w vals st hrel=>(h.out E fz w vals st hrel).mono fun e w' ⟨r,S',v,E',fz',h1,h2,h3,h4,h5⟩=>by
    obtain ⟨Z,hZ⟩:=hK r S' h5
    exact ⟨_,_,v,E',frozen E' fz' (keepZ Z S'),h1,⟨h2.env,fun b hb=>.inl (h2.frz b hb),fun b hb=>hb.elim (h2.fznew b) fun ⟨l,ho⟩=>.inr (h2.own b ⟨l,(keepZ_own ho).2⟩),h2.keep,fun b ⟨l,ho⟩=>h2.own b ⟨l,(killZ_own ho).2⟩,h2.size,h2.os,h2.output,h2.tape⟩,
      h3.killZ Z,derefT_rel (h3.keepZ Z) n r v h4,hZ⟩⟩
end
theorem HC.freeze {P:Program} {f:FuncId} {args:List AVal} {a:HM} {R R2:AVal→HM→Prop} (n:Nat) (h:HC P f args a R)
    (hR: ∀r m',R r m'→ ∃mk mz r0,m'=mk+mz∧(∀Sz,Has Sz mz→derefT Sz n r=r0)∧R2 r0 mk):HC P f args a R2:=fun S mf hS=>by
  refine ACalls.freezeZ n (h S mf hS) fun r S' ⟨m',h1,h2⟩=>?_
  obtain ⟨mk,mz,r0,rfl,h3,h4⟩:=hR r m' h1
  obtain ⟨x,rfl⟩:=mk.ex
  obtain ⟨y,rfl⟩:=mz.ex
  obtain ⟨z,rfl⟩:=mf.ex
  have h2:HasL S' ((x++y)++z):=h2
  have nd:=h2.nd
  rw [List.map_append,List.map_append] at nd
  have nxy:=List.nodup_append.1 (List.nodup_append.1 nd).1
  have nz:=(List.nodup_append.1 nd).2.2
  refine ⟨y.map (·.1),of x,?_,?_⟩
  · have e:derefT (keepZ (y.map (·.1)) S') n r=r0:=h3 _ (show HasL _ y from ⟨nxy.2.1,fun p hp=>by
      unfold keepZ
      rw [List.getElem?_mapIdx,h2.at_ p (by simp [hp])]
      simp only [Option.map_some]
      rw [if_pos (List.mem_map_of_mem hp)]⟩)
    rw [e];exact h4
  · show HasL _ (x++z)
    refine ⟨?_,fun p hp=>?_⟩
    · rw [List.map_append]
      exact List.nodup_append.2 ⟨nxy.1,(List.nodup_append.1 nd).2.1,fun a ha b hb=>nz a (List.mem_append_left _ ha) b hb⟩
    · have hne:p.1 ∉ y.map (·.1):=fun hy=>by
        rcases List.mem_append.1 hp with hp | hp
        · exact nxy.2.2 p.1 (List.mem_map_of_mem hp) p.1 hy rfl
        · exact nz p.1 (List.mem_append_right _ hy) p.1 (List.mem_map_of_mem hp) rfl
      unfold killZ
      rw [List.getElem?_mapIdx,h2.at_ p (by rcases List.mem_append.1 hp with hp | hp<;>simp [hp])]
      simp only [Option.map_some]
      rw [if_neg hne]
section
variable {P : Program} {F : Frame} {S : Store} {K : AVal → Store → Prop} {m : HM} {l d k n : Nat} {f : Ob → HM}
theorem Has.kept2 (h:Has S m):Has (S++List.replicate 2 .dead) (pt S.length .dead+(pt (S.length+1) .dead+m)):=by
  have h1:=h.more .dead
  have h2:=h1.more .dead
  simp only [List.length_append,List.length_cons,List.length_nil,Nat.zero_add,List.append_assoc,List.cons_append,List.nil_append] at h2
  refine Has.eq h2 ?_
  ac_rfl
theorem c_opsD2 {Q:SExit→Frame→Store→Prop} {gl:List GOp} {j:Nat} {π ks:List Nat} (hS:Has S m) (h: ∀n S',S'.length=n+2→Has S' (pt n .dead+(pt (n+1) .dead+m))→vcOpsD P (fun F' S'=>onlyK ks F' fun F''=>Q .normal F'' S') j gl F S'):vc P (.ops gl (some (j,2,π)) ks) Q F S:=
  c_opsD (h S.length _ (by simp) hS.kept2)
end
end Go.Vc
end
section
set_option maxRecDepth 100000
namespace Go.Proofs.Pl
open Go.Vc Go.Vk
noncomputable def eOps0:OpArr (regOf (cL (bodyOf Try.f21))):=by apply OpArr.mk;dsimp only [Try.f21,bodyOf,cL,cR,regOf]
noncomputable def eOps1:OpArr (regOf (cL (cL (cR (bodyOf Try.f21))))):=by apply OpArr.mk;dsimp only [Try.f21,bodyOf,cL,cR,regOf]
noncomputable def eOps2:OpArr (regOf (cL (cL (cR (cL (cR (bodyOf Try.f21))))))):=by apply OpArr.mk;dsimp only [Try.f21,bodyOf,cL,cR,regOf]
noncomputable def eOps3:OpArr (regOf (cL (cR (cR (bodyOf Try.f21))))):=by apply OpArr.mk;dsimp only [Try.f21,bodyOf,cL,cR,regOf]
noncomputable def eOps4:OpArr (regOf (cL (cR (cR (cR (bodyOf Try.f21)))))):=by apply OpArr.mk;dsimp only [Try.f21,bodyOf,cL,cR,regOf]
noncomputable def eOps5:OpArr (regOf (cL (cL (cR (cR (cR (cR (bodyOf Try.f21)))))))):=by apply OpArr.mk;dsimp only [Try.f21,bodyOf,cL,cR,regOf]
noncomputable def eOps6:OpArr (regOf (cL (cL (cL (cR (cL (cR (cR (cR (cR (bodyOf Try.f21))))))))))):=by apply OpArr.mk;dsimp only [Try.f21,bodyOf,cL,cR,regOf]
noncomputable def eOps7:OpArr (regOf (cL (cL (cL (cR (cR (cL (cL (cR (cL (cR (cR (cR (cR (bodyOf Try.f21))))))))))))))):=by apply OpArr.mk;dsimp only [Try.f21,bodyOf,cL,cR,regOf]
noncomputable def eOps8:OpArr (regOf (cL (cR (cL (cL (cR (cR (cL (cL (cR (cL (cR (cR (cR (cR (bodyOf Try.f21)))))))))))))))):=by apply OpArr.mk;dsimp only [Try.f21,bodyOf,cL,cR,regOf]
noncomputable def eOps9:OpArr (regOf (cR (cR (cL (cL (cR (cR (cL (cL (cR (cL (cR (cR (cR (cR (bodyOf Try.f21)))))))))))))))):=by apply OpArr.mk;dsimp only [Try.f21,bodyOf,cL,cR,regOf]
noncomputable def eOps10:OpArr (regOf (cR (cR (cR (cL (cL (cR (cL (cR (cR (cR (cR (bodyOf Try.f21))))))))))))):=by apply OpArr.mk;dsimp only [Try.f21,bodyOf,cL,cR,regOf]
noncomputable def eOps11:OpArr (regOf (cL (cR (cR (cR (cR (cR (bodyOf Try.f21)))))))):=by apply OpArr.mk;dsimp only [Try.f21,bodyOf,cL,cR,regOf]
noncomputable def eOps12:OpArr (regOf (cL (cR (cR (cR (cR (cR (cR (bodyOf Try.f21))))))))):=by apply OpArr.mk;dsimp only [Try.f21,bodyOf,cL,cR,regOf]
noncomputable def eOps13:OpArr (regOf (cL (cL (cR (cR (cR (cR (cR (cR (cR (bodyOf Try.f21))))))))))):=by apply OpArr.mk;dsimp only [Try.f21,bodyOf,cL,cR,regOf]
noncomputable def eOps14:OpArr (regOf (cL (cL (cL (cR (cL (cR (cR (cR (cR (cR (cR (cR (bodyOf Try.f21)))))))))))))):=by apply OpArr.mk;dsimp only [Try.f21,bodyOf,cL,cR,regOf]
noncomputable def eOps15:OpArr (regOf (cL (cL (cR (cR (cL (cL (cR (cL (cR (cR (cR (cR (cR (cR (cR (bodyOf Try.f21))))))))))))))))):=by apply OpArr.mk;dsimp only [Try.f21,bodyOf,cL,cR,regOf]
noncomputable def eOps16:OpArr (regOf (cR (cL (cR (cR (cL (cL (cR (cL (cR (cR (cR (cR (cR (cR (cR (bodyOf Try.f21))))))))))))))))):=by apply OpArr.mk;dsimp only [Try.f21,bodyOf,cL,cR,regOf]
noncomputable def eOps17:OpArr (regOf (cL (cL (cR (cR (cR (cR (cR (cR (cR (cR (bodyOf Try.f21)))))))))))):=by apply OpArr.mk;dsimp only [Try.f21,bodyOf,cL,cR,regOf]
noncomputable def eOps18:OpArr (regOf (cL (cL (cL (cR (cL (cR (cR (cR (cR (cR (cR (cR (cR (bodyOf Try.f21))))))))))))))):=by apply OpArr.mk;dsimp only [Try.f21,bodyOf,cL,cR,regOf]
noncomputable def eOps19:OpArr (regOf (cL (cL (cL (cR (cR (cL (cL (cR (cL (cR (cR (cR (cR (cR (cR (cR (cR (bodyOf Try.f21))))))))))))))))))):=by apply OpArr.mk;dsimp only [Try.f21,bodyOf,cL,cR,regOf]
noncomputable def eOps20:OpArr (regOf (cL (cR (cL (cL (cR (cR (cL (cL (cR (cL (cR (cR (cR (cR (cR (cR (cR (cR (bodyOf Try.f21)))))))))))))))))))):=by apply OpArr.mk;dsimp only [Try.f21,bodyOf,cL,cR,regOf]
noncomputable def eOps21:OpArr (regOf (cL (cL (cR (cR (cL (cL (cR (cR (cL (cL (cR (cL (cR (cR (cR (cR (cR (cR (cR (cR (bodyOf Try.f21)))))))))))))))))))))):=by apply OpArr.mk;dsimp only [Try.f21,bodyOf,cL,cR,regOf]
noncomputable def eOps22:OpArr (regOf (cR (cR (cR (cL (cL (cR (cL (cR (cR (cR (cR (cR (cR (cR (cR (bodyOf Try.f21))))))))))))))))):=by apply OpArr.mk;dsimp only [Try.f21,bodyOf,cL,cR,regOf]
noncomputable def eOps23:OpArr (regOf (cL (cR (cR (cR (cR (cR (cR (cR (cR (cR (bodyOf Try.f21)))))))))))):=by apply OpArr.mk;dsimp only [Try.f21,bodyOf,cL,cR,regOf]
noncomputable def eBody:Code:=
 (.seq (.region 0 eOps0.v false) (.seq (.seq (.region 1 eOps1.v false) (.cond (.tmp 15) (.seq (.region 2 eOps2.v false) .ret) .skip)) (.seq (.region 3 eOps3.v false) (.seq (.region 4 eOps4.v false) (.seq (.seq (.region 5 eOps5.v false) (.block 0 (.loop (.seq (.region 6 eOps6.v false) (.seq (.cond (.tmp 19) .skip (.exit 0)) (.seq (.block 1 (.seq (.region 7 eOps7.v false) (.seq (.region 8 eOps8.v false) (.region 9 eOps9.v false)))) (.region 10 eOps10.v false))))))) (.seq (.region 11 eOps11.v false) (.seq (.region 12 eOps12.v true) (.seq (.seq (.region 13 eOps13.v false) (.block 2 (.loop (.seq (.region 14 eOps14.v false) (.seq (.cond (.tmp 31) .skip (.exit 2)) (.block 3 (.seq (.region 15 eOps15.v false) (.region 16 eOps16.v true)))))))) (.seq (.seq (.region 17 eOps17.v false) (.block 4 (.loop (.seq (.region 18 eOps18.v false) (.seq (.cond (.tmp 48) .skip (.exit 4)) (.seq (.block 5 (.seq (.region 19 eOps19.v false) (.seq (.region 20 eOps20.v false) (.cond (.tmp 52) (.seq (.region 21 eOps21.v false) .ret) .skip)))) (.region 22 eOps22.v false))))))) (.seq (.region 23 eOps23.v false) .ret))))))))))
theorem e_body:Try.f21.body=some eBody:=by rfl
noncomputable def eBody0:Code:= .seq (.region 6 eOps6.v false) (.seq (.cond (.tmp 19) .skip (.exit 0)) (.seq (.block 1 (.seq (.region 7 eOps7.v false) (.seq (.region 8 eOps8.v false) (.region 9 eOps9.v false)))) (.region 10 eOps10.v false)))
noncomputable def eRest:Code:= .seq (.region 12 eOps12.v true) (.seq (.seq (.region 13 eOps13.v false) (.block 2 (.loop (.seq (.region 14 eOps14.v false) (.seq (.cond (.tmp 31) .skip (.exit 2)) (.block 3 (.seq (.region 15 eOps15.v false) (.region 16 eOps16.v true)))))))) (.seq (.seq (.region 17 eOps17.v false) (.block 4 (.loop (.seq (.region 18 eOps18.v false) (.seq (.cond (.tmp 48) .skip (.exit 4)) (.seq (.block 5 (.seq (.region 19 eOps19.v false) (.seq (.region 20 eOps20.v false) (.cond (.tmp 52) (.seq (.region 21 eOps21.v false) .ret) .skip)))) (.region 22 eOps22.v false))))))) (.seq (.region 23 eOps23.v false) .ret)))
noncomputable def eBodyQ:Code:= .seq (.region 0 eOps0.v false) (.seq (.seq (.region 1 eOps1.v false) (.cond (.tmp 15) (.seq (.region 2 eOps2.v false) .ret) .skip)) (.seq (.region 3 eOps3.v false) (.seq (.region 4 eOps4.v false) (.seq (.seq (.region 5 eOps5.v false) (.block 0 (.loop eBody0))) (.seq (.region 11 eOps11.v false) eRest)))))
theorem eBody_eq:eBody=eBodyQ:=rfl
noncomputable def eTail:Code:= .seq (.seq (.region 17 eOps17.v false) (.block 4 (.loop (.seq (.region 18 eOps18.v false) (.seq (.cond (.tmp 48) .skip (.exit 4)) (.seq (.block 5 (.seq (.region 19 eOps19.v false) (.seq (.region 20 eOps20.v false) (.cond (.tmp 52) (.seq (.region 21 eOps21.v false) .ret) .skip)))) (.region 22 eOps22.v false))))))) (.seq (.region 23 eOps23.v false) .ret)
def sA:SCode:=
 (.ops [⟨(some 25),.mov (.t 0),none,false,[]⟩,
  ⟨(some 27),.mov (.t 0),none,false,[]⟩,
  ⟨(some 26),.mkres 2 5 40 [(.int .i64 0),(.int .i64 0),(.int .i64 0),(.int .i64 0),(.int .i64 0)] (.t 25) (.t 25),none,false,[]⟩,
  ⟨(some 9),.mov (.t 26),none,false,[]⟩,
  ⟨(some 28),.mkres 1 1 8 [(.int .i64 0)] (.t 27) (.t 27),none,false,[]⟩,
  ⟨(some 10),.mov (.t 28),none,false,[]⟩] (some (2,2,[0,2,1,4,3,5])) [6,9,10])
theorem sA_ok:comp Try.prog 56 (.region 12 eOps12.v true) sA=some sA:=by kernel_rfl
def sB:SCode:=
 (.ops [⟨(some 29),.load 1 false (.t 6),none,false,[]⟩] none [9,10,29])
theorem sB_ok:comp Try.prog 56 (.region 13 eOps13.v false) sB=some sB:=by kernel_rfl
def sC:SCode:=
 (.seq (.ops [⟨(some 32),.extract (.t 30) 0,none,false,[]⟩,
   ⟨(some 11),.alloc 0 [(.int .i64 0),(.int .i64 0),(.int .i64 0),(.int .i64 0),(.int .i64 0),(.int .i64 0),(.int .i64 0)],none,false,[]⟩,
   ⟨none,.store 7 (.t 11) (.t 32),none,false,[]⟩] none [9,10,11,29])
  (.ops [⟨(some 33),.mov (.t 9),none,false,[]⟩,
   ⟨(some 34),.faddr 0 (.t 11),none,false,[]⟩,
   ⟨(some 35),.load 1 false (.t 34),none,false,[]⟩,
   ⟨(some 36),.mov (.t 10),none,false,[]⟩,
   ⟨(some 37),.faddr 0 (.t 11),none,false,[]⟩,
   ⟨(some 38),.load 1 false (.t 37),none,false,[]⟩,
   ⟨(some 39),.faddr 1 (.t 11),none,false,[]⟩,
   ⟨(some 40),.load 5 true (.t 39),none,false,[]⟩,
   ⟨(some 41),.faddr 6 (.t 11),none,false,[]⟩,
   ⟨(some 42),.load 1 false (.t 41),none,false,[]⟩,
   ⟨(some 43),.iaddr 5 none (.t 33) (.t 35),none,false,[]⟩,
   ⟨none,.store 5 (.t 43) (.t 40),none,false,[(38,1,false,(.t 37)),(42,1,false,(.t 41))]⟩,
   ⟨none,.again 38 1 false (.t 37),none,false,[]⟩,
   ⟨none,.again 42 1 false (.t 41),none,false,[]⟩,
   ⟨(some 44),.iaddr 1 none (.t 36) (.t 38),none,false,[]⟩,
   ⟨none,.store 1 (.t 44) (.t 42),none,false,[]⟩] (some (0,0,[0,1,2,3,4,5,6,7,8,9,10,11,12,13])) [9,10,29]))
theorem sC_ok:comp Try.prog 56 (.seq (.region 15 eOps15.v false) (.region 16 eOps16.v true)) sC=some sC:=by kernel_rfl
def sD:SCode:=
 (.seq (.seq (.ops [⟨(some 45),.mov (.t 10),none,false,[]⟩,
  ⟨(some 46),.len false (.t 45),none,false,[]⟩,
  ⟨(some 47),.mov (.c (.int .i64 0)),none,false,[]⟩] none [9,45,46,47])
 (.block 4 (.loop [9,45,46] [47] 7
  (.seq (.ops [⟨(some 48),.bin .none .lss (.t 47) (.t 46),none,false,[]⟩] none [9,45,46,47,48])
  (.seq (.cond (.t 48)
   .skip
   (.exit 4))
  (.seq (.block 5 (.seq (.ops [⟨(some 49),.iaddr 1 none (.t 45) (.t 47),none,false,[]⟩,
   ⟨(some 50),.load 1 false (.t 49),none,false,[]⟩,
   ⟨(some 13),.mov (.t 50),none,false,[]⟩] none [9,13,45,46,47])
  (.seq (.ops [⟨(some 51),.mov (.t 13),none,false,[]⟩,
   ⟨(some 52),.bin .none .neq (.t 51) (.c (.int .i64 0)),none,false,[]⟩] none [9,13,45,46,47,52])
  (.cond (.t 52)
   (.seq (.ops [⟨(some 53),.mov (.t 13),none,false,[]⟩,
    ⟨(some 4),.mov (.c .nils),none,false,[]⟩,
    ⟨(some 5),.mov (.t 53),none,false,[]⟩] none [4,5])
   .ret)
   .skip))))
  (.ops [⟨(some 54),.bin .none .add (.t 47) (.c (.int .i64 1)),none,false,[]⟩,
   ⟨(some 47),.mov (.t 54),none,false,[]⟩] none [9,45,46,47])))))))
 (.seq (.ops [⟨(some 55),.mov (.t 9),none,false,[]⟩,
  ⟨(some 4),.mov (.t 55),none,false,[]⟩,
  ⟨(some 5),.mov (.c (.int .i64 0)),none,false,[]⟩] none [4,5])
 .ret))
theorem sD_ok:comp Try.prog 56 (eTail) sD=some sD:=by kernel_rfl
section
open Go.Vc
abbrev Msr:=(Int×Int×Int)×Int×Int
def encM (m:Msr):List AVal:=[.int .i64 m.1.1,.int .i64 m.1.2.1,.int .i64 m.1.2.2,.int .i64 m.2.1,.int .i64 m.2.2]
theorem encM_len (m:Msr):(encM m).length=5:=rfl
theorem flatM_len (ms:List Msr):(ms.flatMap encM).length=ms.length*5:=flatMap_length encM_len ms
theorem over_nil (cs:List AVal):over cs []=cs:=by cases cs<;>rfl
theorem set_cells (y:AVal): ∀(cs:List AVal) (i:Nat),i<cs.length→setCells cs i [y]=cs.set i y
 | [],i,h=>by simp at h
 | c::cs,0,h=>by simp [setCells,over,over_nil]
 | c::cs,i+1,h=>by simp only [setCells,List.set_cons_succ];rw [set_cells y cs i (by simpa using h)]
theorem set_msr (m:Msr): ∀(ms:List Msr) (i:Nat),i<ms.length→setCells (ms.flatMap encM) (i*5) (encM m)=(ms.set i m).flatMap encM
 | [],i,h=>by simp at h
 | c::ms,0,h=>by
  rw [List.flatMap_cons,List.set_cons_zero,List.flatMap_cons,Nat.zero_mul]
  show over (_::_::_::_::_::_) [_,_,_,_,_]=_
  simp only [over,over_nil];rfl
 | c::ms,i+1,h=>by
  rw [List.flatMap_cons,List.set_cons_succ,List.flatMap_cons,←set_msr m ms i (by simpa using h),show (i+1)*5=i*5+1+1+1+1+1 by omega]
  rfl
theorem take_one {cs:List AVal} {i:Nat} {x:AVal} (h:cs[i]?=some x):takeN 1 (cs.drop i)=some [x]:=by
 obtain ⟨hlt,h⟩:=List.getElem?_eq_some_iff.1 h
 rw [List.drop_eq_getElem_cons hlt,h];rfl
def zeroM:Msr:=((0,0,0),0,0)
theorem zeros_flat (n:Nat):(List.replicate n [AVal.int .i64 0,.int .i64 0,.int .i64 0,.int .i64 0,.int .i64 0]).flatten=(List.replicate n zeroM).flatMap encM:=by
 induction n with
 | zero=>rfl
 | succ n ih=>rw [List.replicate_succ,List.replicate_succ,List.flatten_cons,List.flatMap_cons,ih];rfl
theorem vcA {n:Nat} (hn:n≤40) {p:AVal} {Q:SExit→Go.Vc.Frame→Store→Prop} (h: ∀l1 v1 l2 v2 S',Has S' (pt l1 (.row v1 5 ((List.replicate n zeroM).flatMap encM))+pt l2 (.row v2 1 (List.replicate n (.int .i64 0))))→Q .normal [(6,p),(9,.sl l1 v1 0 n),(10,.sl l2 v2 0 n)] S'):
  vc Try.prog sA Q [(0,.int .i64 n),(6,p)] []:=by
 unfold sA
 have hS:Has [] HM.nil:=Has.nil
 refine c_opsD2 hS fun n S hL hS=>?_
 refine d_op (q_op rfl (o_mov (s_no ?_)))
 try dsimp only [putF,rd,Frame.get]
 refine d_op (q_op rfl (o_mov (s_no ?_)))
 try dsimp only [putF,rd,Frame.get]
 refine d_zero ?_
 refine r_op (o_mkres hS hL (by omega) rfl rfl (by omega) fun v S hS hL=>s_no ?_)
 try dsimp only [putF,rd,Frame.get]
 refine r_op (o_mov (s_no ?_))
 try dsimp only [putF,rd,Frame.get]
 refine r_op (o_mkres hS hL (by omega) rfl rfl (by omega) fun v S hS hL=>s_no ?_)
 try dsimp only [putF,rd,Frame.get]
 refine r_op (o_mov (s_no ?_))
 try dsimp only [putF,rd,Frame.get]
 refine r_nil (c_keep ?_)
 try dsimp only [List.map]
 try dsimp only [putF,rd,Frame.get]
 exact h _ _ _ _ _ (hS.eq (by simp only [List.flatten_replicate_singleton,HM.add_nil,zeros_flat]))
theorem vcB {c x y:AVal} {T:Store} {Q:SExit→Go.Vc.Frame→Store→Prop} (h:Q .normal [(9,x),(10,y),(29,c)] T):vc Try.prog sB Q [(6,.rop [c]),(9,x),(10,y)] T:=by
 unfold sB
 refine c_ops ?_
 first | refine r_op (o_load hS rfl rfl rfl rfl (s_no ?_)) | refine r_op (o_load hS rfl rfl (by assumption) rfl (s_no ?_)) | refine r_op (o_loadR rfl rfl rfl (s_no ?_)) | refine r_op (o_loadR rfl (by assumption) rfl (s_no ?_))
 try dsimp only [putF,rd,Frame.get]
 refine r_nil (c_keep ?_)
 try dsimp only [List.map]
 try dsimp only [putF,rd,Frame.get]
 exact h
theorem vcC {n i l1 v1 l2 v2:Nat} {ch:AVal} {m:Msr} {ms:List Msr} {codes:List AVal} {S:Store} {X:HM} {Q:SExit→Go.Vc.Frame→Store→Prop} (hi:i<n) (ho:ms.length=n) (hc:codes.length=n)
  (hS:Has S (pt l1 (.row v1 5 (ms.flatMap encM))+(pt l2 (.row v2 1 codes)+X)))
  (h: ∀X S',Has S' (pt l1 (.row v1 5 ((ms.set i m).flatMap encM))+(pt l2 (.row v2 1 (codes.set i (.int .i64 0)))+X))→Q .normal [(9,.sl l1 v1 0 n),(10,.sl l2 v2 0 n),(29,ch)] S'):
  vc Try.prog sC Q [(9,.sl l1 v1 0 n),(10,.sl l2 v2 0 n),(29,ch),(30,.tup [.agg [.int .i64 i,.int .i64 m.1.1,.int .i64 m.1.2.1,.int .i64 m.1.2.2,.int .i64 m.2.1,.int .i64 m.2.2,.int .i64 0],.bool true])] S:=by
 unfold sC
 have hb1:i*5+5≤(ms.flatMap encM).length:=by rw [flatM_len];omega
 have hb2:i+1≤codes.length:=by omega
 repeat (with_reducible first | refine c_seq ?_ | refine on_n ?_ | refine c_skip ?_ | refine c_block ?_ | refine on_r ?_ | refine c_ret ?_ | refine c_exit ?_ | refine on_e ?_ | refine ob_e ?_ | refine ob_n ?_ | refine ob_r ?_ | refine ob_x rfl ?_)
 refine c_ops ?_
 refine r_op (o_extract rfl rfl (s_no ?_))
 try dsimp only [putF,rd,Frame.get]
 refine r_op (o_alloc hS fun v11 l11 S hS=>s_no ?_)
 try dsimp only [putF,rd,Frame.get]
 first | refine r_op (o_store hS rfl rfl rfl rfl (by simp) fun S hS=>s_no ?_) | refine r_op (o_store hS rfl rfl rfl rfl (by assumption) fun S hS=>s_no ?_)
 try dsimp only [putF,rd,Frame.get]
 try dsimp only [putF,rd,Frame.get,setCells,over] at hS
 refine r_nil (c_keep ?_)
 try dsimp only [List.map]
 try dsimp only [putF,rd,Frame.get]
 repeat (with_reducible first | refine c_seq ?_ | refine on_n ?_ | refine c_skip ?_ | refine c_block ?_ | refine on_r ?_ | refine c_ret ?_ | refine c_exit ?_ | refine on_e ?_ | refine ob_e ?_ | refine ob_n ?_ | refine ob_r ?_ | refine ob_x rfl ?_)
 refine c_opsD0 hS fun S hS=>?_
 refine d_zero ?_
 refine r_op (o_mov (s_no ?_))
 try dsimp only [putF,rd,Frame.get]
 first | refine r_op (o_faddr rfl (s_no ?_)) | refine r_op (o_faddrR rfl (s_no ?_))
 try dsimp only [putF,rd,Frame.get]
 try simp only [Nat.zero_mul,Nat.mul_zero,Nat.mul_one,Nat.add_zero,Nat.zero_add,Nat.sub_zero,Nat.reduceAdd,Nat.reduceMul]
 first | refine r_op (o_load hS rfl rfl rfl rfl (s_no ?_)) | refine r_op (o_load hS rfl rfl (by assumption) rfl (s_no ?_)) | refine r_op (o_loadR rfl rfl rfl (s_no ?_)) | refine r_op (o_loadR rfl (by assumption) rfl (s_no ?_))
 try dsimp only [putF,rd,Frame.get]
 refine r_op (o_mov (s_no ?_))
 try dsimp only [putF,rd,Frame.get]
 first | refine r_op (o_faddr rfl (s_no ?_)) | refine r_op (o_faddrR rfl (s_no ?_))
 try dsimp only [putF,rd,Frame.get]
 try simp only [Nat.zero_mul,Nat.mul_zero,Nat.mul_one,Nat.add_zero,Nat.zero_add,Nat.sub_zero,Nat.reduceAdd,Nat.reduceMul]
 first | refine r_op (o_load hS rfl rfl rfl rfl (s_no ?_)) | refine r_op (o_load hS rfl rfl (by assumption) rfl (s_no ?_)) | refine r_op (o_loadR rfl rfl rfl (s_no ?_)) | refine r_op (o_loadR rfl (by assumption) rfl (s_no ?_))
 try dsimp only [putF,rd,Frame.get]
 first | refine r_op (o_faddr rfl (s_no ?_)) | refine r_op (o_faddrR rfl (s_no ?_))
 try dsimp only [putF,rd,Frame.get]
 try simp only [Nat.zero_mul,Nat.mul_zero,Nat.mul_one,Nat.add_zero,Nat.zero_add,Nat.sub_zero,Nat.reduceAdd,Nat.reduceMul]
 first | refine r_op (o_load hS rfl rfl rfl rfl (s_no ?_)) | refine r_op (o_load hS rfl rfl (by assumption) rfl (s_no ?_)) | refine r_op (o_loadR rfl rfl rfl (s_no ?_)) | refine r_op (o_loadR rfl (by assumption) rfl (s_no ?_))
 try dsimp only [putF,rd,Frame.get]
 first | refine r_op (o_faddr rfl (s_no ?_)) | refine r_op (o_faddrR rfl (s_no ?_))
 try dsimp only [putF,rd,Frame.get]
 try simp only [Nat.zero_mul,Nat.mul_zero,Nat.mul_one,Nat.add_zero,Nat.zero_add,Nat.sub_zero,Nat.reduceAdd,Nat.reduceMul]
 first | refine r_op (o_load hS rfl rfl rfl rfl (s_no ?_)) | refine r_op (o_load hS rfl rfl (by assumption) rfl (s_no ?_)) | refine r_op (o_loadR rfl rfl rfl (s_no ?_)) | refine r_op (o_loadR rfl (by assumption) rfl (s_no ?_))
 try dsimp only [putF,rd,Frame.get]
 first | refine r_op (o_iaddr hS rfl rfl rfl (by omega) (s_no ?_)) | refine r_op (o_iaddr0 hS rfl rfl rfl (by omega) (s_no ?_)) | refine r_op (o_iaddrR rfl rfl (by omega) (by assumption) (s_no ?_)) | refine r_op (o_iaddrA rfl rfl (by omega) (s_no ?_)) | refine r_op (o_iaddrAR rfl rfl (by omega) (s_no ?_))
 try dsimp only [putF,rd,Frame.get]
 try simp only [Nat.zero_mul,Nat.mul_zero,Nat.mul_one,Nat.add_zero,Nat.zero_add,Nat.sub_zero,Nat.reduceAdd,Nat.reduceMul]
 refine r_op ?_
 refine o_store hS rfl rfl rfl rfl hb1 fun S hS=>?_
 refine s_no ?_
 try dsimp only [putF,rd,Frame.get]
 first | refine r_op (o_again hS rfl rfl rfl rfl rfl (s_no ?_)) | refine r_op (o_again hS rfl rfl (by assumption) rfl rfl (s_no ?_)) | refine r_op (o_againR rfl rfl rfl rfl (s_no ?_)) | refine r_op (o_againR rfl (by assumption) rfl rfl (s_no ?_))
 try dsimp only [putF,rd,Frame.get]
 first | refine r_op (o_again hS rfl rfl rfl rfl rfl (s_no ?_)) | refine r_op (o_again hS rfl rfl (by assumption) rfl rfl (s_no ?_)) | refine r_op (o_againR rfl rfl rfl rfl (s_no ?_)) | refine r_op (o_againR rfl (by assumption) rfl rfl (s_no ?_))
 try dsimp only [putF,rd,Frame.get]
 first | refine r_op (o_iaddr hS rfl rfl rfl (by omega) (s_no ?_)) | refine r_op (o_iaddr0 hS rfl rfl rfl (by omega) (s_no ?_)) | refine r_op (o_iaddrR rfl rfl (by omega) (by assumption) (s_no ?_)) | refine r_op (o_iaddrA rfl rfl (by omega) (s_no ?_)) | refine r_op (o_iaddrAR rfl rfl (by omega) (s_no ?_))
 try dsimp only [putF,rd,Frame.get]
 try simp only [Nat.zero_mul,Nat.mul_zero,Nat.mul_one,Nat.add_zero,Nat.zero_add,Nat.sub_zero,Nat.reduceAdd,Nat.reduceMul]
 first | refine r_op (o_store hS rfl rfl rfl rfl (by simp) fun S hS=>s_no ?_) | refine r_op (o_store hS rfl rfl rfl rfl (by assumption) fun S hS=>s_no ?_)
 try dsimp only [putF,rd,Frame.get]
 try dsimp only [putF,rd,Frame.get,setCells,over] at hS
 refine r_nil (c_keep ?_)
 try dsimp only [List.map]
 try dsimp only [putF,rd,Frame.get]
 rw [show [AVal.int .i64 m.1.1,.int .i64 m.1.2.1,.int .i64 m.1.2.2,.int .i64 m.2.1,.int .i64 m.2.2]=encM m from rfl,set_msr _ _ _ (by omega),set_cells _ _ _ (by omega)] at hS
 exact h (pt l11 (.row v11 0 [.int .i64 i,.int .i64 m.1.1,.int .i64 m.1.2.1,.int .i64 m.1.2.2,.int .i64 m.2.1,.int .i64 m.2.2,.int .i64 0])+X) _ (hS.eq (by ac_rfl))
theorem vcD {n l1 v1 l2 v2:Nat} {outs codes:List AVal} {S:Store} {X:HM} {Q:SExit→Go.Vc.Frame→Store→Prop} (hn:n≤40) (hc:codes.length=n) (hcd: ∀i,i<n→codes[i]?=some (.int .i64 0))
  (hS:Has S (pt l1 (.row v1 5 outs)+(pt l2 (.row v2 1 codes)+X)))
  (hok: ∀S',Has S' (pt l1 (.row v1 5 outs)+(pt l2 (.row v2 1 codes)+X))→Q .ret [(4,.sl l1 v1 0 n),(5,.int .i64 0)] S'):
  vc Try.prog sD Q [(9,.sl l1 v1 0 n),(10,.sl l2 v2 0 n)] S:=by
 unfold sD
 repeat (with_reducible first | refine c_seq ?_ | refine on_n ?_ | refine c_skip ?_ | refine c_block ?_ | refine on_r ?_ | refine c_ret ?_ | refine c_exit ?_ | refine on_e ?_ | refine ob_e ?_ | refine ob_n ?_ | refine ob_r ?_ | refine ob_x rfl ?_)
 refine c_ops ?_
 refine r_op (o_mov (s_no ?_))
 try dsimp only [putF,rd,Frame.get]
 refine r_op (o_len rfl (s_no ?_))
 try dsimp only [putF,rd,Frame.get]
 refine r_op (o_mov (s_no ?_))
 try dsimp only [putF,rd,Frame.get]
 refine r_nil (c_keep ?_)
 try dsimp only [List.map]
 try dsimp only [putF,rd,Frame.get]
 repeat (with_reducible first | refine c_seq ?_ | refine on_n ?_ | refine c_skip ?_ | refine c_block ?_ | refine on_r ?_ | refine c_ret ?_ | refine c_exit ?_ | refine on_e ?_ | refine ob_e ?_ | refine ob_n ?_ | refine ob_r ?_ | refine ob_x rfl ?_)
 refine c_loop (fun k xs S=> ∃j:Nat,xs=[.int .i64 (j:Int)]∧j≤n∧k=n-j∧Has S (pt l1 (.row v1 5 outs)+(pt l2 (.row v2 1 codes)+X))) n ⟨0,rfl,Nat.zero_le _,rfl,hS⟩ ?_
 rintro k xs S-⟨j,rfl,hj,rfl,hS⟩
 dsimp only [zipF,List.map,Frame.get,Nat.beq]
 repeat (with_reducible first | refine c_seq ?_ | refine on_n ?_ | refine c_skip ?_ | refine c_block ?_ | refine on_r ?_ | refine c_ret ?_ | refine c_exit ?_ | refine on_e ?_ | refine ob_e ?_ | refine ob_n ?_ | refine ob_r ?_ | refine ob_x rfl ?_)
 refine c_ops ?_
 refine r_op (o_bin rfl (by first | trivial | (unfold inI64;omega)) (s_no ?_))
 try dsimp only [putF,rd,Frame.get]
 refine r_nil (c_keep ?_)
 try dsimp only [List.map]
 try dsimp only [putF,rd,Frame.get]
 repeat (with_reducible first | refine c_seq ?_ | refine on_n ?_ | refine c_skip ?_ | refine c_block ?_ | refine on_r ?_ | refine c_ret ?_ | refine c_exit ?_ | refine on_e ?_ | refine ob_e ?_ | refine ob_n ?_ | refine ob_r ?_ | refine ob_x rfl ?_)
 refine c_dec rfl (fun hlt=>?_) (fun hge=>?_)
 ·have ht:=take_one (hcd j (by omega))
  repeat (with_reducible first | refine c_seq ?_ | refine on_n ?_ | refine c_skip ?_ | refine c_block ?_ | refine on_r ?_ | refine c_ret ?_ | refine c_exit ?_ | refine on_e ?_ | refine ob_e ?_ | refine ob_n ?_ | refine ob_r ?_ | refine ob_x rfl ?_)
  refine c_ops ?_
  first | refine r_op (o_iaddr hS rfl rfl rfl (by omega) (s_no ?_)) | refine r_op (o_iaddr0 hS rfl rfl rfl (by omega) (s_no ?_)) | refine r_op (o_iaddrR rfl rfl (by omega) (by assumption) (s_no ?_)) | refine r_op (o_iaddrA rfl rfl (by omega) (s_no ?_)) | refine r_op (o_iaddrAR rfl rfl (by omega) (s_no ?_))
  try dsimp only [putF,rd,Frame.get]
  try simp only [Nat.zero_mul,Nat.mul_zero,Nat.mul_one,Nat.add_zero,Nat.zero_add,Nat.sub_zero,Nat.reduceAdd,Nat.reduceMul]
  first | refine r_op (o_load hS rfl rfl rfl rfl (s_no ?_)) | refine r_op (o_load hS rfl rfl (by assumption) rfl (s_no ?_)) | refine r_op (o_loadR rfl rfl rfl (s_no ?_)) | refine r_op (o_loadR rfl (by assumption) rfl (s_no ?_))
  try dsimp only [putF,rd,Frame.get]
  refine r_op (o_mov (s_no ?_))
  try dsimp only [putF,rd,Frame.get]
  refine r_nil (c_keep ?_)
  try dsimp only [List.map]
  try dsimp only [putF,rd,Frame.get]
  repeat (with_reducible first | refine c_seq ?_ | refine on_n ?_ | refine c_skip ?_ | refine c_block ?_ | refine on_r ?_ | refine c_ret ?_ | refine c_exit ?_ | refine on_e ?_ | refine ob_e ?_ | refine ob_n ?_ | refine ob_r ?_ | refine ob_x rfl ?_)
  refine c_ops ?_
  refine r_op (o_mov (s_no ?_))
  try dsimp only [putF,rd,Frame.get]
  refine r_op (o_bin rfl (by first | trivial | (unfold inI64;omega)) (s_no ?_))
  try dsimp only [putF,rd,Frame.get]
  refine r_nil (c_keep ?_)
  try dsimp only [List.map]
  try dsimp only [putF,rd,Frame.get]
  repeat (with_reducible first | refine c_seq ?_ | refine on_n ?_ | refine c_skip ?_ | refine c_block ?_ | refine on_r ?_ | refine c_ret ?_ | refine c_exit ?_ | refine on_e ?_ | refine ob_e ?_ | refine ob_n ?_ | refine ob_r ?_ | refine ob_x rfl ?_)
  refine c_ndec rfl (fun he=>absurd rfl he) (fun he=>?_)
  repeat (with_reducible first | refine c_seq ?_ | refine on_n ?_ | refine c_skip ?_ | refine c_block ?_ | refine on_r ?_ | refine c_ret ?_ | refine c_exit ?_ | refine on_e ?_ | refine ob_e ?_ | refine ob_n ?_ | refine ob_r ?_ | refine ob_x rfl ?_)
  refine c_ops ?_
  refine r_op (o_bin rfl (by first | trivial | (unfold inI64;omega)) (s_no ?_))
  try dsimp only [putF,rd,Frame.get]
  refine r_op (o_mov (s_no ?_))
  try dsimp only [putF,rd,Frame.get]
  refine r_nil (c_keep ?_)
  try dsimp only [List.map]
  try dsimp only [putF,rd,Frame.get]
  repeat (with_reducible first | refine c_seq ?_ | refine on_n ?_ | refine c_skip ?_ | refine c_block ?_ | refine on_r ?_ | refine c_ret ?_ | refine c_exit ?_ | refine on_e ?_ | refine ob_e ?_ | refine ob_n ?_ | refine ob_r ?_ | refine ob_x rfl ?_)
  exact ⟨n-(j+1),by omega,j+1,rfl,by omega,rfl,hS⟩
 ·repeat (with_reducible first | refine c_seq ?_ | refine on_n ?_ | refine c_skip ?_ | refine c_block ?_ | refine on_r ?_ | refine c_ret ?_ | refine c_exit ?_ | refine on_e ?_ | refine ob_e ?_ | refine ob_n ?_ | refine ob_r ?_ | refine ob_x rfl ?_)
  refine c_ops ?_
  refine r_op (o_mov (s_no ?_))
  try dsimp only [putF,rd,Frame.get]
  refine r_op (o_mov (s_no ?_))
  try dsimp only [putF,rd,Frame.get]
  refine r_op (o_mov (s_no ?_))
  try dsimp only [putF,rd,Frame.get]
  refine r_nil (c_keep ?_)
  try dsimp only [List.map]
  try dsimp only [putF,rd,Frame.get]
  repeat (with_reducible first | refine c_seq ?_ | refine on_n ?_ | refine c_skip ?_ | refine c_block ?_ | refine on_r ?_ | refine c_ret ?_ | refine c_exit ?_ | refine on_e ?_ | refine ob_e ?_ | refine ob_n ?_ | refine ob_r ?_ | refine ob_x rfl ?_)
  exact hok _ hS
end
end Go.Proofs.Pl
end
section
namespace Go.Vc
section
variable {E E' : Env} {fz fz' : Nat → Prop} {w w' : World}
mutual
theorem Rel.cells (hE: ∀v x,E v=some x→E' v=some x) (hf: ∀b,fz b→fz' b) (hw: ∀b,fz b→ ∀o x,w.cell? ⟨b,o,none⟩=some x→w'.cell? ⟨b,o,none⟩=some x):
  ∀(x:AVal) {v:Value},Rel E fz w x v→Rel E' fz' w' x v
 | .junk,_,_=>by simp [Rel]
 | .tt,_,h=>by simpa [Rel] using h
 | .ff,_,h=>by simpa [Rel] using h
 | .bool _,_,h=>by simpa [Rel] using h
 | .int _ _,_,h=>by simpa [Rel] using h
 | .str _,_,h=>by simpa [Rel] using h
 | .nilp,_,h=>by simpa [Rel] using h
 | .ptr _ _ _,_,h=>by
  simp only [Rel] at*
  obtain ⟨b,base,cap,k,h1,h2⟩:=h
  exact ⟨b,base,cap,k,hE _ _ h1,h2⟩
 | .rop cs,_,h=>by
  simp only [Rel] at*
  obtain ⟨b,off,h1,h2,h3⟩:=h
  exact ⟨b,off,hf _ h1,h2,RelC.cells hE hf hw cs (hw b h1) h3⟩
 | .nils,_,h=>by simpa [Rel] using h
 | .sl _ _ _ _,_,h=>by
  simp only [Rel] at*
  rcases h with h | ⟨b,base,cap,k,c,h1,h2⟩
  ·exact .inl h
  ·exact .inr ⟨b,base,cap,k,c,hE _ _ h1,h2⟩
 | .ros _ cs,_,h=>by
  simp only [Rel] at*
  rcases h with h | ⟨b,off,c,h1,h2,h3,h4⟩
  ·exact .inl h
  ·exact .inr ⟨b,off,c,hf _ h1,h2,h3,RelC.cells hE hf hw cs (hw b h1) h4⟩
 | .agg cs,_,h=>by
  simp only [Rel] at*
  obtain ⟨vs,h1,h2,h3⟩:=h
  exact ⟨vs,h1,RelL.cells hE hf hw cs h2,h3⟩
 | .tup cs,_,h=>by
  simp only [Rel] at*
  obtain ⟨vs,h1,h2⟩:=h
  exact ⟨vs,h1,RelL.cells hE hf hw cs h2⟩
 | .fn _ xs ys,_,h=>by
  simp only [Rel] at*
  obtain ⟨vs,us,h1,h2,h3⟩:=h
  exact ⟨vs,us,h1,RelL.cells hE hf hw xs h2,RelL.cells hE hf hw ys h3⟩
 | .nilf,_,h=>by simpa [Rel] using h
 | .map _ _,_,h=>by
  simp only [Rel] at*
  obtain ⟨b,h1,h2⟩:=h
  exact ⟨b,hE _ _ h1,h2⟩
 | .nilm,_,h=>by simpa [Rel] using h
 | .iface _ x,_,h=>by
  simp only [Rel] at*
  obtain ⟨u,h1,h2⟩:=h
  exact ⟨u,h1,Rel.cells hE hf hw x h2⟩
 | .nili,_,h=>by simpa [Rel] using h
 | .cst _,_,h=>by simpa [Rel] using h
theorem RelL.cells (hE: ∀v x,E v=some x→E' v=some x) (hf: ∀b,fz b→fz' b) (hw: ∀b,fz b→ ∀o x,w.cell? ⟨b,o,none⟩=some x→w'.cell? ⟨b,o,none⟩=some x):
  ∀(xs:List AVal) {vs:List Value},RelL E fz w xs vs→RelL E' fz' w' xs vs
 | [],_,h=>by simpa [RelL] using h
 | x::xs,_,h=>by
  simp only [RelL] at*
  obtain ⟨v,us,h1,h2,h3⟩:=h
  exact ⟨v,us,h1,Rel.cells hE hf hw x h2,RelL.cells hE hf hw xs h3⟩
theorem RelC.cells (hE: ∀v x,E v=some x→E' v=some x) (hf: ∀b,fz b→fz' b) (hw: ∀b,fz b→ ∀o x,w.cell? ⟨b,o,none⟩=some x→w'.cell? ⟨b,o,none⟩=some x) {b:Nat}:
  ∀(xs:List AVal) {off:Nat},(∀o x,w.cell? ⟨b,o,none⟩=some x→w'.cell? ⟨b,o,none⟩=some x)→RelC E fz w b off xs→RelC E' fz' w' b off xs
 | [],_,_,_=>by simp [RelC]
 | x::xs,off,hb,h=>by
  simp only [RelC] at*
  obtain ⟨⟨c,h1,h2,h3⟩,h4⟩:=h
  exact ⟨⟨c,hb _ _ h1,h2,Rel.cells hE hf hw x h3⟩,RelC.cells hE hf hw xs hb h4⟩
end
end
def noE:Env:=fun _=>none
def allF (w:World):Nat→Prop:=fun b=>b<w.heap.size
theorem st_all (w:World):St noE (allF w) [] w:=⟨fun l o h=>by simp at h,fun l l' b h=>by obtain ⟨o,h,_⟩:=h;simp at h,fun b h=>h,0,fun v _=>rfl⟩
mutual
def thaw (S:Store):Nat→AVal→AVal
 | 0,x=>x
 | n+1,.sl l v off len=>match S[l]? with
  | some (.row _ k cs)=>if k=1 then .ros len (thawL S n ((cs.drop off).take len)) else .sl l v off len
  | _=>.sl l v off len
 | n+1,.nils=>.ros 0 []
 | n+1,.ros len cs=>.ros len (thawL S n cs)
 | _,x=>x
def thawL (S:Store):Nat→List AVal→List AVal
 | _,[]=>[]
 | n,x::xs=>thaw S n x::thawL S n xs
end
end Go.Vc
end
section
namespace Go.Vk
open Go.Conc Go.RowKit
section
variable {P : Program} {cx : Cx} {S : Goroutine → World → Prop} {b : Frame} {a : Act} {k : List Item} {cs : List Frame} {ops : Array Oper} {i : Nat} {rest : List Nat} {o : Oper} {v : World}
theorem Vway.chunk {N:Nat} {c:Code} {hint sc:Go.Vc.SCode} (hc:Go.Vc.comp P N c hint=some sc) {Q:Go.Vc.SExit→Go.Vc.Frame→Go.Vc.Store→Prop} {E:Go.Vc.Env} {fz:Nat→Prop} {T:Go.Vc.Store} {F:Go.Vc.Frame}
  (st:Go.Vc.St E fz T v) (hF:Go.Vc.RelF E fz v F a.tmps) (hN:a.tmps.size=N) (hb:b.kind≠ .early) (h:Go.Vc.vc P sc Q F T)
  (hn: ∀e F' T' E' fz' a' v',Q e F' T'→Go.Vc.Ext E fz T v E' fz' T' v'→Go.Vc.St E' fz' T' v'→Go.Vc.RelF E' fz' v' F' a'.tmps→a'.tmps.size=N→a'.defers=a.defers→(∀t,t ∉ Go.Vc.writes sc→a'.tmps[t]?=a.tmps[t]?)→Aft P cx S b k cs (Go.Vc.toExit e) a' v'):
  Vway P cx S (G (b.at a (.code c::k)) cs) v:=by
 refine Go.Vc.code_sound (Go.Vc.draw_sound P N) c hint sc hc st hF hN h b k cs S hb fun e a' v' hl=>?_
 cases e<;>simp only [Go.Vc.Lift] at hl
 ·obtain ⟨F',T',E',fz',q1,q2,q3,q4,q5,q6,q7⟩:=hl
  exact hn .normal F' T' E' fz' a' v' q1 q2 q3 q4 q5 q6 q7
 ·rename_i id
  obtain ⟨F',T',E',fz',q1,q2,q3,q4,q5,q6,q7⟩:=hl
  exact hn (.exit id) F' T' E' fz' a' v' q1 q2 q3 q4 q5 q6 q7
 ·obtain ⟨F',T',E',fz',q1,q2,q3,q4,q5,q6,q7⟩:=hl
  exact hn .ret F' T' E' fz' a' v' q1 q2 q3 q4 q5 q6 q7
theorem Vway.vcop {ro:Bool} {hint so:Go.Vc.SOp} {K:Go.Vc.AVal→Go.Vc.Store→Prop} {E:Go.Vc.Env} {fz:Nat→Prop} {T:Go.Vc.Store} {F:Go.Vc.Frame} (ho:ops[i]?=some o) (hw:Region.wanted o (yielded ops a.tmps)=true) (hk:b.kind≠ .early)
  (hc:Go.Vc.copT P ro hint o.type o.op=so) (st:Go.Vc.St E fz T v) (hF:Go.Vc.RelF E fz v F a.tmps) (h:Go.Vc.vcOp P F T K so)
  (hn: ∀x T' E' fz' y v',K x T'→Go.Vc.Ext E fz T v E' fz' T' v'→Go.Vc.St E' fz' T' v'→Go.Vc.Rel E' fz' v' x y→Vway P cx S (G (b.at (a.put o.dst y) (.inRegion ops rest::k)) cs) v'):
  Vway P cx S (G (b.at a (.inRegion ops (i::rest)::k)) cs) v:=by
 have hfin: ∀v,(b.at a (.inRegion ops (i::rest)::k)).finish v=b.at (a.put o.dst v) (.inRegion ops rest::k):=fun v=>by rw [Frame.finish_at,ho];rfl
 obtain ⟨e1,e2⟩:=Go.Vc.copT_of hc h
 have ht:=Go.Vc.copR_tame st hF e1 h e2
 refine .go rfl fun v₁ h₁=>?_
 obtain ⟨st1,hx1⟩:=st.itf h₁
 have hr:RunsV P ((execOp a.eval o).run P v₁) (Go.Vc.Post K E fz T v₁):=Go.Vc.copR_sound st1 (Go.Vc.RelF.mono st hx1 hF) e1 h
 generalize hg:(execOp a.eval o).run P v₁=r at hr
 cases r with
 | halt x w'=>exact hr.elim
 | ok n w'=>
  cases n<;>simp only [RunsV] at hr<;>first | exact hr.elim | skip
  case value y=>
   obtain ⟨x,T',E',fz',q1,q2,q3,q4⟩:=hr
   exact ⟨_,_,.value ho hw hk ht hg,hn x T' E' fz' y w' q1 (hx1.trans q2) q3 q4⟩
  case skip=>
   obtain ⟨x,T',E',fz',q1,q2,q3,q4⟩:=hr
   exact ⟨_,_,.skip ho hw hk ht hg,hn x T' E' fz' undef w' q1 (hx1.trans q2) q3 q4⟩
  case enter f args=>
   refine ⟨_,_,.enter ho hw hk ht hg,Vway.body hr fun y w'' ⟨y',he,x,T',E',fz',q1,q2,q3,q4⟩=>?_⟩
   cases he
   rw [hfin]
   exact hn x T' E' fz' y w'' q1 (hx1.trans q2) q3 q4
theorem recv_at {main:Bool} {t e c:Nat} {d:ChanDir} {z:Value} {x:Operand} (ho:ops[i]?=some o) (hw:Region.wanted o (yielded ops a.tmps)=true) (hk:b.kind≠ .early) (hop:o.op= .recv t x true) (hx:a.eval x= .chan (some c))
  (hu: ∀w,(underlying t).run P w= .ok (.chan d e) w) (hz: ∀w,(zeroValue e).run P w= .ok z w) (w:World):
  stepG P main (G (b.at a (.inRegion ops (i::rest)::k)) cs) w= .comm (G (b.at a (.inRegion ops (i::rest)::k)) cs) #[rcase c z] true (.recv true) w #[]:=by
 rw [stepG_comm (cases:= #[rcase c z]) (blocking:=true) (shape:= .recv true) (w':=w) ho hw hk (by simp [execOp,hop,hx,hu,hz,rcase])]
 have he:(execOp a.eval o).events P w #[]= #[]:=by
  refine Mute.events ?_ w #[]
  unfold execOp
  simp only [hop]
  refine Mute.bind (fun u=>?_) mute_underlying
  split
  ·exact Mute.bind (fun _=>mute_pure) mute_zeroValue
  ·exact mute_halt
 unfold listed
 rw [he]
 simp [seen]
theorem Vway.callf {f:FuncId} {args:Array Operand} {ats:Array TypeId} {R:Ending→World→Prop} {avs:Array Value} (ho:ops[i]?=some o) (hw:Region.wanted o (yielded ops a.tmps)=true) (hk:b.kind≠ .early)
  (hop:o.op= .call {callee:= .value (.func f),args,argTypes:=ats}) (hargs:args.map a.eval=avs) (h: ∀v₁,Itf v v₁→CallsV P f avs v₁ R) (hn: ∀y v',R (.returned y) v'→Vway P cx S (G (b.at (a.put o.dst y) (.inRegion ops rest::k)) cs) v'):
  Vway P cx S (G (b.at a (.inRegion ops (i::rest)::k)) cs) v:=by
 subst hargs
 have hfin: ∀y,(b.at a (.inRegion ops (i::rest)::k)).finish y=b.at (a.put o.dst y) (.inRegion ops rest::k):=fun y=>by rw [Frame.finish_at,ho];rfl
 obtain ⟨fn,c,hf,hname,hb,_⟩:=h v .refl
 have h1:fn.name≠ "runtime.NumGoroutine" :=by simpa using hname
 have e:execOp a.eval o=callFunc f (args.map a.eval):=by
  simp only [execOp,hop,resolve,Deferred.ofValue,invoke]
  simp [invoke,Act.eval]
  try rfl
 refine .go rfl fun v₁ h₁=>⟨_,v₁,.enter ho hw hk ?_ ?_,Vway.body (h v₁ h₁) fun y v' hy=>?_⟩
 ·rw [e]
  unfold callFunc
  simp only [program,Bind.bind,Sem.bind,Tame,hf,hname,hb,Bool.false_eq_true,if_false]
  exact Tame.pure
 ·rw [e]
  simp [callFunc,hf,h1,hb]
 ·rw [hfin]
  exact hn y v' hy
theorem Vway.leave {fn:Func} {todo:List Item} {c:Frame} {x:Value} (hn:b.kind= .normal) (hd:a.defers=[]) (hf:P.funcs[b.fn]?=some fn) (ht:Tame P (results fn a.tmps)) (hr: ∀w,(results fn a.tmps).run P w= .ok x w)
  (h:Vway P cx S (G (c.finish x) cs) v):Vway P cx S (G {b.at a todo with mode:= .returning} (c::cs)) v:=
 .go rfl fun v₁ h₁=>⟨_,v₁,.leave hn hd hf ht (hr v₁),h.rely h₁⟩
theorem doneE {w w':World} {fn:Func} {todo:List Item} {x:Value} (hn:b.kind= .normal) (hd:a.defers=[]) (hf:P.funcs[b.fn]?=some fn) (hi:P.inits.idxOf? b.fn=none) (hr:(results fn a.tmps).run P w= .ok x w'):
  stepG P true (G {b.at a todo with mode:= .returning} []) w= .ended (.done x) w' (seen P b.fn ((results fn a.tmps).events P w #[])):=by
 simp [G,stepG,unwind,doReturn,Frame.at,hn,hd,hf,hi,hr,seen,GStep.after]
theorem end_at {Fin:Value→Prop} {fn:Func} {todo:List Item} {x:Value} (hn:b.kind= .normal) (hd:a.defers=[]) (hf:P.funcs[b.fn]?=some fn) (hi:P.inits.idxOf? b.fn=none) (hr: ∀w,(results fn a.tmps).run P w= .ok x w) (hx:Fin x):
  EndAt P Fin (G {b.at a todo with mode:= .returning} []) v:=⟨rfl,x,hx,fun {γ w} hv=>by
 obtain ⟨w',q1,q2,q3⟩:=(tame_results (fn:=fn) (tmps:=a.tmps)).real hv (hr v)
 exact ⟨w',_,doneE hn hd hf hi q1,q3 _⟩⟩
def EndsIn (P:Program) (Fin:Value→Prop) (cx:Cx) (S:Goroutine→World→Prop):Prop:=cx.main=true∧ ∀g v,(∀v₁,Itf v v₁→EndAt P Fin g v₁)→Vway P cx S g v
theorem ends_alone {Fin:Value→Prop}:EndsIn P Fin alone (SoloStop P Fin):=⟨rfl,fun g v h=>.stop fun v₁ h₁=>.inl fun v₂ h₂=>h v₂ (h₁.trans h₂)⟩
theorem eval_put {t:Nat} {x:Value} (h:t<a.tmps.size):(a.put (some t) x).eval (.tmp t)=x:=by
 simp [Act.eval,Act.put,h]
end
end Go.Vk
namespace Go.Vc
theorem relF_nil {E:Env} {fz:Nat→Prop} {w:World} {tmps:Array Value}:RelF E fz w [] tmps:=fun t=>by simp [Frame.get,Rel]
theorem relF_cons {E:Env} {fz:Nat→Prop} {w:World} {tmps:Array Value} {F:Frame} {k:Nat} {x:AVal} (h:Rel E fz w x (tmps.getD k undef)) (hF:RelF E fz w F tmps):RelF E fz w ((k,x)::F) tmps:=fun t=>by
 simp only [Frame.get]
 cases hb:Nat.beq k t with
 | true=>rw [←Nat.eq_of_beq_eq_true hb];exact h
 | false=>exact hF t
theorem St.pick2 {E:Env} {fz:Nat→Prop} {S:Store} {v:World} {l1 l2:Nat} {o1 o2:Ob} (st:St E fz S v) (h1:S[l1]?=some o1) (h2:S[l2]?=some o2) (hne:l1≠l2):St E fz [o1,o2] v:=by
 have back: ∀ {l b},OwnAt E [o1,o2] l b→(l=0∧OwnAt E S l1 b)∨(l=1∧OwnAt E S l2 b):=fun {l b} ⟨o,q1,q2⟩=>by
  match l,q1 with
  | 0,q1=>cases q1;exact .inl ⟨rfl,o1,h1,q2⟩
  | 1,q1=>cases q1;exact .inr ⟨rfl,o2,h2,q2⟩
  | l+2,q1=>simp at q1
 refine ⟨fun l o q1=>?_,fun l l' b q1 q2=>?_,st.fzlt,st.fresh⟩
 ·match l,q1 with
  | 0,q1=>cases q1;exact st.ok l1 _ h1
  | 1,q1=>cases q1;exact st.ok l2 _ h2
  | l+2,q1=>simp at q1
 ·rcases back q1 with ⟨rfl,p1⟩ | ⟨rfl,p1⟩<;>rcases back q2 with ⟨rfl,p2⟩ | ⟨rfl,p2⟩
  ·rfl
  ·exact (hne (st.sep _ _ _ p1 p2)).elim
  ·exact (hne (st.sep _ _ _ p1 p2).symm).elim
  ·rfl
def rosI (l:List Int):AVal:= .ros l.length (l.map (AVal.int .i64))
def IntsAt (v:World) (l:List Int) (x:Value):Prop:=(l=[]∧ ∃a c,x= .slice a 0 c)∨ ∃b off c,l.length≤c∧x= .slice (some ⟨b,off,none⟩) l.length c∧ ∀(i:Nat) n,l[i]?=some n→v.cell? ⟨b,off+i,none⟩=some (.int .i64 n)
def RowsAt (v:World) (ls:List (List Int)) (x:Value):Prop:=(ls=[]∧ ∃a c,x= .slice a 0 c)∨ ∃b off c,ls.length≤c∧x= .slice (some ⟨b,off,none⟩) ls.length c∧ ∀(i:Nat) l,ls[i]?=some l→ ∃y,v.cell? ⟨b,off+i,none⟩=some y∧IntsAt v l y
section
variable {v v' : World} {l : List Int} {x : Value} {E : Env} {fz : Nat → Prop}
theorem IntsAt.cells (h:IntsAt v l x) (hw: ∀b o y,v.cell? ⟨b,o,none⟩=some y→v'.cell? ⟨b,o,none⟩=some y):IntsAt v' l x:=by
 rcases h with h | ⟨b,off,c,h1,h2,h3⟩
 ·exact .inl h
 ·exact .inr ⟨b,off,c,h1,h2,fun i n hi=>hw _ _ _ (h3 i n hi)⟩
theorem RowsAt.cells {ls:List (List Int)} (h:RowsAt v ls x) (hw: ∀b o y,v.cell? ⟨b,o,none⟩=some y→v'.cell? ⟨b,o,none⟩=some y):RowsAt v' ls x:=by
 rcases h with h | ⟨b,off,c,h1,h2,h3⟩
 ·exact .inl h
 ·exact .inr ⟨b,off,c,h1,h2,fun i n hi=>by obtain ⟨y,q1,q2⟩:=h3 i n hi;exact ⟨y,hw _ _ _ q1,q2.cells hw⟩⟩
theorem IntsAt.slice (h:IntsAt v l x): ∃a k c,x= .slice a k c:=by
 rcases h with ⟨_,a,c,h⟩ | ⟨b,off,c,_,h,_⟩
 ·exact ⟨a,0,c,h⟩
 ·exact ⟨_,_,c,h⟩
theorem IntsAt.one (h:IntsAt v l x):x.oneCell'=true:=by
 obtain ⟨a,k,c,rfl⟩:=h.slice;rfl
theorem IntsAt.rel (h:IntsAt v l x) (hf: ∀b o y,v.cell? ⟨b,o,none⟩=some y→fz b):Rel E fz v (rosI l) x:=by
 simp only [rosI,Rel]
 rcases h with ⟨rfl,a,c,rfl⟩ | ⟨b,off,c,h1,h2,h3⟩
 ·exact .inl ⟨rfl,a,c,rfl⟩
 ·cases l with
  | nil=>exact .inl ⟨rfl,_,c,h2⟩
  | cons n l=>
   refine .inr ⟨b,off,c,hf b (off+0) _ (h3 0 n rfl),h1,h2,RelC.mk fun i y hy=>?_⟩
   rw [List.getElem?_map] at hy
   obtain ⟨m,hm,rfl⟩:=Option.map_eq_some_iff.1 hy
   exact ⟨_,h3 i m hm,rfl,by simp [Rel]⟩
theorem IntsAt.of_rel (h:Rel E fz v (rosI l) x):IntsAt v l x:=by
 simp only [rosI,Rel] at h
 rcases h with ⟨h0,a,c,rfl⟩ | ⟨b,off,c,h1,h2,h3,h4⟩
 ·exact .inl ⟨List.length_eq_zero_iff.1 h0,a,c,rfl⟩
 ·refine .inr ⟨b,off,c,h2,h3,fun i n hi=>?_⟩
  obtain ⟨y,q1,q2,q3⟩:=RelC.get h4 (i:=i) (x:= .int .i64 n) (by rw [List.getElem?_map,hi];rfl)
  simp only [Rel] at q3
  rw [q1,q3]
def rosR (ls:List (List Int)):AVal:= .ros ls.length (ls.map rosI)
theorem RowsAt.rel {ls:List (List Int)} (h:RowsAt v ls x) (hf: ∀b o y,v.cell? ⟨b,o,none⟩=some y→fz b):Rel E fz v (rosR ls) x:=by
 simp only [rosR,Rel]
 rcases h with ⟨rfl,a,c,rfl⟩ | ⟨b,off,c,h1,h2,h3⟩
 ·exact .inl ⟨rfl,a,c,rfl⟩
 ·cases ls with
  | nil=>exact .inl ⟨rfl,_,c,h2⟩
  | cons n ls=>
   obtain ⟨y,q1,q2⟩:=h3 0 n rfl
   refine .inr ⟨b,off,c,hf b (off+0) _ q1,h1,h2,RelC.mk fun i y hy=>?_⟩
   rw [List.getElem?_map] at hy
   obtain ⟨m,hm,rfl⟩:=Option.map_eq_some_iff.1 hy
   obtain ⟨y,q1,q2⟩:=h3 i m hm
   exact ⟨y,q1,q2.one,q2.rel hf⟩
theorem RowsAt.own {T:Store} {j u:Nat} {ls:List (List Int)} (st:St E fz T v) (ho:T[j]?=some (.row u 1 (ls.map rosI))) (h:Rel E fz v (.sl j u 0 ls.length) x):RowsAt v ls x:=by
 simp only [Rel] at h
 rcases h with ⟨h0,a,rfl⟩ | ⟨b,base,cap,k,c,h1,h2,h3,rfl⟩
 ·exact .inl ⟨List.length_eq_zero_iff.1 h0,a,0,rfl⟩
 ·rcases st.ok j _ ho with ⟨q1,q2⟩ | ⟨b',base',cap',arr,t,lo,hi,q1,q2,q3,q4,q5,q6,q7⟩
  ·rw [h1] at q1;cases q1
  ·rw [h1] at q1;cases q1
   refine .inr ⟨b,base+0,c,h2,rfl,fun i l hi=>?_⟩
   obtain ⟨y,g1,g2,g3⟩:=RelC.get q6 (i:=i) (x:=rosI l) (by rw [List.getElem?_map,hi];rfl)
   exact ⟨y,g1,.of_rel g3⟩
end
def restF (E:Env) (S:Store) (v:World) (b:Nat):Prop:=b<v.heap.size∧ ¬Own E S b
theorem St.turn {E:Env} {fz:Nat→Prop} {S:Store} {v v':World} (st:St E fz S v) (hrow: ∀(l:Nat) o,S[l]?=some o→ ∃x k cs,o= .row x k cs) (hown: ∀b,Own E S b→v'.heap[b]?=v.heap[b]?)
  (hc: ∀b o y,v.cell? ⟨b,o,none⟩=some y→v'.cell? ⟨b,o,none⟩=some y) (hs:v.heap.size≤v'.heap.size):St E (restF E S v') S v'∧ ∀x y,Rel E fz v x y→Rel E (restF E S v') v' x y:=by
 have hf: ∀b,fz b→restF E S v' b:=fun b hb=>⟨Nat.lt_of_lt_of_le (st.fzlt b hb) hs,fun ⟨l,hl⟩=>(st.own_lt hl).2 hb⟩
 have hw: ∀b,fz b→ ∀o x,v.cell? ⟨b,o,none⟩=some x→v'.cell? ⟨b,o,none⟩=some x:=fun b _ o x h=>hc b o x h
 refine ⟨⟨fun l o ho=>?_,st.sep,fun b hb=>hb.1,st.fresh⟩,fun x y h=>Rel.cells (fun _ _ h=>h) hf hw x h⟩
 obtain ⟨u,k,ws,rfl⟩:=hrow l o ho
 rcases st.ok l _ ho with q | ⟨b,base,cap,arr,t,lo,hi,q1,q2,q3,q4,q5,q6,q7⟩
 ·exact .inl q
 ·have hO:Own E S b:=⟨l,_,ho,by simp [obBlock,q1]⟩
  exact .inr ⟨b,base,cap,arr,t,lo,hi,q1,(hown b hO).trans q2,q3,q4,q5,RelC.cells (fun _ _ h=>h) hf hw ws (fun o x h=>hc b o x h) q6,fun h=>h.2 hO⟩
theorem St.own_free {E:Env} {fz:Nat→Prop} {S:Store} {v:World} {l b u k:Nat} {ws:List AVal} (st:St E fz S v) (ho:S[l]?=some (.row u k ws)) (hne:ws≠[]) (hb:obBlock E (.row u k ws)=some b): ¬Go.Vk.Free v b∧v.heap[b]?≠some Go.Vk.poison:=by
 rcases st.ok l _ ho with ⟨q1,q2⟩ | ⟨b',base,cap,arr,t,lo,hi,q1,q2,q3,q4,q5,q6,q7⟩
 ·exact (hne q2).elim
 ·simp only [obBlock,q1,Option.some.injEq] at hb
  subst hb
  have hpos:0<ws.length:=List.length_pos_iff.2 hne
  have hp:v.heap[b']?≠some Go.Vk.poison:=fun e=>by
   rw [q2] at e
   simp only [Go.Vk.poison,Option.some.injEq,Obj.cells.injEq] at e
   have:=e.1;rw [this] at q3;simp at q3;omega
  refine ⟨fun h=>h.elim hp ?_,hp⟩
  rintro ⟨c,e,h⟩
  rw [q2] at h
  simp only [Option.some.injEq,Obj.cells.injEq,Prod.mk.injEq] at h
  obtain ⟨rfl,_,rfl,rfl⟩:=h
  omega
theorem RowsAt.of_rel {E:Env} {fz:Nat→Prop} {v:World} {ls:List (List Int)} {x:Value} (h:Rel E fz v (rosR ls) x):RowsAt v ls x:=by
 simp only [rosR,Rel] at h
 rcases h with ⟨h0,a,c,rfl⟩ | ⟨b,off,c,h1,h2,h3,h4⟩
 ·exact .inl ⟨List.length_eq_zero_iff.1 h0,a,c,rfl⟩
 ·refine .inr ⟨b,off,c,h2,h3,fun i n hi=>?_⟩
  obtain ⟨y,q1,q2,q3⟩:=RelC.get h4 (i:=i) (x:=rosI n) (by rw [List.getElem?_map,hi];rfl)
  exact ⟨y,q1,.of_rel q3⟩
theorem cell_lt {v:World} {b o:Nat} {y:Value} (h:v.cell? ⟨b,o,none⟩=some y):b<v.heap.size:=by
 unfold World.cell? at h
 cases hg:v.heap[b]? with
 | none=>simp only [hg] at h;cases h
 | some o=>exact Go.Vk.lt_of_get hg
theorem calls_of {P:Program} {f:FuncId} {args:List AVal} {vals:List Value} {r0:AVal} {v:World} (h:ACalls P f args [] fun r _=>r=r0) (hr:RelL noE (allF v) v args vals):
  Go.Vk.CallsV P f vals.toArray v fun e v'=> ∃E fz y,e= .returned y∧Rel E fz v' r0 y∧(∀b o z,v.cell? ⟨b,o,none⟩=some z→v'.cell? ⟨b,o,none⟩=some z)∧v.heap.size≤v'.heap.size:=
 (h.out noE (allF v) v vals (st_all v) hr).2.mono fun e v' ⟨r,T,y,E',fz',e1,e2,e3,e4,e5⟩=>⟨E',fz',y,e1,e5▸e4,fun b o z hz=>by rw [cell_of_heap ((st_all v).fz_keep e2 b (cell_lt hz))];exact hz,e2.size⟩
theorem calls_from {P:Program} {f:FuncId} {args:List AVal} {vals:List Value} {r0:AVal} {v v₁:World} (hi:Go.Vk.Itf v v₁) (h:ACalls P f args [] fun r _=>r=r0) (hr:RelL noE (allF v₁) v₁ args vals):
  Go.Vk.CallsV P f vals.toArray v₁ fun e v'=> ∃E fz y,e= .returned y∧Rel E fz v' r0 y∧(∀b o z,v.cell? ⟨b,o,none⟩=some z→v'.cell? ⟨b,o,none⟩=some z)∧v.heap.size≤v'.heap.size:=
 (calls_of h hr).mono fun e v' ⟨E,fz,y,h1,h2,h3,h4⟩=>⟨E,fz,y,h1,h2,fun b o z q=>h3 b o z (by
  have hb:=cell_lt q
  rw [cell_of_heap (hi.get hb)];exact q),Nat.le_trans hi.size h4⟩
theorem Rel.view {v v':World} {x:AVal} {y:Value} (h:Rel noE (allF v) v x y) (hs:v.heap.size≤v'.heap.size) (hc: ∀b o z,v.cell? ⟨b,o,none⟩=some z→v'.cell? ⟨b,o,none⟩=some z):Rel noE (allF v') v' x y:=
 Rel.cells (fun _ _ h=>h) (fun b hb=>Nat.lt_of_lt_of_le hb hs) (fun b _ o z q=>hc b o z q) x h
end Go.Vc
namespace Go.Vk
open Go.Conc Go.RowKit
theorem Vway.callr {P:Program} {cx:Cx} {S:Goroutine→World→Prop} {b:Frame} {a:Act} {k:List Item} {cs:List Frame} {ops:Array Oper} {i:Nat} {rest:List Nat} {o:Oper} {v:World} {f:FuncId} {args:Array Operand} {ats:Array TypeId} {xs:List Go.Vc.AVal} {vals:List Value} {r0:Go.Vc.AVal}
  (ho:ops[i]?=some o) (hw:Region.wanted o (yielded ops a.tmps)=true) (hk:b.kind≠ .early) (hop:o.op= .call {callee:= .value (.func f),args,argTypes:=ats}) (hargs:args.map a.eval=vals.toArray) (h:Go.Vc.ACalls P f xs [] fun r _=>r=r0)
  (hr: ∀v₁,Itf v v₁→Go.Vc.RelL Go.Vc.noE (Go.Vc.allF v₁) v₁ xs vals)
  (hn: ∀E fz y v',Go.Vc.Rel E fz v' r0 y→(∀b o z,v.cell? ⟨b,o,none⟩=some z→v'.cell? ⟨b,o,none⟩=some z)→v.heap.size≤v'.heap.size→Vway P cx S (G (b.at (a.put o.dst y) (.inRegion ops rest::k)) cs) v'):
  Vway P cx S (G (b.at a (.inRegion ops (i::rest)::k)) cs) v:=
 Vway.callf (R:=fun e v'=> ∃E fz y,e= .returned y∧Go.Vc.Rel E fz v' r0 y∧(∀b o z,v.cell? ⟨b,o,none⟩=some z→v'.cell? ⟨b,o,none⟩=some z)∧v.heap.size≤v'.heap.size) ho hw hk hop hargs (fun v₁ h₁=>Go.Vc.calls_from h₁ h (hr v₁ h₁)) fun y v' ⟨E,fz,y',h1,h2,h3,h4⟩=>by
  cases h1;exact hn E fz y v' h2 h3 h4
end Go.Vk
end
section
namespace Go.Proofs.Pl
open Go.Conc Go.Vk Go.RowKit Go.Conc.Lib Go.ConcR.Gen
noncomputable def crewM (Wg c n:Nat) (Ok:Nat→Value→World→Prop) (Fin:Value→Prop):Mp:=⟨Try.prog,Try.link,Wg,c,n,Ok,Fin⟩
noncomputable def wOps0:OpArr (regOf (cL (bodyOf Try.f41))):=by apply OpArr.mk;dsimp only [Try.f41,bodyOf,cL,cR,regOf]
noncomputable def wOps1:OpArr (regOf (cL (cR (bodyOf Try.f41)))):=by apply OpArr.mk;dsimp only [Try.f41,bodyOf,cL,cR,regOf]
noncomputable def wOps2:OpArr (regOf (cR (cR (bodyOf Try.f41)))):=by apply OpArr.mk;dsimp only [Try.f41,bodyOf,cL,cR,regOf]
noncomputable def wBody:Code:=
 (.seq (.region 0 wOps0.v false) (.seq (.region 1 wOps1.v false) (.region 2 wOps2.v false)))
theorem w_body:Try.f41.body=some wBody:=by rfl
noncomputable def cOps0:OpArr (regOf (cL (bodyOf Try.f42))):=by apply OpArr.mk;dsimp only [Try.f42,bodyOf,cL,cR,regOf]
noncomputable def cOps1:OpArr (regOf (cR (bodyOf Try.f42))):=by apply OpArr.mk;dsimp only [Try.f42,bodyOf,cL,cR,regOf]
noncomputable def cBody:Code:=
 (.seq (.region 0 cOps0.v false) (.region 1 cOps1.v false))
theorem c_body:Try.f42.body=some cBody:=by rfl
section
variable {Wg c n : Nat} {Ok : Nat → Value → World → Prop} {Fin : Value → Prop}
set_option maxRecDepth 100000 in
theorem closer42 {v:World} {cb:Nat} (hc:v.cell? ⟨cb,0,none⟩=some (.chan (some c))):
  Vway Try.prog (crewM Wg c n Ok Fin).cw (crewM Wg c n Ok Fin).C1 (born Try.prog {target:= .fn (.func 42) #[.pointer (some ⟨Wg,0,none⟩),.pointer (some ⟨cb,0,none⟩)],args:= #[]}) v:=by
 have B:=fun S u=> @cw_back (crewM Wg c n Ok Fin) S u
 refine (B _ _).ctl rfl (fun w _=>stepG_born Try.func42 (by kernel_rfl) c_body w) ?_
 simp only [cBody,show Try.f42.ntmps=4 from rfl]
 walk_nrm
 refine (B _ _).seq ?_
 refine (B _ _).region ?_
 simp only [cOps0,id_eq,List.size_toArray,List.length_cons,List.length_nil,Nat.reduceAdd,Nat.zero_add,List.range,List.range.loop]
 refine (B _ _).enter rfl rfl (by simp [baseD]) rfl Try.wgLib.f_wait (nm_wait Try.link) (wait_body Try.link) ?_
 have ea:(#[Operand.tmp 0]:Array Operand).map (Act.eval ⟨#[.pointer (some ⟨Wg,0,none⟩),.pointer (some ⟨cb,0,none⟩),undef,undef],[]⟩)= #[.pointer (some ⟨Wg,0,none⟩)]:=by simp [Act.eval]
 rw [ea]
 refine wait_walk (M:=crewM Wg c n Ok Fin) Try.wgLib ?_
 refine (B _ _).rend ?_
 refine (B _ _).region ?_
 simp only [cOps1,id_eq,List.size_toArray,List.length_cons,List.length_nil,Nat.reduceAdd,Nat.zero_add,List.range,List.range.loop]
 refine Vway.load rfl rfl (by simp [baseD]) rfl Try.isAgg79 rfl hc ?_
 refine .stop fun v₁ _=>⟨rfl,rfl,_,fun w r _ hch=>stepG_close rfl rfl (by simp [baseD]) rfl rfl hch ?_,4,?_⟩
 ·show (Try.prog.funcs[42]?.any (·.norace))=false
  rw [Try.func42];rfl
 ·refine .ctl rfl (fun w=>stepG_region_end) ?_
  refine .ctl rfl (fun w=>stepG_end) ?_
  exact quits_root rfl rfl (show Try.prog.funcs[42]?=some Try.f42 from Try.func42) rfl
def msg (i:Int) (m:Msr):Value:= .agg #[.int .i64 i,.int .i64 m.1.1,.int .i64 m.1.2.1,.int .i64 m.1.2.2,.int .i64 m.2.1,.int .i64 m.2.2,.int .i64 0]
theorem build41 {i:Int} {m:Msr} (a:Act) (o:Oper) (ho:wOps2.v[4]?=some o) (h1:a.eval (.tmp 13)= .int .i64 i) (h2:a.eval (.tmp 14)= .agg #[.int .i64 m.1.1,.int .i64 m.1.2.1,.int .i64 m.1.2.2,.int .i64 m.2.1,.int .i64 m.2.2]) (h3:a.eval (.tmp 15)= .int .i64 0) (w:World):
  (execOp a.eval o).run Try.prog w= .ok (.value (msg i m)) w∧(execOp a.eval o).events Try.prog w #[]= #[]:=by
 simp only [wOps2] at ho
 simp at ho
 subst ho
 have he: ∀d ty po af gu,execOp a.eval {dst:=d,op:=Op.build 82 #[(0,Operand.tmp 13),(1,Operand.tmp 14),(2,Operand.tmp 15)],type:=ty,pos:=po,after:=af,guard:=gu}=(do pure (Next.value (←Instr.build 82 #[(0,.int .i64 i),(1,.agg #[.int .i64 m.1.1,.int .i64 m.1.2.1,.int .i64 m.1.2.2,.int .i64 m.2.1,.int .i64 m.2.2]),(2,.int .i64 0)]))):=fun d ty po af gu=>by
  simp [execOp,h1,h2,h3]
 rw [he]
 constructor
 ·have:=run_build (P:=Try.prog) w 82 #[(0,.int .i64 i),(1,.agg #[.int .i64 m.1.1,.int .i64 m.1.2.1,.int .i64 m.1.2.2,.int .i64 m.2.1,.int .i64 m.2.2]),(2,.int .i64 0)] #[.int .i64 i,.int .i64 m.1.1,.int .i64 m.1.2.1,.int .i64 m.1.2.2,.int .i64 m.2.1,.int .i64 m.2.2,.int .i64 0] (by kernel_rfl)
  simp [this,msg]
 ·exact (Mute.bind (fun _=>mute_pure) mute_build).events w #[]
def sW:Vc.SCode:=
 (.ops [⟨(some 7),.load 1 false (.t 1),none,false,[]⟩,
  ⟨(some 8),.load 1 false (.t 2),none,false,[]⟩,
  ⟨(some 9),.callv (.t 7) [(.t 8)],none,false,[]⟩,
  ⟨(some 6),.mov (.t 9),none,false,[]⟩,
  ⟨(some 10),.extract (.t 6) 0,none,false,[]⟩,
  ⟨(some 11),.extract (.t 6) 1,none,false,[]⟩,
  ⟨(some 4),.alloc 0 [(.int .i64 0),(.int .i64 0),(.int .i64 0),(.int .i64 0),(.int .i64 0)],none,false,[]⟩,
  ⟨none,.store 5 (.t 4) (.t 10),none,false,[]⟩,
  ⟨(some 5),.mov (.t 11),none,false,[]⟩] none [2,3,4,5])
theorem sW_ok:Vc.comp Try.prog 17 (.region 1 wOps1.v false) sW=some sW:=by kernel_rfl
end
section
open Go.Vc
set_option maxRecDepth 100000
theorem vcW {i:Int} {m:Msr} {caps:List AVal} {c:AVal} {Q:SExit→Go.Vc.Frame→Store→Prop} (hA:ACalls Try.prog 22 ([.int .i64 i]++caps) [] fun r _=>r= .tup [.agg (encM m),.int .i64 0])
  (h: ∀l v S',Has S' (pt l (.row v 0 (encM m))+HM.nil)→Q .normal [(2,.rop [.int .i64 i]),(3,c),(4,.ptr l v 0),(5,.int .i64 0)] S'):
  vc Try.prog sW Q [(1,.rop [.fn (.func 22) [] caps]),(2,.rop [.int .i64 i]),(3,c)] []:=by
 unfold sW
 have hS:Has [] HM.nil:=Has.nil
 refine c_ops ?_
 first | refine r_op (o_load hS rfl rfl rfl rfl (s_no ?_)) | refine r_op (o_load hS rfl rfl (by assumption) rfl (s_no ?_)) | refine r_op (o_loadR rfl rfl rfl (s_no ?_)) | refine r_op (o_loadR rfl (by assumption) rfl (s_no ?_))
 try dsimp only [putF,rd,Frame.get]
 first | refine r_op (o_load hS rfl rfl rfl rfl (s_no ?_)) | refine r_op (o_load hS rfl rfl (by assumption) rfl (s_no ?_)) | refine r_op (o_loadR rfl rfl rfl (s_no ?_)) | refine r_op (o_loadR rfl (by assumption) rfl (s_no ?_))
 try dsimp only [putF,rd,Frame.get]
 refine r_op (o_callv rfl ?_)
 dsimp only [List.map,putF,rd,Frame.get]
 refine RC.use hA ?_
 refine s_no ?_
 try dsimp only [putF,rd,Frame.get]
 refine r_op (o_mov (s_no ?_))
 try dsimp only [putF,rd,Frame.get]
 refine r_op (o_extract rfl rfl (s_no ?_))
 try dsimp only [putF,rd,Frame.get]
 refine r_op (o_extract rfl rfl (s_no ?_))
 try dsimp only [putF,rd,Frame.get]
 refine r_op (o_alloc hS fun v4 l4 S hS=>s_no ?_)
 try dsimp only [putF,rd,Frame.get]
 first | refine r_op (o_store hS rfl rfl rfl rfl (by simp) fun S hS=>s_no ?_) | refine r_op (o_store hS rfl rfl rfl rfl (by assumption) fun S hS=>s_no ?_)
 try dsimp only [putF,rd,Frame.get]
 try dsimp only [putF,rd,Frame.get,setCells,over] at hS
 refine r_op (o_mov (s_no ?_))
 try dsimp only [putF,rd,Frame.get]
 refine r_nil (c_keep ?_)
 try dsimp only [List.map]
 try dsimp only [putF,rd,Frame.get]
 exact h _ _ _ hS
theorem arr17 (a:Array Value) (h:a.size=17): ∃y0 y1 y2 y3 y4 y5 y6 y7 y8 y9 y10 y11 y12 y13 y14 y15 y16,a= #[y0,y1,y2,y3,y4,y5,y6,y7,y8,y9,y10,y11,y12,y13,y14,y15,y16]:=by
 refine ⟨a[0],a[1],a[2],a[3],a[4],a[5],a[6],a[7],a[8],a[9],a[10],a[11],a[12],a[13],a[14],a[15],a[16],?_⟩
 apply Array.ext (by simp [h])
 intro i h1 h2
 have:i=0∨i=1∨i=2∨i=3∨i=4∨i=5∨i=6∨i=7∨i=8∨i=9∨i=10∨i=11∨i=12∨i=13∨i=14∨i=15∨i=16:=by omega
 rcases this with rfl | rfl | rfl | rfl | rfl | rfl | rfl | rfl | rfl | rfl | rfl | rfl | rfl | rfl | rfl | rfl | rfl<;>rfl
end
section
variable {Wg c n : Nat} {Ok : Nat → Value → World → Prop} {Fin : Value → Prop}
set_option maxRecDepth 100000 in
set_option maxHeartbeats 4000000 in
theorem worker41 {v:World} {wb ib cb k:Nat} {i:Int} {caps:Array Value} {acaps:List Vc.AVal} {m:Msr} (h1:v.cell? ⟨wb,0,none⟩=some (.func (.func 22) #[] caps)) (h2:v.cell? ⟨ib,0,none⟩=some (.int .i64 i)) (h3:v.cell? ⟨cb,0,none⟩=some (.chan (some c)))
  (hcap:Vc.RelL Vc.noE (Vc.allF v) v acaps caps.toList) (hA:Vc.ACalls Try.prog 22 ([.int .i64 i]++acaps) [] fun r _=>r= .tup [.agg (encM m),.int .i64 0]) (hok: ∀v₂,Ok k (msg i m) v₂):
  Vway Try.prog (crewM Wg c n Ok Fin).cw ((crewM Wg c n Ok Fin).W1 k) (born Try.prog {target:= .fn (.func 41) #[.pointer (some ⟨Wg,0,none⟩),.pointer (some ⟨wb,0,none⟩),.pointer (some ⟨ib,0,none⟩),.pointer (some ⟨cb,0,none⟩)],args:= #[]}) v:=by
 have B:=fun S u=> @cw_back (crewM Wg c n Ok Fin) S u
 refine (B _ _).ctl rfl (fun w _=>stepG_born Try.func41 (by kernel_rfl) w_body w) ?_
 simp only [wBody,show Try.f41.ntmps=17 from rfl]
 walk_nrm
 refine (B _ _).seq ?_
 refine (B _ _).region ?_
 simp only [wOps0,id_eq,List.size_toArray,List.length_cons,List.length_nil,Nat.reduceAdd,Nat.zero_add,List.range,List.range.loop]
 refine (B _ _).defer rfl rfl (by simp [baseD]) rfl ?_
 walk_nrm
 refine (B _ _).rend ?_
 refine (B _ _).seq ?_
 have r1:Vc.Rel Vc.noE (Vc.allF v) v (.rop [.fn (.func 22) [] acaps]) (.pointer (some ⟨wb,0,none⟩)):=by
  simp only [Vc.Rel,Vc.RelC]
  exact ⟨wb,0,Vc.cell_lt h1,rfl,⟨_,h1,rfl,[],caps.toList,rfl,rfl,hcap⟩,trivial⟩
 have r2:Vc.Rel Vc.noE (Vc.allF v) v (.rop [.int .i64 i]) (.pointer (some ⟨ib,0,none⟩)):=by
  simp only [Vc.Rel,Vc.RelC]
  exact ⟨ib,0,Vc.cell_lt h2,rfl,⟨_,h2,rfl,rfl⟩,trivial⟩
 have r3:Vc.Rel Vc.noE (Vc.allF v) v (.rop [.cst (.chan (some c))]) (.pointer (some ⟨cb,0,none⟩)):=by
  simp only [Vc.Rel,Vc.RelC]
  exact ⟨cb,0,Vc.cell_lt h3,rfl,⟨_,h3,rfl,rfl⟩,trivial⟩
 refine Vway.chunk sW_ok (Q:=fun e F' S'=>e= .normal∧ ∃l u,F'=[(2,.rop [.int .i64 i]),(3,.rop [.cst (.chan (some c))]),(4,.ptr l u 0),(5,.int .i64 0)]∧Vc.Has S' (Vc.pt l (.row u 0 (encM m))+Vc.HM.nil))
  (Vc.st_all v) (Vc.relF_cons r1 (Vc.relF_cons r2 (Vc.relF_cons r3 Vc.relF_nil))) rfl (by simp [baseD]) (vcW hA fun l u S' hS=>⟨rfl,l,u,rfl,hS⟩) ?_
 rintro e F' T' E' fz' a' v' ⟨rfl,l,u,rfl,hS⟩ ext st' hrel hsz hdf hkeep
 obtain ⟨tm,df⟩:=a'
 simp only at hsz hdf hrel hkeep
 subst hdf
 obtain ⟨y0,y1,y2,y3,y4,y5,y6,y7,y8,y9,y10,y11,y12,y13,y14,y15,y16,rfl⟩:=arr17 tm hsz
 have k2:=hkeep 2 (by decide)
 have k3:=hkeep 3 (by decide)
 simp at k2 k3
 subst k2;subst k3
 have e4:Vc.Rel E' fz' v' (.ptr l u 0) y4:=hrel 4
 have e5:Vc.Rel E' fz' v' (.int .i64 0) y5:=hrel 5
 simp only [Vc.Rel] at e5
 subst e5
 have g2:v'.cell? ⟨ib,0,none⟩=some (.int .i64 i):=by rw [Vc.cell_of_heap ((Vc.st_all v).fz_keep ext ib (Vc.cell_lt h2))];exact h2
 have g3:v'.cell? ⟨cb,0,none⟩=some (.chan (some c)):=by rw [Vc.cell_of_heap ((Vc.st_all v).fz_keep ext cb (Vc.cell_lt h3))];exact h3
 refine (B _ _).region ?_
 have hbuild:=fun (a:Act) (o:Oper) (ho:wOps2.v[4]?=some o) q1 q2 q3 w=>build41 (i:=i) (m:=m) a o ho q1 q2 q3 w
 have hld: ∃o,wOps2.v[2]?=some o∧Vc.copT Try.prog false .bad o.type o.op= .load 5 true (.t 4)∧o.dst=some 14:=⟨_,rfl,by kernel_rfl,rfl⟩
 obtain ⟨o2,ho2,hco2,hd2⟩:=hld
 simp only [wOps2,id_eq,List.size_toArray,List.length_cons,List.length_nil,Nat.reduceAdd,Nat.zero_add,List.range,List.range.loop] at hbuild ho2 ⊢
 refine Vway.load rfl rfl (by simp [baseD]) rfl Try.isAgg79 rfl g3 ?_
 walk_nrm
 refine Vway.load rfl rfl (by simp [baseD]) rfl Try.isAgg3 rfl g2 ?_
 walk_nrm
 simp at ho2
 subst ho2
 refine Vway.vcop (F:=[(4,.ptr l u 0)]) (K:=fun x _=>x= .agg (encM m)) rfl rfl (by simp [baseD]) hco2 st' (Vc.relF_cons e4 Vc.relF_nil) (Vc.o_load hS rfl rfl rfl rfl rfl) fun x T2 E2 fz2 y v2 hx ext2 st2 hy=>?_
 subst hx
 obtain ⟨vs,rfl,hvs,_⟩: ∃vs:List Value,y= .agg vs.toArray∧Vc.RelL E2 fz2 v2 (encM m) vs∧ ∀c∈vs,c.oneCell'=true:=by simpa only [Vc.Rel] using hy
 simp only [encM,Vc.RelL,Vc.Rel] at hvs
 obtain ⟨z1,us1,rfl,rfl,z2,us2,rfl,rfl,z3,us3,rfl,rfl,z4,us4,rfl,rfl,z5,us5,rfl,rfl,rfl⟩:=hvs
 walk_nrm
 refine (B _ _).value rfl rfl (by simp [baseD]) (fun w hw=>by go_simp<;>rfl) (fun w hw=>by simp [go_sem]) ?_
 walk_nrm
 refine (B _ _).value rfl rfl (by simp [baseD]) (fun w hw=>(hbuild _ _ rfl rfl rfl rfl w).1) (fun w hw=>(hbuild _ _ rfl rfl rfl rfl w).2) ?_
 walk_nrm
 refine .stop fun v₁ hv₁=>⟨rfl,rfl,msg i m,.tuple #[],hok v₁,fun w _=>send_at (b:=baseD 41) (val:=msg i m) (x:= .tmp 12) (y:= .tmp 16) rfl rfl (by simp [baseD]) rfl rfl rfl w,?_⟩
 rw [served_G]
 refine qs_back.rend ?_
 refine qs_back.fin ?_
 exact done_walkD (M:=crewM Wg c n Ok Fin) Try.wgLib rfl Try.func41 rfl
end
end Go.Proofs.Pl
end
section
namespace Go.Vk
open Go.Conc Go.RowKit Go.Conc.Lib Go.ConcR.Gen
open Go.ConcR (KK wgBlock WgAt stA smA rd wr mk)
open Go.ConcN (WgLive)
variable {M : Mp}
theorem cm_back {S:Goroutine→World→Prop} {v:World}:Back M.P true M.I fun g=>Vway M.P M.cm S g v:=Vway.back (cx:=M.cm)
theorem stepG_unwind_mark {P:Program} {main:Bool} {b:Frame} {a:Act} {todo:List Item} {cs:List Frame} {ds:List Deferred} {f:FuncId} {fn:Func} (m:Mark) (hx: ∀g,m≠ .extern g) (hd:a.defers=dcall f #[]::ds)
  (hf:P.funcs[f]?=some fn) (hname:(fn.name == "runtime.NumGoroutine")=false) (hb:fn.body.isNone=true) (hn:Extern.findNext fn=none) (he:Extern.find fn=some (fun _=>do mark m;pure Extern.Race.none_)) (w:World):
  stepG P main (G {b.at a todo with mode:= .returning} cs) w= .go (G {b.at ⟨a.tmps,ds⟩ todo with mode:= .returning} cs) w #[mk m]:=by
 show _=GStep.go _ w #[⟨.mark m,false,true⟩]
 exact stepG_unwind_entry (v:= .tuple #[]) hd hf hname hb hn he (by simp [Extern.Race.none_]) (by simp) (by
  intro x hx'
  simp at hx'
  subst hx'
  exact ⟨rfl,fun g h=>hx g (Loc.mark.inj h)⟩)
theorem add_walk (H:WgLib M.P M.L) {b₀:Frame} {a₀:Act} {ops₀:Array Oper} {i₀:Nat} {rest₀:List Nat} {k₀:List Item} {cs:List Frame} {r:Nat} {v:World}
  (hn:Vway M.P M.cm (M.GoAt (M.W1 (M.n-r)) (M.S r)) (G (b₀.at (a₀.put ((ops₀[i₀]?).bind (·.dst)) (.tuple #[])) (.inRegion ops₀ rest₀::k₀)) cs) v):
  Vway M.P M.cm (M.S (r+1)) (G (Frame.enter M.P M.L.add #[.pointer (some ⟨M.Wg,0,none⟩),.int .i64 1] .normal) (b₀.at a₀ (.inRegion ops₀ (i₀::rest₀)::k₀)::cs)) v:=by
 refine add_up H (main:=true) (J:=M.I) (Wg:=M.Wg) (fun w h=>wg_live h) (Z1:=fun g=>Vway M.P M.cm (M.S (r+1)) g v) (Z2:=fun g=>Vway M.P M.cm (M.Ma (M.S r) (M.n-r)) g v) (Z3:=fun g=>Vway M.P M.cm (M.Mr (M.S r) (M.n-r)) g v) (Z4:=fun g=>Vway M.P M.cm (M.Me (M.S r) (M.n-r)) g v)
  cm_back (fun g h=>.stop fun v₁ h₁=>h.imp fun g q=>q.rely h₁) cm_back (fun g h=>.stop fun v₁ h₁=>h.imp fun x g q=>⟨fun e=>(q.1 e).rely h₁,fun e=>(q.2 e).rely h₁⟩) cm_back (fun g h=>.stop fun v₁ h₁=>h.imp fun g q=>q.rely h₁) cm_back fun tmps todo=>?_
 refine .stop fun v₁ h₁=>⟨rfl,_,fun w _=>stepG_unwind_mark .enable (by simp) rfl H.f_enable (x_enable_n M.L) (x_enable_b M.L) (x_enable_x M.L) (x_enable_f M.L) w,?_⟩
 exact cm_back.leave0 rfl rfl H.f_add rfl (hn.rely h₁)
theorem go_at {P:Program} {main:Bool} {b:Frame} {a:Act} {k:List Item} {cs:List Frame} {ops:Array Oper} {i:Nat} {rest:List Nat} {o:Oper} {x:Operand} {f:FuncId} {cap:Array Value} (ho:ops[i]?=some o) (hw:Region.wanted o (yielded ops a.tmps)=true) (hk:b.kind≠ .early)
  (hop:o.op= .go {callee:= .value x,args:= #[],argTypes:= #[]}) (hx:a.eval x= .func (.func f) #[] cap) (w:World):
  stepG P main (G (b.at a (.inRegion ops (i::rest)::k)) cs) w= .spawn (G (b.at (a.put o.dst undef) (.inRegion ops rest::k)) cs) (born P {target:= .fn (.func f) cap,args:= #[]}) w #[]:=by
 have hr:(execOp a.eval o).run P w= .ok (.spawn {target:= .fn (.func f) cap,args:= #[]}) w:=by
  simp [execOp,hop,resolve,hx,Deferred.ofValue]
 have he:(execOp a.eval o).events P w #[]= #[]:=by
  simp [execOp,hop,resolve,hx,Deferred.ofValue]
 rw [stepG_spawn ho hw hk hr rfl]
 unfold listed
 rw [he,seen_none]
end Go.Vk
end
section
namespace Go.Vk
open Go.Conc Go.RowKit
def Shar (v:World) (b:Nat):Prop:=Boxed v b∨Marked v b
theorem Shar.of_get {v v':World} {b:Nat} (h:Shar v b) (e:v'.heap[b]?=v.heap[b]?):Shar v' b:=by
 rcases h with ⟨c,t,lo,h1,h2⟩ | ⟨c,t,h⟩
 ·exact .inl ⟨c,t,lo,h1,e.trans h2⟩
 ·exact .inr ⟨c,t,e.trans h⟩
theorem Shar.lt {v:World} {b:Nat} (h:Shar v b):b<v.heap.size:=by
 rcases h with ⟨c,t,lo,_,h⟩ | ⟨c,t,h⟩<;>exact lt_of_get h
theorem Shar.itf {v v₁:World} {b:Nat} (h:Shar v b) (hr:Itf v v₁):Shar v₁ b:=h.of_get (hr.get h.lt)
theorem Shar.remark {B:Nat→Prop} {v v':World} {b:Nat} (h:Shar v b) (hr:Remark B v v'):Shar v' b:=by
 by_cases e:B b
 ·obtain ⟨c,t,fr,_,h2⟩:=hr.turn b e
  exact .inr ⟨c,t,h2⟩
 ·exact h.of_get (hr.keep b e)
theorem get_push {v:World} {o:Obj} {b:Nat} (h:b<v.heap.size):({v with heap:=v.heap.push o}:World).heap[b]?=v.heap[b]?:=by
 show (v.heap.push o)[b]?=_
 rw [Array.getElem?_push_lt h,Array.getElem?_eq_getElem h]
theorem Shar.push {v:World} {o:Obj} {b:Nat} (h:Shar v b):Shar {v with heap:=v.heap.push o} b:=h.of_get (get_push h.lt)
theorem setCell_ne {v:World} {a:Addr} {x:Value} {b:Nat} (h:b≠a.block):(v.setCell a x).heap[b]?=v.heap[b]?:=by
 simp only [World.setCell]
 rw [Array.getElem?_modify,if_neg (fun e=>h e.symm)]
theorem Remark.cell {B:Nat→Prop} {v v':World} (h:Remark B v v') {a:Addr} {x:Value} (hc:v.cell? a=some x):v'.cell? a=some x:=by
 by_cases e:B a.block
 ·obtain ⟨c,t,fr,h1,h2⟩:=h.turn _ e
  unfold World.cell? at hc ⊢
  rw [h1] at hc
  rw [h2];exact hc
 ·unfold World.cell? at hc ⊢
  rw [h.keep _ e];exact hc
theorem Unp.cell {v v':World} (h:Unp v v') {a:Addr} {x:Value} (hc:v.cell? a=some x):v'.cell? a=some x:=by
 rcases h.keep a.block with e | e
 ·unfold World.cell? at hc ⊢
  rw [e];exact hc
 ·unfold World.cell? at hc
  rw [e] at hc
  simp [poison] at hc
theorem Hide.cell {b1 b2:Nat} {v v':World} (h:Hide b1 b2 v v') {a:Addr} {x:Value} (h1:a.block≠b1) (h2:a.block≠b2) (hc:v.cell? a=some x):v'.cell? a=some x:=by
 unfold World.cell? at hc ⊢
 rw [h.keep _ h1 h2];exact hc
theorem cell_push {v:World} {o:Obj} {a:Addr} {x:Value} (hc:v.cell? a=some x):({v with heap:=v.heap.push o}:World).cell? a=some x:=by
 have hlt:a.block<v.heap.size:=by
  unfold World.cell? at hc
  cases hg:v.heap[a.block]? with
  | none=>rw [hg] at hc;cases hc
  | some o=>exact lt_of_get hg
 unfold World.cell? at hc ⊢
 rw [get_push hlt];exact hc
theorem cell_setCell {v:World} {a b:Addr} {x y:Value} (hb:b.block≠a.block) (hc:v.cell? b=some x):(v.setCell a y).cell? b=some x:=by
 unfold World.cell? at hc ⊢
 rw [setCell_ne hb];exact hc
theorem Childv.shar {B:Nat→Prop} {v vc:World} (h:Childv B v vc) (hB: ∀b,Boxed v b→Shar v b→B b∨ ¬B b) {b o:Nat} {x:Value} (hs:B b∨Marked v b) (hc:v.cell? ⟨b,o,none⟩=some x):vc.cell? ⟨b,o,none⟩=some x:=h.cell b o x hs hc
section
variable {P : Program} {cx : Cx} {S : Goroutine → World → Prop} {b : Frame} {a : Act} {k : List Item} {cs : List Frame} {ops : Array Oper} {i : Nat} {rest : List Nat} {o : Oper} {v : World}
theorem Vway.value (ho:ops[i]?=some o) (hw:Region.wanted o (yielded ops a.tmps)=true) (hk:b.kind≠ .early) (ht:Tame P (execOp a.eval o))
  (h: ∀v₁,Itf v v₁→ ∃x v',(execOp a.eval o).run P v₁= .ok (.value x) v'∧Vway P cx S (G (b.at (a.put o.dst x) (.inRegion ops rest::k)) cs) v'):Vway P cx S (G (b.at a (.inRegion ops (i::rest)::k)) cs) v:=
 .go rfl fun v₁ h₁=>let ⟨x,v',q1,q2⟩:=h v₁ h₁;⟨_,v',.value ho hw hk ht q1,q2⟩
theorem Vway.skipv (ho:ops[i]?=some o) (hw:Region.wanted o (yielded ops a.tmps)=true) (hk:b.kind≠ .early) (ht:Tame P (execOp a.eval o))
  (h: ∀v₁,Itf v v₁→ ∃v',(execOp a.eval o).run P v₁= .ok .skip v'∧Vway P cx S (G (b.at (a.put o.dst undef) (.inRegion ops rest::k)) cs) v'):Vway P cx S (G (b.at a (.inRegion ops (i::rest)::k)) cs) v:=
 .go rfl fun v₁ h₁=>let ⟨v',q1,q2⟩:=h v₁ h₁;⟨_,v',.skip ho hw hk ht q1,q2⟩
theorem Vway.alloc {t:TypeId} {z:Value} {bt:TypeId} (ho:ops[i]?=some o) (hw:Region.wanted o (yielded ops a.tmps)=true) (hk:b.kind≠ .early) (hop:o.op= .alloc t)
  (hr: ∀v₁,(execOp a.eval o).run P v₁= .ok (.value (.pointer (some ⟨v₁.heap.size,0,none⟩))) {v₁ with heap:=v₁.heap.push (.cells #[z] bt)})
  (h: ∀v₁,Itf v v₁→Vway P cx S (G (b.at (a.put o.dst (.pointer (some ⟨v₁.heap.size,0,none⟩))) (.inRegion ops rest::k)) cs) {v₁ with heap:=v₁.heap.push (.cells #[z] bt)}):Vway P cx S (G (b.at a (.inRegion ops (i::rest)::k)) cs) v:=
 Vway.value ho hw hk (by simp only [execOp,hop];exact Tame.bind (fun _=>Tame.pure) tame_alloc) fun v₁ h₁=>⟨_,_,hr v₁,h v₁ h₁⟩
end
end Go.Vk
end
section
namespace Go.Vk
open Go.Conc Go.RowKit
theorem alone_back {P:Program} {S:Goroutine→World→Prop} {v:World}:Back P true (fun _=>True) fun g=>Vway P alone S g v:=Vway.back (cx:=alone)
section
variable {P : Program} {cx : Cx} {S : Goroutine → World → Prop} {b : Frame} {a : Act} {k : List Item} {cs : List Frame} {ops : Array Oper} {i : Nat} {rest : List Nat} {o : Oper} {v : World}
theorem Vway.allocz {t:TypeId} {z:Value} (ho:ops[i]?=some o) (hw:Region.wanted o (yielded ops a.tmps)=true) (hk:b.kind≠ .early) (hop:o.op= .alloc t) (hz: ∀w,(zeroValue t).run P w= .ok z w)
  (h: ∀v₁,Itf v v₁→Vway P cx S (G (b.at (a.put o.dst (.pointer (some ⟨v₁.heap.size,0,none⟩))) (.inRegion ops rest::k)) cs) {v₁ with heap:=v₁.heap.push (.cells z.cells t)}):Vway P cx S (G (b.at a (.inRegion ops (i::rest)::k)) cs) v:=
 Vway.value ho hw hk (by simp only [execOp,hop];exact Tame.bind (fun _=>Tame.pure) tame_alloc) fun v₁ h₁=>⟨_,_,by simp [execOp,hop,Instr.alloc,hz,newVar,newRow],h v₁ h₁⟩
theorem Vway.boxz {t:TypeId} {x:Operand} {y:Value} (ho:ops[i]?=some o) (hw:Region.wanted o (yielded ops a.tmps)=true) (hk:b.kind≠ .early) (hop:o.op= .box t x) (hx:a.eval x=y)
  (h: ∀v₁,Itf v v₁→Vway P cx S (G (b.at (a.put o.dst (.pointer (some ⟨v₁.heap.size,0,none⟩))) (.inRegion ops rest::k)) cs) {v₁ with heap:=v₁.heap.push (.cells y.cells t)}):Vway P cx S (G (b.at a (.inRegion ops (i::rest)::k)) cs) v:=by
 subst hx
 exact Vway.value ho hw hk (by simp only [execOp,hop];exact Tame.bind (fun _=>Tame.pure) tame_box) fun v₁ h₁=>⟨_,_,by simp [execOp,hop,Instr.box,newVar,newRow],h v₁ h₁⟩
theorem Vway.storew {t:TypeId} {x y:Operand} {bl off:Nat} {w0 val:Value} (ho:ops[i]?=some o) (hw:Region.wanted o (yielded ops a.tmps)=true) (hk:b.kind≠ .early) (hop:o.op= .store t x y) (hs: ∀w,(sizeOf t).run P w= .ok 1 w)
  (hx:a.eval x= .pointer (some ⟨bl,off,none⟩)) (hy:a.eval y=val) (hc:v.cell? ⟨bl,off,none⟩=some w0) (hfr: ∀v₁,Itf v v₁→v₁.frozen? ⟨bl,off,none⟩=false) (hv:val.oneCell'=true) (hcl:val.cells= #[val])
  (h: ∀v₁,Itf v v₁→Vway P cx S (G (b.at (a.put o.dst undef) (.inRegion ops rest::k)) cs) (v₁.setCell ⟨bl,off,none⟩ val)):Vway P cx S (G (b.at a (.inRegion ops (i::rest)::k)) cs) v:=by
 refine Vway.skipv ho hw hk (by simp only [execOp,hop];exact Tame.bind (fun _=>Tame.pure) tame_storeAt) fun v₁ h₁=>⟨_,?_,h v₁ h₁⟩
 have hc':=h₁.cell hc
 have hf:=hfr v₁ h₁
 have h0:(⟨bl,off,none⟩:Addr).add 0=⟨bl,off,none⟩:=by simp [Addr.add]
 simp [execOp,hop,hx,hy,Instr.storeAt,Instr.sureAddr,storeVar,hs,hcl,storeCells,run_store _ _ _ _ _ hv,h0,hc',hf]
end
end Go.Vk
end
section
namespace Go.Vk
open Go.Conc Go.RowKit
structure Seen (C:Addr→Value→Prop) (v:World):Prop where
 cell: ∀a x,C a x→v.cell? a=some x
 plain: ∀a x,C a x→a.spot=none
 shar: ∀a x,C a x→Shar v a.block
section
variable {C : Addr → Value → Prop} {v v' : World}
theorem Seen.lt (h:Seen C v) {a:Addr} {x:Value} (hc:C a x):a.block<v.heap.size:=(h.shar a x hc).lt
theorem Seen.itf (h:Seen C v) (hr:Itf v v'):Seen C v':=⟨fun a x hc=>hr.cell (h.cell a x hc),h.plain,fun a x hc=>(h.shar a x hc).itf hr⟩
theorem Seen.push (h:Seen C v) {o:Obj}:Seen C {v with heap:=v.heap.push o}:=⟨fun a x hc=>cell_push (h.cell a x hc),h.plain,fun a x hc=>(h.shar a x hc).push⟩
theorem Seen.set (h:Seen C v) {ad:Addr} {y:Value} (hn: ∀a x,C a x→a.block≠ad.block):Seen C (v.setCell ad y):=⟨fun a x hc=>cell_setCell (hn a x hc) (h.cell a x hc),h.plain,fun a x hc=>(h.shar a x hc).of_get (setCell_ne (hn a x hc))⟩
theorem Seen.remark {B:Nat→Prop} (h:Seen C v) (hr:Remark B v v'):Seen C v':=⟨fun a x hc=>hr.cell (h.cell a x hc),h.plain,fun a x hc=>(h.shar a x hc).remark hr⟩
theorem Seen.hide {b1 b2:Nat} (h:Seen C v) (hr:Hide b1 b2 v v') (hn: ∀a x,C a x→a.block≠b1∧a.block≠b2):Seen C v':=⟨fun a x hc=>hr.cell (hn a x hc).1 (hn a x hc).2 (h.cell a x hc),h.plain,fun a x hc=>(h.shar a x hc).of_get (hr.keep _ (hn a x hc).1 (hn a x hc).2)⟩
def given (C:Addr→Value→Prop) (v:World) (ib:Nat) (b:Nat):Prop:=Boxed v b∧((∃a x,C a x∧a.block=b)∨b=ib)
theorem Seen.child {ib:Nat} {vc:World} (h:Seen C v) (hv:Childv (given C v ib) v vc): ∀a x,C a x→vc.cell? a=some x:=fun a x hc=>by
 obtain ⟨b,o,s⟩:=a
 have hs:=h.plain _ _ hc
 simp only at hs
 subst hs
 exact hv.cell b o x ((h.shar _ _ hc).elim (fun q=>.inl ⟨q,.inl ⟨_,_,hc,rfl⟩⟩) .inr) (h.cell _ _ hc)
theorem child_own {ib o:Nat} {x:Value} {vc:World} (hb:Boxed v ib) (hv:Childv (given C v ib) v vc) (hc:v.cell? ⟨ib,o,none⟩=some x):vc.cell? ⟨ib,o,none⟩=some x:=hv.cell ib o x (.inl ⟨hb,.inr rfl⟩) hc
end
variable {M : Mp}
theorem go_stop {C:Addr→Value→Prop} {ib:Nat} {child next:Goroutine→World→Prop} {g g' ch:Goroutine} {v:World} (hrun:g.status= .running) (hs: ∀w,M.I w→stepG M.P true g w= .spawn g' ch w #[]) (hch:ch.status= .running) (hC:Seen C v)
  (hn: ∀v',Remark (given C v ib) v v'→Seen C v'→Vway M.P M.cm next g' v') (hc: ∀vc,Childv (given C v ib) v vc→(∀a x,C a x→vc.cell? a=some x)→Vway M.P M.cw child ch vc):M.GoAt child next g v:=
 ⟨hrun,given C v ib,g',ch,fun b hb=>hb.1,hs,hch,fun v' hv'=>hn v' hv' (hC.remark hv'),fun vc hvc=>hc vc hvc (hC.child hvc)⟩
theorem boxed_set {v:World} {ad:Addr} {y:Value} {b:Nat} (h:Boxed v b) (hs:ad.spot=none):Boxed (v.setCell ad y) b:=by
 obtain ⟨c,t,lo,h1,h2⟩:=h
 by_cases e:b=ad.block
 ·subst e
  refine ⟨c.setIfInBounds ad.off y,t,lo,by simpa using h1,?_⟩
  simp only [World.setCell]
  rw [Array.getElem?_modify,if_pos rfl,h2]
  simp [hs]
 ·exact ⟨c,t,lo,h1,by rw [setCell_ne e];exact h2⟩
end Go.Vk
end
section
namespace Go.Vk
open Go.Conc
theorem tame_makeChan {P:Program} {t:TypeId} {s:Value}:Tame P (Instr.makeChan t s):=by
 unfold Instr.makeChan
 refine Tame.bind (fun n=>Tame.bind (fun u=>?_) tame_underlying) tame_asInt
 cases u with
 | chan d e=>
  refine Tame.bind (fun i=>?_) tame_typeInfo
  split
  ·exact Tame.bind (fun _=>Tame.bind (fun _=>Tame.pure) (tame_newObj fun _ _ e=>by cases e)) tame_runtimePanic
  ·exact Tame.bind (fun _=>Tame.pure) (tame_newObj fun _ _ e=>by cases e)
 | _=>exact tame_stuck
theorem tame_chanOp {P:Program} {t:TypeId} {x:Operand} {a:Act} {o:Oper} (hop:o.op= .makeChan t x):Tame P (execOp a.eval o):=by
 simp only [execOp,hop]
 exact Tame.bind (fun _=>Tame.pure) tame_makeChan
end Go.Vk
end
section
namespace Go.Proofs.Pl
open Go.Conc Go.Vk Go.RowKit
section
variable {Wg c n : Nat} {Ok : Nat → Value → World → Prop} {Fin : Value → Prop}
set_option maxRecDepth 100000 in
set_option maxHeartbeats 4000000 in
theorem each_spawn {C:Addr→Value→Prop} {wb cb:Nat} {fv:Value} {cs:List Frame} (hn0:n≤40)
  (hchild: ∀(i ib:Nat) vc,i<n→(∀a x,C a x→vc.cell? a=some x)→vc.cell? ⟨ib,0,none⟩=some (.int .i64 i)→Vway Try.prog (crewM Wg c n Ok Fin).cw ((crewM Wg c n Ok Fin).W1 (i+1)) (born Try.prog {target:= .fn (.func 41) #[.pointer (some ⟨Wg,0,none⟩),.pointer (some ⟨wb,0,none⟩),.pointer (some ⟨ib,0,none⟩),.pointer (some ⟨cb,0,none⟩)],args:= #[]}) vc)
  (hclose: ∀vc,(∀a x,C a x→vc.cell? a=some x)→Vway Try.prog (crewM Wg c n Ok Fin).cw (crewM Wg c n Ok Fin).C1 (born Try.prog {target:= .fn (.func 42) #[.pointer (some ⟨Wg,0,none⟩),.pointer (some ⟨cb,0,none⟩)],args:= #[]}) vc)
  (hnext: ∀(y:Array Value) v,y.size=56→y.getD 0 undef= .int .i64 n→y.getD 6 undef= .pointer (some ⟨cb,0,none⟩)→Seen C v→
   Vway Try.prog (crewM Wg c n Ok Fin).cm ((crewM Wg c n Ok Fin).R n fun _=>False) (G ((base 21).at ⟨y,[]⟩ [.code eRest]) cs) v):
  ∀(r:Nat),r≤n→ ∀(x2 x8 x9 x10 x11 x12 x13 x14 x15 x16 x19 x20 x21 x22 x23:Value) (v:World),Seen C v→
   Vway Try.prog (crewM Wg c n Ok Fin).cm ((crewM Wg c n Ok Fin).S r) (G ((base 21).at ⟨#[.int .i64 n,fv,x2,.pointer (some ⟨wb,0,none⟩),.slice none 0 0,.int .i64 0,.pointer (some ⟨cb,0,none⟩),.pointer (some ⟨Wg,0,none⟩),x8,x9,x10,x11,x12,x13,x14,x15,x16,.int .i64 n,.int .i64 ((n-r:Nat):Int),x19,x20,x21,x22,x23,undef,undef,undef,undef,undef,undef,undef,undef,undef,undef,undef,undef,undef,undef,undef,undef,undef,undef,undef,undef,undef,undef,undef,undef,undef,undef,undef,undef,undef,undef,undef,undef],[]⟩ [.code eBody0,.inLoop eBody0,.inBlock 0,.code (.seq (.region 11 eOps11.v false) eRest)]) cs) v:=by
 intro r
 induction r with
 | zero=>
  intro _ x2 x8 x9 x10 x11 x12 x13 x14 x15 x16 x19 x20 x21 x22 x23 v hv
  have B:= @cm_back (crewM Wg c n Ok Fin) ((crewM Wg c n Ok Fin).S 0)
  have hO: ∃E,E=eBody0:=⟨_,rfl⟩
  obtain ⟨E,hE⟩:=hO
  rw [show Item.inLoop eBody0=Item.inLoop E by rw [hE]]
  simp only [eBody0]
  refine B.seq ?_
  refine B.region ?_
  simp only [eOps6,id_eq,List.size_toArray,List.length_cons,List.length_nil,Nat.reduceAdd,Nat.zero_add,List.range,List.range.loop]
  refine B.value rfl rfl (by simp [base]) (fun w hw=>by go_simp<;>rfl) (fun w hw=>by simp [go_sem]) ?_
  walk_nrm
  refine B.rend ?_
  refine B.seq ?_
  refine B.condF (by simp [Act.eval]) ?_
  refine B.exit rfl ?_
  refine B.seq ?_
  refine B.region ?_
  simp only [eOps11,id_eq,List.size_toArray,List.length_cons,List.length_nil,Nat.reduceAdd,Nat.zero_add,List.range,List.range.loop]
  refine B.value rfl rfl (by simp [base]) (fun w hw=>by go_simp<;>rfl) (fun w hw=>rfl) ?_
  walk_nrm
  refine .stop fun v₁ h₁=>go_stop (ib:=0) rfl (fun w _=>go_at rfl rfl (by simp [base]) rfl rfl w) rfl (hv.itf h₁) (fun v' _ hs=>?_) fun vc _ hcs=>hclose vc hcs
  walk_nrm
  refine cm_back.rend ?_
  exact hnext _ v' rfl rfl rfl hs
 | succ r ih=>
  intro hr x2 x8 x9 x10 x11 x12 x13 x14 x15 x16 x19 x20 x21 x22 x23 v hv
  have B:=fun u=> @cm_back (crewM Wg c n Ok Fin) ((crewM Wg c n Ok Fin).S (r+1)) u
  have hO: ∃E,E=eBody0:=⟨_,rfl⟩
  obtain ⟨E,hE⟩:=hO
  rw [show Item.inLoop eBody0=Item.inLoop E by rw [hE]]
  simp only [eBody0]
  refine (B v).seq ?_
  refine (B v).region ?_
  simp only [eOps6,id_eq,List.size_toArray,List.length_cons,List.length_nil,Nat.reduceAdd,Nat.zero_add,List.range,List.range.loop]
  refine (B v).value rfl rfl (by simp [base]) (fun w hw=>by go_simp<;>rfl) (fun w hw=>by simp [go_sem]) ?_
  walk_nrm
  refine (B v).rend ?_
  refine (B v).seq ?_
  refine (B v).condT (by simp [Act.eval];omega) ?_
  refine (B v).skip ?_
  refine (B v).seq ?_
  refine (B v).block ?_
  refine (B v).seq ?_
  refine (B v).region ?_
  simp only [eOps7,id_eq,List.size_toArray,List.length_cons,List.length_nil,Nat.reduceAdd,Nat.zero_add,List.range,List.range.loop]
  refine (B v).value rfl rfl (by simp [base]) (fun w hw=>by go_simp<;>rfl) (fun w hw=>rfl) ?_
  walk_nrm
  refine Vway.allocz (t:=3) (z:= .int .i64 0) rfl rfl (by simp [base]) rfl Try.zeroValue3 fun v₁ h₁=>?_
  walk_nrm
  have hv1:=(hv.itf h₁).push (o:= .cells (Value.int .i64 0).cells 3)
  have hib:({v₁ with heap:=v₁.heap.push (.cells (Value.int .i64 0).cells 3)}:World).heap[v₁.heap.size]?=some (.cells #[.int .i64 0] 3):=by simp [Value.cells]
  have hnew:Boxed {v₁ with heap:=v₁.heap.push (.cells (Value.int .i64 0).cells 3)} v₁.heap.size:=⟨#[.int .i64 0],3,0,by simp,hib⟩
  have hne: ∀a x,C a x→a.block≠v₁.heap.size:=fun a x hc=>Nat.ne_of_lt ((hv.itf h₁).lt hc)
  generalize hw1:({v₁ with heap:=v₁.heap.push (.cells (Value.int .i64 0).cells 3)}:World)=w1 at*
  generalize hbq:v₁.heap.size=ib at*
  refine Vway.storew (bl:=ib) (off:=0) (w0:= .int .i64 0) rfl rfl (by simp [base]) rfl Try.sizeOf3 rfl rfl (by unfold World.cell?;simp [hib]) (fun v₂ h₂=>?_) rfl rfl fun v₂ h₂=>?_
  ·have:v₂.heap[ib]?=some (.cells #[.int .i64 0] 3):=by rw [h₂.get (lt_of_get hib)];exact hib
   simp [World.frozen?,this]
  walk_nrm
  have hib2:v₂.heap[ib]?=some (.cells #[.int .i64 0] 3):=by rw [h₂.get (lt_of_get hib)];exact hib
  have hv2:=(hv1.itf h₂).set (ad:=⟨ib,0,none⟩) (y:= .int .i64 ((n-(r+1):Nat):Int)) (fun a x hc=>hne a x hc)
  have hb2:Boxed (v₂.setCell ⟨ib,0,none⟩ (.int .i64 ((n-(r+1):Nat):Int))) ib:=boxed_set ⟨#[.int .i64 0],3,0,by simp,hib2⟩ rfl
  have hc2:(v₂.setCell ⟨ib,0,none⟩ (.int .i64 ((n-(r+1):Nat):Int))).cell? ⟨ib,0,none⟩=some (.int .i64 ((n-(r+1):Nat):Int)):=by
   simp [World.setCell,World.cell?,Array.getElem?_modify,hib2]
  generalize (v₂.setCell ⟨ib,0,none⟩ (.int .i64 ((n-(r+1):Nat):Int)))=w2 at*
  refine (B w2).rend ?_
  refine (B w2).seq ?_
  refine (B w2).region ?_
  simp only [eOps8,id_eq,List.size_toArray,List.length_cons,List.length_nil,Nat.reduceAdd,Nat.zero_add,List.range,List.range.loop]
  refine (B w2).enter rfl rfl (by simp [base]) rfl Try.wgLib.f_add (Go.ConcR.Gen.nm_add Try.link) (show (Go.Conc.Lib.addFn Try.link).body=some (Go.ConcR.Gen.body_add Try.link) from rfl) ?_
  have ea: ∀T:Act,T.eval (.tmp 7)= .pointer (some ⟨Wg,0,none⟩)→(#[Operand.tmp 7,Operand.const (Value.int IntKind.i64 1)]:Array Operand).map T.eval= #[.pointer (some ⟨Wg,0,none⟩),.int .i64 1]:=fun T h=>by
   simp only [List.map_toArray,List.map_cons,List.map_nil,h]
   rfl
  rw [ea _ rfl]
  refine add_walk (M:=crewM Wg c n Ok Fin) (r:=r) Try.wgLib ?_
  walk_nrm
  refine cm_back.rend ?_
  refine cm_back.region ?_
  simp only [eOps9,id_eq,List.size_toArray,List.length_cons,List.length_nil,Nat.reduceAdd,Nat.zero_add,List.range,List.range.loop]
  refine cm_back.value rfl rfl (by simp [base]) (fun w hw=>by go_simp<;>rfl) (fun w hw=>rfl) ?_
  walk_nrm
  refine .stop fun v₃ h₃=>go_stop (ib:=ib) rfl (fun w _=>go_at rfl rfl (by simp [base]) rfl rfl w) rfl (hv2.itf h₃) (fun v' _ hs=>?_) fun vc hvc hcs=>?_
  ·walk_nrm
   refine cm_back.rend ?_
   refine cm_back.inBlock ?_
   refine cm_back.region ?_
   simp only [eOps10,id_eq,List.size_toArray,List.length_cons,List.length_nil,Nat.reduceAdd,Nat.zero_add,List.range,List.range.loop]
   refine cm_back.value rfl rfl (by simp [base]) (fun w hw=>by go_simp<;>rfl) (fun w hw=>by simp [go_sem]) ?_
   walk_nrm
   refine cm_back.value rfl rfl (by simp [base]) (fun w hw=>by go_simp<;>rfl) (fun w hw=>rfl) ?_
   walk_nrm
   refine cm_back.rend ?_
   rw [hE]
   refine cm_back.inLoop ?_
   have hwr:IntKind.i64.wrap (((n-(r+1):Nat):Int)+1)=((n-r:Nat):Int):=by
    simp [IntKind.wrap,IntKind.signed,IntKind.bits]
    omega
   rw [hwr]
   exact ih (by omega) _ _ _ _ _ _ _ _ _ _ _ _ _ _ _ v' hs
  ·have:=hchild (n-(r+1)) ib vc (by omega) hcs (child_own ((by
    obtain ⟨q1,q2,q3,q4,q5⟩:=hb2
    exact ⟨q1,q2,q3,q4,by rw [h₃.get (lt_of_get q5)];exact q5⟩)) hvc (h₃.cell hc2))
   rw [show n-(r+1)+1=n-r by omega] at this
   exact this
theorem seen_add {C:Addr→Value→Prop} {v:World} {b:Nat} {x:Value} (h:Seen C v) (hc:v.cell? ⟨b,0,none⟩=some x) (hs:Shar v b):Seen (fun a y=>C a y∨(a=⟨b,0,none⟩∧y=x)) v:=
 ⟨fun a y q=>q.elim (h.cell a y) fun ⟨e1,e2⟩=>by rw [e1,e2];exact hc,fun a y q=>q.elim (h.plain a y) fun ⟨e1,_⟩=>by rw [e1],fun a y q=>q.elim (h.shar a y) fun ⟨e1,_⟩=>by rw [e1];exact hs⟩
theorem push_get {v:World} {o:Obj}:({v with heap:=v.heap.push o}:World).heap[v.heap.size]?=some o:=by simp
theorem run_chan (w:World) (a:Act) (o:Oper) (hop:o.op= .makeChan 79 (.const (.int .i64 0))):(execOp a.eval o).run Try.prog w= .ok (.value (.chan (some w.heap.size))) {w with heap:=w.heap.push (.chan 0 #[] false 0 0 false)}:=by
 have t1:=Try.runUnderlying79
 have e1: ∀w,(asInt (.int .i64 0)).run Try.prog w= .ok 0 w:=fun w=>by simp [asInt,asIntOf]
 simp only [execOp,hop,Instr.makeChan,Act.eval]
 simp [t1,e1]
set_option maxRecDepth 100000 in
set_option maxHeartbeats 4000000 in
theorem each_start (hn0:n≤40) {Ok:Nat→Nat→Nat→Value→World→Prop} (hOk: ∀wg cn k val v v',Itf v v'→Ok wg cn k val v→Ok wg cn k val v') {C:Addr→Value→Prop} {fv:Value} (hfc:fv.cells= #[fv]) {cs:List Frame} {v:World} (hv:Seen C v)
  (hchild: ∀(wg cn wb cb i ib:Nat) vc,i<n→(∀a x,C a x→vc.cell? a=some x)→vc.cell? ⟨wb,0,none⟩=some fv→vc.cell? ⟨cb,0,none⟩=some (.chan (some cn))→vc.cell? ⟨ib,0,none⟩=some (.int .i64 i)→
   Vway Try.prog (crewM wg cn n (Ok wg cn) Fin).cw ((crewM wg cn n (Ok wg cn) Fin).W1 (i+1)) (born Try.prog {target:= .fn (.func 41) #[.pointer (some ⟨wg,0,none⟩),.pointer (some ⟨wb,0,none⟩),.pointer (some ⟨ib,0,none⟩),.pointer (some ⟨cb,0,none⟩)],args:= #[]}) vc)
  (hnext: ∀(wg cn wb cb:Nat) (y:Array Value) v,y.size=56→y.getD 0 undef= .int .i64 n→y.getD 6 undef= .pointer (some ⟨cb,0,none⟩)→Seen (fun a x=>(C a x∨(a=⟨wb,0,none⟩∧x=fv))∨(a=⟨cb,0,none⟩∧x= .chan (some cn))) v→
   Vway Try.prog (crewM wg cn n (Ok wg cn) Fin).cm ((crewM wg cn n (Ok wg cn) Fin).R n fun _=>False) (G ((base 21).at ⟨y,[]⟩ [.code eRest]) cs) v):
  Vway Try.prog alone (SoloStop Try.prog Fin) (G ((base 21).at ⟨#[.int .i64 n,fv,undef,undef,undef,undef,undef,undef,undef,undef,undef,undef,undef,undef,undef,undef,undef,undef,undef,undef,undef,undef,undef,undef,undef,undef,undef,undef,undef,undef,undef,undef,undef,undef,undef,undef,undef,undef,undef,undef,undef,undef,undef,undef,undef,undef,undef,undef,undef,undef,undef,undef,undef,undef,undef,undef],[]⟩ [.code eBody]) cs) v:=by
 have B:=fun u=> @alone_back Try.prog (SoloStop Try.prog Fin) u
 have hO: ∃E,E=eBody0:=⟨_,rfl⟩
 obtain ⟨E,hE⟩:=hO
 rw [eBody_eq]
 simp only [eBodyQ]
 rw [←hE]
 refine (B v).seq ?_
 refine (B v).region ?_
 simp only [eOps0,id_eq,List.size_toArray,List.length_cons,List.length_nil,Nat.reduceAdd,Nat.zero_add,List.range,List.range.loop]
 refine Vway.boxz rfl rfl (by simp [base]) rfl rfl fun v₁ h₁=>?_
 walk_nrm
 refine (B _).value rfl rfl (by simp [base]) (fun w hw=>by go_simp<;>rfl) (fun w hw=>rfl) ?_
 walk_nrm
 refine (B _).value rfl rfl (by simp [base]) (fun w hw=>by go_simp<;>rfl) (fun w hw=>rfl) ?_
 walk_nrm
 refine (B _).rend ?_
 refine (B _).seq ?_
 refine (B _).seq ?_
 refine (B _).region ?_
 simp only [eOps1,id_eq,List.size_toArray,List.length_cons,List.length_nil,Nat.reduceAdd,Nat.zero_add,List.range,List.range.loop]
 refine (B _).value rfl rfl (by simp [base]) (fun w hw=>by go_simp<;>rfl) (fun w hw=>rfl) ?_
 walk_nrm
 refine (B _).value rfl rfl (by simp [base]) (fun w hw=>by go_simp<;>rfl) (fun w hw=>by simp [go_sem]) ?_
 walk_nrm
 refine (B _).rend ?_
 refine (B _).condF (by simp [Act.eval];omega) ?_
 refine (B _).skip ?_
 refine (B _).seq ?_
 refine (B _).region ?_
 simp only [eOps3,id_eq,List.size_toArray,List.length_cons,List.length_nil,Nat.reduceAdd,Nat.zero_add,List.range,List.range.loop]
 have hs1:=seen_add ((hv.itf h₁).push (o:= .cells fv.cells 54)) (b:=v₁.heap.size) (x:=fv) (by unfold World.cell?;simp [hfc]) (.inl ⟨#[fv],54,0,by simp,by simp [hfc]⟩)
 generalize hw1:({v₁ with heap:=v₁.heap.push (.cells fv.cells 54)}:World)=w1 at*
 generalize v₁.heap.size=wb at*
 refine Vway.value rfl rfl (by simp [base]) (tame_chanOp rfl) fun v₂ h₂=>⟨_,_,run_chan _ _ _ rfl,?_⟩
 walk_nrm
 have hs2:=(hs1.itf h₂).push (o:= .chan 0 #[] false 0 0 false)
 have hch2:({v₂ with heap:=v₂.heap.push (.chan 0 #[] false 0 0 false)}:World).heap[v₂.heap.size]?=some (.chan 0 #[] false 0 0 false):=push_get
 have hlt2: ∀a x,(C a x∨(a=⟨wb,0,none⟩∧x=fv))→a.block≠v₂.heap.size:=fun a x hc=>Nat.ne_of_lt ((hs1.itf h₂).lt hc)
 generalize ({v₂ with heap:=v₂.heap.push (.chan 0 #[] false 0 0 false)}:World)=w2 at*
 generalize v₂.heap.size=cn at*
 refine Vway.allocz (t:=79) rfl rfl (by simp [base]) rfl Try.zeroValue79 fun v₃ h₃=>?_
 walk_nrm
 have hs3:=(hs2.itf h₃).push (o:= .cells (Value.chan none).cells 79)
 have hch3:({v₃ with heap:=v₃.heap.push (.cells (Value.chan none).cells 79)}:World).heap[cn]?=some (.chan 0 #[] false 0 0 false):=by
  have e:=h₃.get (lt_of_get hch2)
  rw [get_push (by have:=lt_of_get (e.trans hch2);exact this),e];exact hch2
 have hcb3:({v₃ with heap:=v₃.heap.push (.cells (Value.chan none).cells 79)}:World).heap[v₃.heap.size]?=some (.cells #[.chan none] 79):=push_get
 have hne3:cn≠v₃.heap.size:=Nat.ne_of_lt (lt_of_get ((h₃.get (lt_of_get hch2)).trans hch2))
 have hlt3: ∀a x,(C a x∨(a=⟨wb,0,none⟩∧x=fv))→a.block≠v₃.heap.size:=fun a x hc=>Nat.ne_of_lt ((hs2.itf h₃).lt hc)
 generalize ({v₃ with heap:=v₃.heap.push (.cells (Value.chan none).cells 79)}:World)=w3 at*
 generalize v₃.heap.size=cb at*
 refine Vway.storew (bl:=cb) (off:=0) (w0:= .chan none) rfl rfl (by simp [base]) rfl Try.sizeOf79 rfl rfl (by unfold World.cell?;simp [hcb3]) (fun v₄ h₄=>?_) rfl rfl fun v₄ h₄=>?_
 ·have:v₄.heap[cb]?=some (.cells #[.chan none] 79):=by rw [h₄.get (lt_of_get hcb3)];exact hcb3
  simp [World.frozen?,this]
 walk_nrm
 have hcb4:v₄.heap[cb]?=some (.cells #[.chan none] 79):=by rw [h₄.get (lt_of_get hcb3)];exact hcb3
 have hc4:(v₄.setCell ⟨cb,0,none⟩ (.chan (some cn))).cell? ⟨cb,0,none⟩=some (.chan (some cn)):=by
  simp [World.setCell,World.cell?,Array.getElem?_modify,hcb4]
 have hs4:=seen_add ((hs3.itf h₄).set (ad:=⟨cb,0,none⟩) (y:= .chan (some cn)) fun a x hc=>hlt3 a x hc) hc4 (.inl (boxed_set ⟨#[.chan none],79,0,by simp,hcb4⟩ rfl))
 have hch4:(v₄.setCell ⟨cb,0,none⟩ (.chan (some cn))).heap[cn]?=some (.chan 0 #[] false 0 0 false):=by rw [setCell_ne hne3,h₄.get (lt_of_get hch3)];exact hch3
 generalize (v₄.setCell ⟨cb,0,none⟩ (.chan (some cn)))=w4 at*
 refine (B _).rend ?_
 refine (B _).seq ?_
 refine (B _).region ?_
 simp only [eOps4,id_eq,List.size_toArray,List.length_cons,List.length_nil,Nat.reduceAdd,Nat.zero_add,List.range,List.range.loop]
 refine Vway.allocz (t:=69) rfl rfl (by simp [base]) rfl Try.zeroValue69 fun v₅ h₅=>?_
 walk_nrm
 have hs5:=(hs4.itf h₅).push (o:= .cells (Value.agg #[.int .u64 0,.int .u32 0]).cells 69)
 have hch5:({v₅ with heap:=v₅.heap.push (.cells (Value.agg #[.int .u64 0,.int .u32 0]).cells 69)}:World).heap[cn]?=some (.chan 0 #[] false 0 0 false):=by
  have e:=h₅.get (lt_of_get hch4)
  rw [get_push (by have:=lt_of_get (e.trans hch4);exact this),e];exact hch4
 have hwg5:({v₅ with heap:=v₅.heap.push (.cells (Value.agg #[.int .u64 0,.int .u32 0]).cells 69)}:World).heap[v₅.heap.size]?=some (Go.ConcR.wgBlock 69 0 0):=push_get
 generalize ({v₅ with heap:=v₅.heap.push (.cells (Value.agg #[.int .u64 0,.int .u32 0]).cells 69)}:World)=w5 at*
 have hlt5: ∀a x,((C a x∨(a=⟨wb,0,none⟩∧x=fv))∨(a=⟨cb,0,none⟩∧x= .chan (some cn)))→a.block≠v₅.heap.size:=fun a x hc=>Nat.ne_of_lt ((hs4.itf h₅).lt hc)
 generalize v₅.heap.size=wg at*
 refine (B _).rend ?_
 refine (B _).seq ?_
 refine (B _).seq ?_
 refine (B _).region ?_
 simp only [eOps5,id_eq,List.size_toArray,List.length_cons,List.length_nil,Nat.reduceAdd,Nat.zero_add,List.range,List.range.loop]
 refine (B _).value rfl rfl (by simp [base]) (fun w hw=>by go_simp<;>rfl) (fun w hw=>rfl) ?_
 walk_nrm
 refine (B _).value rfl rfl (by simp [base]) (fun w hw=>by go_simp<;>rfl) (fun w hw=>rfl) ?_
 walk_nrm
 refine (B _).rend ?_
 refine (B _).block ?_
 refine (B _).loop ?_
 rw [hE]
 refine .stop fun v₆ h₆=>.inr ⟨crewM wg cn n (Ok wg cn) Fin,rfl,rfl,⟨fun k val v v' hr h=>hOk wg cn k val v v' hr h⟩,by show n<_;omega,?_,?_,fun v' hv'=>?_⟩
 ·exact (h₆.get (lt_of_get hwg5)).trans hwg5
 ·exact (h₆.get (lt_of_get hch5)).trans hch5
 ·have hs6:=(hs5.itf h₆).hide hv' fun a x hc=>⟨hlt5 a x hc,hc.elim (fun q=>hlt2 a x q) fun q=>by rw [q.1];exact hne3.symm⟩
  have key:=fun x2 x8 x9 x10 x11 x12 x13 x14 x15 x16 x19 x20 x21 x22 x23=>each_spawn (Wg:=wg) (c:=cn) (n:=n) (Ok:=Ok wg cn) (Fin:=Fin) (fv:=fv) (wb:=wb) (cb:=cb) (cs:=cs) hn0 (fun i ib vc hi hcs hib=>hchild wg cn wb cb i ib vc hi (fun a x h=>hcs a x (.inl (.inl h))) (hcs _ _ (.inl (.inr ⟨rfl,rfl⟩))) (hcs _ _ (.inr ⟨rfl,rfl⟩)) hib)
   (fun vc hcs=>closer42 (hcs _ _ (.inr ⟨rfl,rfl⟩))) (fun y v hy h0 h6 hs=>hnext wg cn wb cb y v hy h0 h6 hs) n (Nat.le_refl n) x2 x8 x9 x10 x11 x12 x13 x14 x15 x16 x19 x20 x21 x22 x23 v' hs6
  simp only [Nat.sub_self] at key
  exact key _ _ _ _ _ _ _ _ _ _ _ _ _ _ _
end
end Go.Proofs.Pl
end
section
namespace Go.Vc
theorem has_pair (o1 o2:Ob):Has [o1,o2] (pt 0 o1+(pt 1 o2+HM.nil)):=by
 have h:Has ([]++[o1]++[o2]) (pt 1 o2+(pt 0 o1+HM.nil)):=(Has.more (Has.more (S:=[]) Has.nil o1) o2)
 exact h.eq (by ac_rfl)
def FlatAt (v:World) (n:Nat) (l:List Int) (x:Value):Prop:=(n=0∧ ∃a c,x= .slice a 0 c)∨ ∃b off c,n≤c∧x= .slice (some ⟨b,off,none⟩) n c∧ ∀(i:Nat) z,l[i]?=some z→v.cell? ⟨b,off+i,none⟩=some (.int .i64 z)
section
variable {v v' : World} {l : List Int} {n : Nat} {x : Value} {E : Env} {fz : Nat → Prop}
theorem FlatAt.cells (h:FlatAt v n l x) (hw: ∀b o y,v.cell? ⟨b,o,none⟩=some y→v'.cell? ⟨b,o,none⟩=some y):FlatAt v' n l x:=by
 rcases h with h | ⟨b,off,c,h1,h2,h3⟩
 ·exact .inl h
 ·exact .inr ⟨b,off,c,h1,h2,fun i n hi=>hw _ _ _ (h3 i n hi)⟩
theorem FlatAt.rel (h:FlatAt v n l x) (hl:n≠0→l≠[]) (hf: ∀b o y,v.cell? ⟨b,o,none⟩=some y→fz b):Rel E fz v (.ros n (l.map (AVal.int .i64))) x:=by
 simp only [Rel]
 rcases h with ⟨rfl,a,c,rfl⟩ | ⟨b,off,c,h1,h2,h3⟩
 ·exact .inl ⟨rfl,a,c,rfl⟩
 ·by_cases h0:n=0
  ·exact .inl ⟨h0,some ⟨b,off,none⟩,c,by rw [h2,h0]⟩
  ·cases l with
   | nil=>exact (hl h0 rfl).elim
   | cons z l=>
    refine .inr ⟨b,off,c,hf b (off+0) _ (h3 0 z rfl),h1,h2,RelC.mk fun i y hy=>?_⟩
    rw [List.getElem?_map] at hy
    obtain ⟨m,hm,rfl⟩:=Option.map_eq_some_iff.1 hy
    exact ⟨_,h3 i m hm,rfl,by simp [Rel]⟩
theorem FlatAt.of_rel (h:Rel E fz v (.ros n (l.map (AVal.int .i64))) x):FlatAt v n l x:=by
 simp only [Rel] at h
 rcases h with ⟨h0,a,c,rfl⟩ | ⟨b,off,c,h1,h2,h3,h4⟩
 ·exact .inl ⟨h0,a,c,rfl⟩
 ·refine .inr ⟨b,off,c,h2,h3,fun i n hi=>?_⟩
  obtain ⟨y,q1,q2,q3⟩:=RelC.get h4 (i:=i) (x:= .int .i64 n) (by rw [List.getElem?_map,hi];rfl)
  simp only [Rel] at q3
  rw [q1,q3]
theorem FlatAt.own {T:Store} {j u k:Nat} (st:St E fz T v) (ho:T[j]?=some (.row u k (l.map (AVal.int .i64)))) (h:Rel E fz v (.sl j u 0 n) x):FlatAt v n l x:=by
 simp only [Rel] at h
 rcases h with ⟨h0,a,rfl⟩ | ⟨b,base,cap,k',c,h1,h2,h3,rfl⟩
 ·exact .inl ⟨h0,a,0,rfl⟩
 ·rcases st.ok j _ ho with ⟨q1,q2⟩ | ⟨b',base',cap',arr,t,lo,hi,q1,q2,q3,q4,q5,q6,q7⟩
  ·rw [h1] at q1;cases q1
  ·rw [h1] at q1;cases q1
   refine .inr ⟨b,base+0,c,h2,rfl,fun i l hi=>?_⟩
   obtain ⟨y,g1,g2,g3⟩:=RelC.get q6 (i:=i) (x:= .int .i64 l) (by rw [List.getElem?_map,hi];rfl)
   simp only [Rel] at g3
   rw [Nat.add_zero,g1,g3]
end
end Go.Vc
namespace Go.Proofs.Pl
open Go.Conc Go.Vk Go.RowKit
theorem getD_put_eq {a:Act} {t:Nat} {x:Value} (h:t<a.tmps.size):(a.put (some t) x).tmps.getD t undef=x:=by
 simp [Act.put,h]
theorem getD_put_ne {a:Act} {t u:Nat} {x:Value} (h:u≠t):(a.put (some t) x).tmps.getD u undef=a.tmps.getD u undef:=by
 simp [Act.put,Array.getD_eq_getD_getElem?,Array.getElem?_setIfInBounds,h.symm]
def flatM (m:Msr):List Int:=[m.1.1,m.1.2.1,m.1.2.2,m.2.1,m.2.2]
theorem flat_enc (ms:List Msr):ms.flatMap encM=(ms.flatMap flatM).map (Vc.AVal.int .i64):=by
 induction ms with
 | nil=>rfl
 | cons m ms ih=>rw [List.flatMap_cons,List.flatMap_cons,List.map_append,ih];rfl
noncomputable def eMsg:Code:= .seq (.region 15 eOps15.v false) (.region 16 eOps16.v true)
noncomputable def eLoop:Code:= .seq (.region 14 eOps14.v false) (.seq (.cond (.tmp 31) .skip (.exit 2)) (.block 3 eMsg))
theorem eRest_eq:eRest= .seq (.region 12 eOps12.v true) (.seq (.seq (.region 13 eOps13.v false) (.block 2 (.loop eLoop))) eTail):=rfl
def OkM (FM:Nat→Msr) (k:Nat) (val:Value) (v:World):Prop:=val=msg ((k-1:Nat):Int) (FM (k-1))
section
variable {Wg c n : Nat} {FM : Nat → Msr} {Fin : Value → Prop} {C : Addr → Value → Prop} {X : Nat → Prop} {a : Act} {v v₁ : World}
def LInv (n c:Nat) (FM:Nat→Msr) (C:Addr→Value→Prop) (X:Nat→Prop) (a:Act) (v:World):Prop:=
 a.tmps.size=56∧a.defers=[]∧a.tmps.getD 29 undef= .chan (some c)∧ ∃E fz v1 v2,∃(ms:List Msr),∃codes,Vc.St E fz [.row v1 5 (ms.flatMap encM),.row v2 1 codes] v∧Vc.Rel E fz v (.sl 0 v1 0 n) (a.tmps.getD 9 undef)∧Vc.Rel E fz v (.sl 1 v2 0 n) (a.tmps.getD 10 undef)∧
  ms.length=n∧codes.length=n∧(∀i,i<n→codes[i]?=some (.int .i64 0))∧(∀k,X k→1≤k∧k≤n∧ms[k-1]?=some (FM (k-1)))∧ ∀ad x,C ad x→ad.spot=none∧fz ad.block∧v.cell? ad=some x
theorem LInv.itf (h:LInv n c FM C X a v) (hr:Itf v v₁):LInv n c FM C X a v₁:=by
 obtain ⟨h1,h2,h3,E,fz,v1,v2,ms,codes,st,r1,r2,l1,l2,hz,hx,hc⟩:=h
 obtain ⟨st',ext⟩:=st.itf hr
 exact ⟨h1,h2,h3,E,fz,v1,v2,ms,codes,st',st.rel ext r1,st.rel ext r2,l1,l2,hz,hx,fun ad x q=>⟨(hc ad x q).1,(hc ad x q).2.1,hr.cell (hc ad x q).2.2⟩⟩
theorem LInv.put {t:Nat} {y:Value} (h:LInv n c FM C X a v) (h9:t≠9) (h10:t≠10) (h29:t≠29):LInv n c FM C X (a.put (some t) y) v:=by
 obtain ⟨h1,h2,h3,E,fz,v1,v2,ms,codes,st,r1,r2,r⟩:=h
 refine ⟨by rw [←h1];simp [Act.put],h2,?_,E,fz,v1,v2,ms,codes,st,?_,?_,r⟩
 ·rw [getD_put_ne h29.symm];exact h3
 ·rw [getD_put_ne h9.symm];exact r1
 ·rw [getD_put_ne h10.symm];exact r2
theorem tail_walk {S:Goroutine→World→Prop} {cx:Cx} {cs:List Frame} (hn:n≤40) (hX: ∀k,1≤k→k≤n→X k) (hI:LInv n c FM C X a v)
  (hend: ∀(a:Act) (v:World) todo,a.defers=[]→a.tmps.getD 5 undef= .int .i64 0→Vc.FlatAt v n (((List.range n).map FM).flatMap flatM) (a.tmps.getD 4 undef)→(∀ad x,C ad x→v.cell? ad=some x)→Vway Try.prog cx S (G {(base 21).at a todo with mode:= .returning} cs) v):
  Vway Try.prog cx S (G ((base 21).at a [.code eTail]) cs) v:=by
 obtain ⟨h1,h2,h3,E,fz,v1,v2,ms,codes,st,r1,r2,l1,l2,hz,hx,hc⟩:=hI
 have eo:ms=(List.range n).map FM:=by
  apply List.ext_getElem?
  intro i
  rcases Nat.lt_or_ge i n with q | q
  ·have:=(hx (i+1) (hX _ (by omega) (by omega))).2.2
   rw [Nat.add_sub_cancel] at this
   rw [this];simp [q]
  ·rw [List.getElem?_eq_none (by omega),List.getElem?_eq_none (by simpa using q)]
 refine Vway.chunk sD_ok (Q:=fun e F' S'=>e= .ret∧F'=[(4,.sl 0 v1 0 n),(5,.int .i64 0)]∧S'[0]?=some (.row v1 5 (ms.flatMap encM)))
  st (Vc.relF_cons r1 (Vc.relF_cons r2 Vc.relF_nil)) h1 (by simp [base]) (vcD hn l2 hz (Vc.has_pair _ _) fun S' hS=>⟨rfl,rfl,hS.get⟩) ?_
 rintro e F' T' E' fz' a' v' ⟨rfl,rfl,hS⟩ ext st' hrel hsz hdf hkeep
 intro todo
 have e4:=hrel 4
 have e5:=hrel 5
 simp only [Vc.Frame.get,Nat.beq] at e4 e5
 simp only [Vc.Rel] at e5
 rw [eo,flat_enc] at hS
 refine hend a' v' todo (hdf.trans h2) e5 (Vc.FlatAt.own st' hS e4) fun ad x q=>?_
 obtain ⟨q1,q2,q3⟩:=hc ad x q
 obtain ⟨b,o,s⟩:=ad
 simp only at q1 q2
 subst q1
 rw [Vc.cell_of_heap (st.fz_keep ext b q2)];exact q3
theorem msg_walk {S:Goroutine→World→Prop} {cx:Cx} {cs:List Frame} {k:List Item} {i:Nat} {v':World} (hi:i<n) (hI:LInv n c FM C X a v) (hu:Unp v v') (h30:a.tmps.getD 30 undef= .tuple #[msg i (FM i),.bool true])
  (hend: ∀(a:Act) (v:World),LInv n c FM C (fun k=>X k∨k=i+1) a v→Vway Try.prog cx S (G ((base 21).at a k) cs) v):
  Vway Try.prog cx S (G ((base 21).at a (.code eMsg::k)) cs) v':=by
 obtain ⟨h1,h2,h3,E,fz,v1,v2,ms,codes,st,r1,r2,l1,l2,hz,hx,hc⟩:=hI
 have hfree: ∀b,Vc.Own E [.row v1 5 (ms.flatMap encM),.row v2 1 codes] b→ ¬Free v b∧v.heap[b]?≠some poison:=by
  rintro b ⟨l,o,q1,q2⟩
  match l,q1 with
  | 0,q1=>
   cases q1
   exact st.own_free (l:=0) rfl (fun e=>by have:=flatM_len ms;rw [e] at this;simp at this;omega) q2
  | 1,q1=>cases q1;exact st.own_free (l:=1) rfl (fun e=>by rw [e] at l2;simp at l2;omega) q2
  | l+2,q1=>simp at q1
 obtain ⟨st',tr⟩:=st.turn (v':=v') (fun l o q=>by
  match l,q with
  | 0,q=>cases q;exact ⟨_,_,_,rfl⟩
  | 1,q=>cases q;exact ⟨_,_,_,rfl⟩
  | l+2,q=>simp at q) (fun b hb=>(hu.keep b).resolve_right (hfree b hb).2) (fun b o y q=>hu.cell q) (by rw [hu.size];exact Nat.le_refl _)
 have hm30:Vc.Rel E (Vc.restF E [.row v1 5 (ms.flatMap encM),.row v2 1 codes] v') v' (.tup [.agg [.int .i64 (i:Int),.int .i64 (FM i).1.1,.int .i64 (FM i).1.2.1,.int .i64 (FM i).1.2.2,.int .i64 (FM i).2.1,.int .i64 (FM i).2.2,.int .i64 0],.bool true]) (a.tmps.getD 30 undef):=by
  rw [h30]
  simp only [Vc.Rel,Vc.RelL,msg]
  refine ⟨[msg i (FM i),.bool true],rfl,_,_,rfl,⟨[.int .i64 (i:Int),.int .i64 (FM i).1.1,.int .i64 (FM i).1.2.1,.int .i64 (FM i).1.2.2,.int .i64 (FM i).2.1,.int .i64 (FM i).2.2,.int .i64 0],rfl,⟨_,_,rfl,rfl,_,_,rfl,rfl,_,_,rfl,rfl,_,_,rfl,rfl,_,_,rfl,rfl,_,_,rfl,rfl,_,_,rfl,rfl,rfl⟩,fun y hy=>?_⟩,_,_,rfl,rfl,rfl⟩
  simp only [List.mem_cons,List.not_mem_nil,or_false] at hy
  rcases hy with rfl | rfl | rfl | rfl | rfl | rfl | rfl<;>rfl
 refine Vway.chunk sC_ok (Q:=fun e F' S'=>e= .normal∧F'=[(9,.sl 0 v1 0 n),(10,.sl 1 v2 0 n),(29,.cst (.chan (some c)))]∧S'[0]?=some (.row v1 5 ((ms.set i (FM i)).flatMap encM))∧S'[1]?=some (.row v2 1 (codes.set i (.int .i64 0))))
  st' (Vc.relF_cons (tr _ _ r1) (Vc.relF_cons (tr _ _ r2) (Vc.relF_cons (by simp only [Vc.Rel];exact h3) (Vc.relF_cons hm30 Vc.relF_nil)))) h1 (by simp [base])
  (vcC hi l1 l2 (Vc.has_pair _ _) fun X S' hS=>⟨rfl,rfl,hS.get,(hS.eq (m':=Vc.pt 1 _+(Vc.pt 0 _+X)) (by ac_rfl)).get⟩) ?_
 rintro e F' T' E' fz' a' v'' ⟨rfl,rfl,hS0,hS1⟩ ext st'' hrel hsz hdf hkeep
 have e9:=hrel 9
 have e10:=hrel 10
 have e29:=hrel 29
 simp only [Vc.Frame.get,Nat.beq] at e9 e10 e29
 simp only [Vc.Rel] at e29
 refine hend a' v'' ⟨hsz,hdf.trans h2,e29,E',fz',v1,v2,_,_,st''.pick2 hS0 hS1 (by decide),e9,e10,by simpa using l1,by simpa using l2,fun j hj=>?_,fun k hk=>?_,fun ad y q=>?_⟩
 ·by_cases e:i=j
  ·subst e;rw [List.getElem?_set_self (by omega)]
  ·rw [List.getElem?_set_ne e];exact hz j hj
 ·rcases hk with hk | rfl
  ·obtain ⟨q1,q2,q3⟩:=hx k hk
   refine ⟨q1,q2,?_⟩
   by_cases e:i=k-1
   ·subst e;rw [List.getElem?_set_self (by omega)]
   ·rw [List.getElem?_set_ne e];exact q3
  ·exact ⟨by omega,by omega,by rw [Nat.add_sub_cancel,List.getElem?_set_self (by omega)]⟩
 ·obtain ⟨q1,q2,q3⟩:=hc ad y q
  obtain ⟨b,o,s⟩:=ad
  simp only at q1 q2
  subst q1
  have hb:Vc.restF E [.row v1 5 (ms.flatMap encM),.row v2 1 codes] v' b:=⟨by rw [hu.size];exact st.fzlt b q2,fun ⟨l,hl⟩=>(st.own_lt hl).2 q2⟩
  exact ⟨rfl,ext.frz b hb,by rw [Vc.cell_of_heap (st'.fz_keep ext b hb)];exact hu.cell q3⟩
theorem recv_loop {cs:List Frame} (hn:n≤40)
  (hend: ∀(a:Act) (v:World) todo,a.defers=[]→a.tmps.getD 5 undef= .int .i64 0→Vc.FlatAt v n (((List.range n).map FM).flatMap flatM) (a.tmps.getD 4 undef)→(∀ad x,C ad x→v.cell? ad=some x)→
   Vway Try.prog (crewM Wg c n (OkM FM) Fin).cm (crewM Wg c n (OkM FM) Fin).F (G {(base 21).at a todo with mode:= .returning} cs) v):
  ∀(r:Nat) (Rem:List Nat) (X:Nat→Prop),Rem.length≤r→(∀k,1≤k→k≤n→X k∨k∈Rem)→ ∀(a:Act) (v:World),LInv n c FM C X a v→
   Vway Try.prog (crewM Wg c n (OkM FM) Fin).cm ((crewM Wg c n (OkM FM) Fin).R r X) (G ((base 21).at a [.code eLoop,.inLoop eLoop,.inBlock 2,.code eTail]) cs) v:=by
 intro r
 induction r with
 | zero=>
  intro Rem X hR hX a v hI
  simp only [eLoop]
  have B:= @cm_back (crewM Wg c n (OkM FM) Fin) ((crewM Wg c n (OkM FM) Fin).R 0 X) v
  refine B.seq ?_
  refine B.region ?_
  simp only [eOps14,id_eq,List.size_toArray,List.length_cons,List.length_nil,Nat.reduceAdd,Nat.zero_add,List.range,List.range.loop]
  refine .stop fun v₁ h₁=>⟨_,⟨rfl,rfl,fun w _=>recv_at (c:=c) (x:= .tmp 29) (a:=a) rfl rfl (by simp [base]) rfl (show a.eval (.tmp 29)=_ from hI.2.2.1) Try.runUnderlying79 Try.zeroValue82 w⟩,fun v₂ h₂=>?_⟩
  rw [served_G]
  generalize hmz:(Value.tuple #[_,Value.bool false])=mz
  have hI2:=((hI.itf h₁).itf h₂).put (t:=30) (y:=mz) (by decide) (by decide) (by decide)
  have hs:30<a.tmps.size:=by rw [hI.1];decide
  have ev:(a.put (some 30) mz).eval (.tmp 30)=_:=eval_put hs
  refine cm_back.value (v:= .bool false) rfl rfl (by simp [base]) (fun w hw=>?_) (fun w hw=>?_) ?_
  ·show (execOp (Act.eval (a.put (some 30) _)) _).run _ w=_
   subst hmz
   simp [execOp,Instr.extract,ev]
  ·show (execOp (Act.eval (a.put (some 30) _)) _).events _ w #[]=_
   subst hmz
   simp [execOp,Instr.extract,ev]
  have hI3:=hI2.put (t:=31) (y:= .bool false) (by decide) (by decide) (by decide)
  have hs2:31<(a.put (some 30) mz).tmps.size:=by rw [hI2.1];decide
  refine cm_back.rend ?_
  refine cm_back.seq ?_
  refine cm_back.condF (eval_put hs2) ?_
  refine cm_back.exit rfl ?_
  refine tail_walk hn (fun k h1 h2=>(hX k h1 h2).resolve_right fun h=>?_) hI3 hend
  have:Rem=[]:=List.length_eq_zero_iff.1 (by omega)
  rw [this] at h
  cases h
 | succ r ih=>
  intro Rem X hR hX a v hI
  have hE: ∃L,L=eLoop:=⟨_,rfl⟩
  obtain ⟨L,hL⟩:=hE
  rw [show Item.inLoop eLoop=Item.inLoop L by rw [hL]]
  simp only [eLoop]
  have B:= @cm_back (crewM Wg c n (OkM FM) Fin) ((crewM Wg c n (OkM FM) Fin).R (r+1) X) v
  refine B.seq ?_
  refine B.region ?_
  simp only [eOps14,id_eq,List.size_toArray,List.length_cons,List.length_nil,Nat.reduceAdd,Nat.zero_add,List.range,List.range.loop]
  refine .stop fun v₁ h₁=>⟨_,⟨rfl,rfl,fun w _=>recv_at (c:=c) (x:= .tmp 29) (a:=a) rfl rfl (by simp [base]) rfl (show a.eval (.tmp 29)=_ from hI.2.2.1) Try.runUnderlying79 Try.zeroValue82 w⟩,fun v₂ h₂ k hk1 hk2 hXk v' val hu hg=>?_⟩
  obtain ⟨i,rfl⟩: ∃i,k=i+1:=⟨k-1,by omega⟩
  have hk2:i+1≤n:=hk2
  obtain ⟨vk,hok,hsz,hcell⟩:=hg
  have hok:val=msg i (FM i):=by
   have h:val=msg ((i+1-1:Nat):Int) (FM (i+1-1)):=hok
   rw [Nat.add_sub_cancel] at h;exact h
  subst hok
  rw [served_G]
  have hI2:=((hI.itf h₁).itf h₂).put (t:=30) (y:= .tuple #[msg i (FM i),.bool true]) (by decide) (by decide) (by decide)
  have hs:30<a.tmps.size:=by rw [hI.1];decide
  have ev:(a.put (some 30) (.tuple #[msg i (FM i),.bool true])).eval (.tmp 30)=_:=eval_put hs
  refine cm_back.value (v:= .bool true) rfl rfl (by simp [base]) (fun w hw=>?_) (fun w hw=>?_) ?_
  ·show (execOp (Act.eval (a.put (some 30) _)) _).run _ w=_
   simp [execOp,Instr.extract,ev]
  ·show (execOp (Act.eval (a.put (some 30) _)) _).events _ w #[]=_
   simp [execOp,Instr.extract,ev]
  have hI3:=hI2.put (t:=31) (y:= .bool true) (by decide) (by decide) (by decide)
  have hs2:31<(a.put (some 30) (.tuple #[msg i (FM i),.bool true])).tmps.size:=by rw [hI2.1];decide
  refine cm_back.rend ?_
  refine cm_back.seq ?_
  refine cm_back.condT (eval_put hs2) ?_
  refine cm_back.skip ?_
  refine cm_back.block ?_
  refine msg_walk (i:=i) (by omega) hI3 hu ?_ fun a' v'' hI'=>?_
  ·show ((a.put (some 30) _).put (some 31) _).tmps.getD 30 undef=_
   rw [getD_put_ne (by decide),getD_put_eq hs]
  refine (@cm_back (crewM Wg c n (OkM FM) Fin) _ _).inBlock ?_
  rw [hL]
  refine (@cm_back (crewM Wg c n (OkM FM) Fin) _ _).inLoop ?_
  refine ih (Rem.erase (i+1)) _ ?_ (fun k h1 h2=>?_) a' v'' hI'
  ·have hm:(i+1)∈Rem:=(hX _ hk1 hk2).resolve_left hXk
   rw [List.length_erase_of_mem hm];omega
  ·by_cases e:k=i+1
   ·exact .inl (.inr e)
   ·rcases hX k h1 h2 with q | q
    ·exact .inl (.inl q)
    ·exact .inr ((List.mem_erase_of_ne e).2 q)
theorem each_recv {cb:Nat} {y:Array Value} {cs:List Frame} (hn:n≤40) (hy:y.size=56) (h0:y.getD 0 undef= .int .i64 n) (h6:y.getD 6 undef= .pointer (some ⟨cb,0,none⟩)) (hs:Seen C v) (hcb:C ⟨cb,0,none⟩ (.chan (some c)))
  (hend: ∀(a:Act) (v:World) todo,a.defers=[]→a.tmps.getD 5 undef= .int .i64 0→Vc.FlatAt v n (((List.range n).map FM).flatMap flatM) (a.tmps.getD 4 undef)→(∀ad x,C ad x→v.cell? ad=some x)→
   Vway Try.prog (crewM Wg c n (OkM FM) Fin).cm (crewM Wg c n (OkM FM) Fin).F (G {(base 21).at a todo with mode:= .returning} cs) v):
  Vway Try.prog (crewM Wg c n (OkM FM) Fin).cm ((crewM Wg c n (OkM FM) Fin).R n fun _=>False) (G ((base 21).at ⟨y,[]⟩ [.code eRest]) cs) v:=by
 have B:=fun S u=> @cm_back (crewM Wg c n (OkM FM) Fin) S u
 rw [eRest_eq]
 refine (B _ _).seq ?_
 have hr6:Vc.Rel Vc.noE (Vc.allF v) v (.rop [.cst (.chan (some c))]) (y.getD 6 undef):=by
  rw [h6]
  simp only [Vc.Rel,Vc.RelC]
  exact ⟨cb,0,hs.lt hcb,rfl,⟨_,hs.cell _ _ hcb,rfl,rfl⟩,trivial⟩
 refine Vway.chunk sA_ok (Q:=fun e F' S'=>e= .normal∧ ∃l1 v1 l2 v2,F'=[(6,.rop [.cst (.chan (some c))]),(9,.sl l1 v1 0 n),(10,.sl l2 v2 0 n)]∧S'[l1]?=some (.row v1 5 ((List.replicate n zeroM).flatMap encM))∧S'[l2]?=some (.row v2 1 (List.replicate n (.int .i64 0)))∧l1≠l2)
  (Vc.st_all v) (Vc.relF_cons (show Vc.Rel Vc.noE (Vc.allF v) v (.int .i64 n) (y.getD 0 undef) by simp only [Vc.Rel];exact h0) (Vc.relF_cons hr6 Vc.relF_nil)) hy (by simp [base]) (vcA hn fun l1 v1 l2 v2 S' hS=>⟨rfl,l1,v1,l2,v2,rfl,hS.get,hS.comm.get,?_⟩) ?_
 ·exact Vc.has_ne (hS.eq (m':=Vc.pt l1 _+(Vc.pt l2 _+Vc.HM.nil)) (by rw [Vc.HM.add_nil]))
 rintro e F' T' E' fz' a' v' ⟨rfl,l1,v1,l2,v2,rfl,hS1,hS2,hne⟩ ext st' hrel hsz hdf hkeep
 have e6:=hrel 6
 have e9:=hrel 9
 have e10:=hrel 10
 simp only [Vc.Frame.get,Nat.beq] at e6 e9 e10
 refine (B _ _).seq ?_
 refine (B _ _).seq ?_
 refine Vway.chunk sB_ok (Q:=fun e F' S'=>e= .normal∧F'=[(9,.sl 0 v1 0 n),(10,.sl 1 v2 0 n),(29,.cst (.chan (some c)))]∧S'=[.row v1 5 ((List.replicate n zeroM).flatMap encM),.row v2 1 (List.replicate n (.int .i64 0))])
  (st'.pick2 hS1 hS2 hne) (Vc.relF_cons e6 (Vc.relF_cons (x:= .sl 0 v1 0 n) (by simpa only [Vc.Rel] using e9) (Vc.relF_cons (x:= .sl 1 v2 0 n) (by simpa only [Vc.Rel] using e10) Vc.relF_nil))) hsz (by simp [base]) (vcB ⟨rfl,rfl,rfl⟩) ?_
 rintro e F2 T2 E2 fz2 a2 v'' ⟨rfl,rfl,rfl⟩ ext2 st2 hrel2 hsz2 hdf2 hkeep2
 have g9:=hrel2 9
 have g10:=hrel2 10
 have g29:=hrel2 29
 simp only [Vc.Frame.get,Nat.beq] at g9 g10 g29
 simp only [Vc.Rel] at g29
 refine (B _ _).block ?_
 refine (B _ _).loop ?_
 refine recv_loop hn hend n ((List.range n).map (· +1)) _ (by simp) (fun k h1 h2=>.inr (List.mem_map.2 ⟨k-1,List.mem_range.2 (by omega),by omega⟩)) a2 v'' ⟨hsz2,hdf2.trans hdf,g29,E2,fz2,v1,v2,_,_,st2,g9,g10,by simp,by simp,fun i hi=>by simp [hi],fun k h=>h.elim,fun ad x q=>?_⟩
 have q1:=hs.plain ad x q
 have q2:=hs.lt q
 have q3:=hs.cell ad x q
 obtain ⟨b,o,s⟩:=ad
 simp only at q1 q2
 subst q1
 exact ⟨rfl,ext2.frz b (ext.frz b q2),by rw [Vc.cell_of_heap ((st'.pick2 hS1 hS2 hne).fz_keep ext2 b (ext.frz b q2)),Vc.cell_of_heap ((Vc.st_all v).fz_keep ext b q2)];exact q3⟩
end
end Go.Proofs.Pl
end
section
namespace Go.Proofs.Pl
open Go.Conc Go.Vk Go.RowKit
theorem ends_crew {Wg c n:Nat} {Ok:Nat→Value→World→Prop} {Fin:Value→Prop}:EndsIn Try.prog Fin (crewM Wg c n Ok Fin).cm (crewM Wg c n Ok Fin).F:=⟨rfl,fun g v h=>.stop fun v₁ h₁=>h v₁ h₁⟩
def EachRes (n:Nat) (FM:Nat→Msr) (ms:List Msr) (e:Int):Prop:=(40<n∧ms=[]∧e=1)∨(n≤40∧ms=(List.range n).map FM∧e=0)
section
variable {n : Nat} {FM : Nat → Msr} {Fin : Value → Prop} {C : Addr → Value → Prop} {v : World}
set_option maxRecDepth 100000 in
set_option maxHeartbeats 4000000 in
theorem each_walk {caps:Array Value} {acaps:List Vc.AVal} {cs:List Frame} (hv:Seen C v) (hcap: ∀v₁,(∀a x,C a x→v₁.cell? a=some x)→Vc.RelL Vc.noE (Vc.allF v₁) v₁ acaps caps.toList)
  (hA:n≤40→ ∀i,i<n→Vc.ACalls Try.prog 22 ([.int .i64 (i:Int)]++acaps) [] fun r _=>r= .tup [.agg (encM (FM i)),.int .i64 0])
  (hend: ∀cx S,EndsIn Try.prog Fin cx S→ ∀(a:Act) (v:World) todo ms e,a.defers=[]→a.tmps.getD 5 undef= .int .i64 e→Vc.FlatAt v ms.length (ms.flatMap flatM) (a.tmps.getD 4 undef)→EachRes n FM ms e→(∀ad x,C ad x→v.cell? ad=some x)→
   Vway Try.prog cx S (G {(base 21).at a todo with mode:= .returning} cs) v):
  Vway Try.prog alone (SoloStop Try.prog Fin) (G ((base 21).at ⟨#[.int .i64 n,.func (.func 22) #[] caps,undef,undef,undef,undef,undef,undef,undef,undef,undef,undef,undef,undef,undef,undef,undef,undef,undef,undef,undef,undef,undef,undef,undef,undef,undef,undef,undef,undef,undef,undef,undef,undef,undef,undef,undef,undef,undef,undef,undef,undef,undef,undef,undef,undef,undef,undef,undef,undef,undef,undef,undef,undef,undef,undef],[]⟩ [.code eBody]) cs) v:=by
 by_cases hn:n≤40
 ·refine each_start hn (Ok:=fun _ _=>OkM FM) (fun wg cn k val v v' hr h=>h) rfl hv (fun wg cn wb cb i ib vc hi hC hwb hcb hib=>worker41 (m:=FM i) hwb hib hcb (hcap vc hC) (hA hn i hi) fun v₂=>?_)
   (fun wg cn wb cb y v hy h0 h6 hs=>each_recv hn hy h0 h6 hs (.inr ⟨rfl,rfl⟩) fun a v todo hd h5 hr hc=>hend _ _ ends_crew a v todo _ 0 hd h5 (by simpa using hr) (.inr ⟨hn,rfl,rfl⟩) fun ad x q=>hc ad x (.inl (.inl q)))
  show msg i (FM i)=msg ((i+1-1:Nat):Int) (FM (i+1-1))
  rw [Nat.add_sub_cancel]
 ·have B:=fun u=> @alone_back Try.prog (SoloStop Try.prog Fin) u
  rw [eBody_eq]
  simp only [eBodyQ]
  refine (B v).seq ?_
  refine (B v).region ?_
  simp only [eOps0,id_eq,List.size_toArray,List.length_cons,List.length_nil,Nat.reduceAdd,Nat.zero_add,List.range,List.range.loop]
  refine Vway.boxz rfl rfl (by simp [base]) rfl rfl fun v₁ h₁=>?_
  walk_nrm
  have hs1:=(hv.itf h₁).push (o:= .cells (Value.func (.func 22) #[] caps).cells 54)
  generalize ({v₁ with heap:=v₁.heap.push (.cells (Value.func (.func 22) #[] caps).cells 54)}:World)=w1 at*
  refine (B _).value rfl rfl (by simp [base]) (fun w hw=>by go_simp<;>rfl) (fun w hw=>rfl) ?_
  walk_nrm
  refine (B _).value rfl rfl (by simp [base]) (fun w hw=>by go_simp<;>rfl) (fun w hw=>rfl) ?_
  walk_nrm
  refine (B _).rend ?_
  refine (B _).seq ?_
  refine (B _).seq ?_
  refine (B _).region ?_
  simp only [eOps1,id_eq,List.size_toArray,List.length_cons,List.length_nil,Nat.reduceAdd,Nat.zero_add,List.range,List.range.loop]
  refine (B _).value rfl rfl (by simp [base]) (fun w hw=>by go_simp<;>rfl) (fun w hw=>rfl) ?_
  walk_nrm
  refine (B _).value rfl rfl (by simp [base]) (fun w hw=>by go_simp<;>rfl) (fun w hw=>by simp [go_sem]) ?_
  walk_nrm
  refine (B _).rend ?_
  refine (B _).condT (by simp [Act.eval];omega) ?_
  refine (B _).seq ?_
  refine (B _).region ?_
  simp only [eOps2,id_eq,List.size_toArray,List.length_cons,List.length_nil,Nat.reduceAdd,Nat.zero_add,List.range,List.range.loop]
  refine (B _).value rfl rfl (by simp [base]) (fun w hw=>by go_simp<;>rfl) (fun w hw=>rfl) ?_
  walk_nrm
  refine (B _).value rfl rfl (by simp [base]) (fun w hw=>by go_simp<;>rfl) (fun w hw=>rfl) ?_
  walk_nrm
  refine (B _).rend ?_
  refine (B _).ret ?_
  exact hend _ _ ends_alone _ w1 _ [] 1 rfl rfl (.inl ⟨rfl,none,0,rfl⟩) (.inl ⟨by omega,rfl,rfl⟩) fun ad x q=>hs1.cell ad x q
end
def C0 (v0:World) (a:Addr) (x:Value):Prop:=a.spot=none∧v0.cell? a=some x
theorem C0.all {v0 v:World} (h: ∀a x,C0 v0 a x→v.cell? a=some x): ∀b o z,v0.cell? ⟨b,o,none⟩=some z→v.cell? ⟨b,o,none⟩=some z:=fun b o z q=>h _ _ ⟨rfl,q⟩
end Go.Proofs.Pl
end
section
set_option maxRecDepth 100000
namespace Go.Proofs.Ytpbbahplbgmbcaa.K
open Go.Vc
abbrev f_ref_CrewPlaces:Nat:=12
abbrev f_crew_Places_1:Nat:=22
abbrev f_pos_Of:Nat:=23
abbrev f_poly_Of:Nat:=24
abbrev f_pos_Join:Nat:=25
abbrev f_poly_Join:Nat:=26
abbrev f_ref_PosOf:Nat:=27
abbrev f_ref_PolyOf:Nat:=28
abbrev f_strings_Count:Nat:=43
abbrev f_strings_LastIndexByte:Nat:=44
abbrev f_pos_May:Nat:=45
abbrev f_poly_May:Nat:=46
abbrev f_unicode_utf8_RuneCountInString:Nat:=68
abbrev f_strings_Index:Nat:=70
abbrev f_internal_bytealg_LastIndexByteString:Nat:=71
def crew_Places_1_c:SCode:=
 (.seq (.ops [⟨(some 3),.alloc 0 [(.int .i64 0),(.int .i64 0),(.int .i64 0),(.int .i64 0),(.int .i64 0)],none,false,[]⟩,
  ⟨(some 4),.mov (.c (.int .i64 0)),none,false,[]⟩] none [0,1,3])
 (.seq (.ops [⟨(some 5),.load 1 false (.t 1),none,false,[]⟩,
  ⟨(some 6),.mov (.t 0),none,false,[]⟩,
  ⟨(some 7),.iaddr 1 none (.t 5) (.t 6),none,false,[]⟩,
  ⟨(some 8),.load 1 false (.t 7),none,false,[]⟩,
  ⟨(some 10),.load 1 false (.t 1),none,false,[]⟩,
  ⟨(some 11),.mov (.t 0),none,false,[]⟩,
  ⟨(some 12),.iaddr 1 none (.t 10) (.t 11),none,false,[]⟩,
  ⟨(some 13),.load 1 false (.t 12),none,false,[]⟩,
  ⟨(some 9),.call f_pos_Of [(.t 8)],none,false,[]⟩,
  ⟨(some 14),.call f_poly_Of [(.t 13)],none,false,[]⟩,
  ⟨(some 15),.build [(.int .i64 0),(.int .i64 0),(.int .i64 0),(.int .i64 0),(.int .i64 0)] [(0,3,(.t 9)),(3,2,(.t 14))],none,false,[]⟩,
  ⟨none,.store 5 (.t 3) (.t 15),none,false,[]⟩,
  ⟨(some 4),.mov (.c (.int .i64 0)),none,false,[]⟩] (some (9,0,[0,1,2,3,5,6,7,8,4,9,10,11,12])) [3,4])
 .ret))
def crew_Places_1_r:List RRes:=[.cell 3 5 true,.tmp 4]
def crew_Places_1_hi:Hi:=⟨[(3,(.st (.cons (.st (.cons (.int .i64) (.cons (.int .i64) (.cons (.int .i64) .nil)))) (.cons (.st (.cons (.int .i64) (.cons (.int .i64) .nil))) .nil))))],[(0, "i"),(2, "i")]⟩
def crew_Places_1_an:An:= .d
def crew_Places_1_fi:Fi:=⟨16,crew_Places_1_c,crew_Places_1_r,crew_Places_1_an,crew_Places_1_hi,none⟩
theorem crew_Places_1_ok:FiOk Try.prog f_crew_Places_1 crew_Places_1_fi:=
 ⟨fun _=>by kernel_rfl,fun _ h hlen=>fun_sound (by kernel_rfl) (fn:=Try.f22) (draw_sound _ _) Try.func22 rfl (by kernel_rfl:comp Try.prog 16 _ crew_Places_1_c=some crew_Places_1_c) (by kernel_rfl:cRes Try.prog Try.f22.results.toList=some crew_Places_1_r) hlen h,fun _ h=>nomatch h⟩
def ref_CrewPlaces_c:SCode:=
 (.seq (.ops [⟨(some 2),.mov (.c .nils),none,false,[]⟩,
  ⟨(some 3),.mov (.c .nils),none,false,[]⟩,
  ⟨(some 4),.mov (.c (.int .i64 0)),none,false,[]⟩] none [0])
 (.seq (.seq (.ops [⟨(some 10),.mov (.t 0),none,false,[]⟩,
  ⟨(some 11),.len false (.t 10),none,false,[]⟩,
  ⟨(some 12),.bin .none .gtr (.t 11) (.c (.int .i64 40)),none,false,[]⟩] none [0,12])
 (.cond (.t 12)
  (.seq (.ops [⟨(some 2),.mov (.c .nils),none,false,[]⟩,
   ⟨(some 3),.mov (.c .nils),none,false,[]⟩,
   ⟨(some 4),.mov (.c (.int .i64 1)),none,false,[]⟩] none [2,3,4])
  .ret)
  .skip))
 (.seq (.ops [⟨(some 5),.mov (.c (.str [])),none,false,[]⟩] none [0,5])
 (.seq (.ops [⟨(some 6),.newnil 3,none,false,[]⟩] none [0,5,6])
 (.seq (.ops [⟨(some 7),.newnil 2,none,false,[]⟩] none [0,5,6,7])
 (.seq (.seq (.ops [⟨(some 13),.mov (.t 0),none,false,[]⟩,
  ⟨(some 14),.len false (.t 13),none,false,[]⟩,
  ⟨(some 15),.mov (.c (.int .i64 0)),none,false,[]⟩] none [5,6,7,13,14,15])
 (.block 0 (.loop [13,14] [5,6,7,15] 2
  (.seq (.ops [⟨(some 16),.bin .none .lss (.t 15) (.t 14),none,false,[]⟩] none [5,6,7,13,14,15,16])
  (.seq (.cond (.t 16)
   .skip
   (.exit 0))
  (.seq (.block 1 (.seq (.ops [⟨(some 17),.iaddr 1 none (.t 13) (.t 15),none,false,[]⟩,
   ⟨(some 18),.load 1 false (.t 17),none,false,[]⟩,
   ⟨(some 9),.mov (.t 18),none,false,[]⟩] none [5,6,7,9,13,14,15])
  (.seq (.ops [⟨(some 19),.mov (.t 5),none,false,[]⟩,
   ⟨(some 20),.mov (.t 9),none,false,[]⟩,
   ⟨(some 21),.bin .none .add (.t 19) (.t 20),none,false,[]⟩,
   ⟨(some 5),.mov (.t 21),none,false,[]⟩] none [5,6,7,13,14,15])
  (.seq (.ops [⟨(some 22),.mov (.t 6),none,false,[]⟩,
   ⟨(some 23),.mov (.t 5),none,false,[]⟩,
   ⟨(some 24),.call f_ref_PosOf [(.t 23)],none,false,[]⟩,
   ⟨(some 25),.bslice true 1 3 [(.int .i64 0),(.int .i64 0),(.int .i64 0)] [(0,3,(.t 24))],none,false,[]⟩,
   ⟨(some 26),.append 3 24 (.t 22) (.t 25),none,false,[]⟩,
   ⟨(some 6),.mov (.t 26),none,false,[]⟩] none [5,6,7,13,14,15])
  (.ops [⟨(some 27),.mov (.t 7),none,false,[]⟩,
   ⟨(some 28),.mov (.t 5),none,false,[]⟩,
   ⟨(some 29),.call f_ref_PolyOf [(.t 28)],none,false,[]⟩,
   ⟨(some 30),.bslice true 1 2 [(.int .i64 0),(.int .i64 0)] [(0,2,(.t 29))],none,false,[]⟩,
   ⟨(some 31),.append 2 16 (.t 27) (.t 30),none,false,[]⟩,
   ⟨(some 7),.mov (.t 31),none,false,[]⟩] none [5,6,7,13,14,15])))))
  (.ops [⟨(some 32),.bin .none .add (.t 15) (.c (.int .i64 1)),none,false,[]⟩,
   ⟨(some 15),.mov (.t 32),none,false,[]⟩] none [5,6,7,13,14,15])))))))
 (.seq (.ops [⟨(some 33),.mov (.t 6),none,false,[]⟩,
  ⟨(some 34),.mov (.t 7),none,false,[]⟩,
  ⟨(some 2),.mov (.t 33),none,false,[]⟩,
  ⟨(some 3),.mov (.t 34),none,false,[]⟩,
  ⟨(some 4),.mov (.c (.int .i64 0)),none,false,[]⟩] none [2,3,4])
 .ret)))))))
def ref_CrewPlaces_r:List RRes:=[.tmp 2,.tmp 3,.tmp 4]
def ref_CrewPlaces_hi:Hi:=⟨[(6,(.st (.cons (.int .i64) (.cons (.int .i64) (.cons (.int .i64) .nil))))),(7,(.st (.cons (.int .i64) (.cons (.int .i64) .nil)))),(25,(.st (.cons (.int .i64) (.cons (.int .i64) (.cons (.int .i64) .nil))))),(26,(.st (.cons (.int .i64) (.cons (.int .i64) (.cons (.int .i64) .nil))))),(30,(.st (.cons (.int .i64) (.cons (.int .i64) .nil)))),(31,(.st (.cons (.int .i64) (.cons (.int .i64) .nil))))],[(0, "texts"),(1, "texts"),(5, "all"),(6, "ps"),(7, "hs"),(9, "s")]⟩
def ref_CrewPlaces_an:An:=(.seq .d (.seq .d (.seq .d (.seq .d (.seq .d (.seq (.seq .d (.loop [6,7] [] [] .d)) .d))))))
def ref_CrewPlaces_fi:Fi:=⟨35,ref_CrewPlaces_c,ref_CrewPlaces_r,ref_CrewPlaces_an,ref_CrewPlaces_hi,none⟩
theorem ref_CrewPlaces_ok:FiOk Try.prog f_ref_CrewPlaces ref_CrewPlaces_fi:=
 ⟨fun _=>by kernel_rfl,fun _ h hlen=>fun_sound (by kernel_rfl) (fn:=Try.f12) (draw_sound _ _) Try.func12 rfl (by kernel_rfl:comp Try.prog 35 _ ref_CrewPlaces_c=some ref_CrewPlaces_c) (by kernel_rfl:cRes Try.prog Try.f12.results.toList=some ref_CrewPlaces_r) hlen h,fun _ h=>nomatch h⟩
end Go.Proofs.Ytpbbahplbgmbcaa.K
end
section
namespace Go.Fu
open Go.Vc
@[simp] theorem prod_eta {α β : Type} (p : α × β) : (p.1, p.2) = p := rfl
@[simp] theorem bo_true {p : Prop} : (bo p = true) ↔ p := by simp [bo]
@[simp] theorem bo_false {p : Prop} : (bo p = false) ↔ ¬ p := by simp [bo]
@[simp] theorem true_bo {p : Prop} : (true = bo p) ↔ p := by rw [eq_comm]; simp
@[simp] theorem false_bo {p : Prop} : (false = bo p) ↔ ¬ p := by rw [eq_comm]; simp
@[simp] theorem bo_eq_bo {p q : Prop} : (bo p = bo q) ↔ (p ↔ q) := by
 rw [Bool.eq_iff_iff];simp
@[simp] theorem bo_bool {b : Bool} : bo (b = true) = b := by rw [Bool.eq_iff_iff]; simp
section
variable {α : Type} [Inhabited α] {l m : List α} {i j : Int} {n : Nat} {a : α}
theorem gt_in (h0:0≤i) (h1:i<l.length):gt l i=l[i.toNat]'(by omega):=by
 simp [gt,List.getD_eq_getElem?_getD,List.getElem?_eq_getElem (show i.toNat<l.length by omega)]
theorem gt_get? (h0:0≤i) (h1:i<l.length):l[i.toNat]?=some (gt l i):=by
 rw [gt_in h0 h1,List.getElem?_eq_getElem]
theorem take_gt (h0:0≤i) (h1:i<l.length):l.take (i+1).toNat=l.take i.toNat++[gt l i]:=by
 rw [gt_in h0 h1,show (i+1).toNat=i.toNat+1 by omega,List.take_succ_eq_append_getElem]
theorem drop_gt (h0:0≤i) (h1:i<l.length):l.drop i.toNat=gt l i::l.drop (i+1).toNat:=by
 rw [gt_in h0 h1,show (i+1).toNat=i.toNat+1 by omega,List.drop_eq_getElem_cons]
end
theorem byte_lt (b:UInt8):(b.toNat:Int)<256:=by have:=b.toNat_lt;omega
theorem byte_nn (b:UInt8):0≤(b.toNat:Int):=by omega
end Go.Fu
end
section
namespace Go.Fu
open Go.Vc
noncomputable section
abbrev tI:Ty:= .int .i64
abbrev tHash:Ty:= .st (.cons tI (.cons tI .nil))
abbrev tPos:Ty:= .st (.cons tI (.cons tI (.cons tI .nil)))
abbrev tys1 (a:Ty):Tys:= .cons a .nil
abbrev tys2 (a b:Ty):Tys:= .cons a (.cons b .nil)
abbrev Bytes:=List UInt8
abbrev fitS (s:List UInt8):Prop:=s.length≤140737488351232
theorem inI_iff {n:Int}:inI64 n↔ -9223372036854775808≤n∧n≤9223372036854775807:=Iff.rfl
def polyOk (h:Int×Int):Prop:=0≤h.1∧h.1<2147483647∧0<h.2∧h.2<2147483647
instance (h:Int×Int):Decidable (polyOk h):=by unfold polyOk;infer_instance
def poly_May_ct:Ct:=⟨tys1 tHash,[.val .bool],fun _=>True,fun h=>bo (polyOk h)⟩
def polyJoin (a b:Int×Int):(Int×Int)×Int:=
 if polyOk a∧polyOk b then (((a.1*b.2+b.1)%2147483647,(a.2*b.2)%2147483647),0) else ((0,0),4)
def poly_Join_ct:Ct:=⟨tys2 tHash tHash,[.val tHash,.val tI],fun _=>True,fun x=>polyJoin x.1 x.2⟩
def polyStep (h:Int×Int) (c:UInt8):Int×Int:=((h.1*257+c.toNat+1)%2147483647,h.2*257%2147483647)
def polyOf (s:Bytes):Int×Int:=s.foldl polyStep (0,1)
def poly_Of_ct:Ct:=⟨tys1 .str,[.val tHash],fun s=>fitS s,fun s=>polyOf s⟩
def ref_PolyOf_ct:Ct:=poly_Of_ct
def posOk (p:Int×Int×Int):Prop:=0≤p.1∧p.1≤1099511627776∧0≤p.2.1∧p.2.1≤1099511627776∧0≤p.2.2∧p.2.2≤1099511627776∧p.2.1+p.2.2≤p.1∧(0<p.2.1∨p.2.2=p.1)
instance (p:Int×Int×Int):Decidable (posOk p):=by unfold posOk;infer_instance
def pos_May_ct:Ct:=⟨tys1 tPos,[.val .bool],fun _=>True,fun p=>bo (posOk p)⟩
def posAdd (a b:Int×Int×Int):Int×Int×Int:=(a.1+b.1,a.2.1+b.2.1,if b.2.1=0 then a.2.2+b.2.2 else b.2.2)
def posJoin (a b:Int×Int×Int):(Int×Int×Int)×Int:=
 if posOk a∧posOk b∧posOk (posAdd a b) then (posAdd a b,0) else ((0,0,0),4)
def pos_Join_ct:Ct:=⟨tys2 tPos tPos,[.val tPos,.val tI],fun _=>True,fun x=>posJoin x.1 x.2⟩
end
end Go.Fu
end
section
namespace Go.Fu
open Go.Vc
theorem mulB {a d:Int} (h1:0≤a) (h2:a<2147483647) (h3:0≤d) (h4:d<2147483647):0≤a*d∧a*d≤4611686009837453316:=by
 refine ⟨Int.mul_nonneg h1 h3,?_⟩
 have:=Int.mul_le_mul (show a≤2147483646 by omega) (show d≤2147483646 by omega) h3 (by omega)
 omega
theorem polyOf_snoc (s:Bytes) (c:UInt8):polyOf (s++[c])=polyStep (polyOf s) c:=by simp [polyOf]
theorem polyStep_bd (h:Int×Int) (c:UInt8):0≤(polyStep h c).1∧(polyStep h c).1<2147483647∧0≤(polyStep h c).2∧(polyStep h c).2<2147483647:=by
 simp only [polyStep]
 omega
theorem snoc_cases {α:Type} (s:List α):s=[]∨ ∃t c,s=t++[c]:=by
 rcases List.eq_nil_or_concat s with h | ⟨t,c,h⟩
 ·exact .inl h
 ·exact .inr ⟨t,c,by simpa using h⟩
theorem polyOf_bd (s:Bytes):0≤(polyOf s).1∧(polyOf s).1<2147483647∧0≤(polyOf s).2∧(polyOf s).2<2147483647:=by
 rcases snoc_cases s with rfl | ⟨t,c,rfl⟩
 ·simp [polyOf]
 ·rw [polyOf_snoc];exact polyStep_bd _ _
theorem snoc_rec {α:Type} {P:List α→Prop} (h0:P []) (h1: ∀s c,P s→P (s++[c])) (s:List α):P s:=by
 have: ∀n (s:List α),s.length=n→P s:=by
  intro n
  induction n with
  | zero=>intro s hs;rw [List.length_eq_zero_iff.1 hs];exact h0
  | succ n ih=>
   intro s hs
   rcases snoc_cases s with rfl | ⟨t,c,rfl⟩
   ·simp at hs
   ·exact h1 _ _ (ih t (by simpa using hs))
 exact this _ s rfl
theorem poly_from (v w:Int): ∀s:Bytes,s≠[]→s.foldl polyStep (v,w)=((v*(polyOf s).2+(polyOf s).1)%2147483647,(w*(polyOf s).2)%2147483647):=by
 intro s
 induction s using snoc_rec with
 | h0=>intro h;exact absurd rfl h
 | h1 s c ih=>
  intro _
  rw [List.foldl_append,polyOf_snoc]
  simp only [List.foldl_cons,List.foldl_nil]
  by_cases hs:s=[]
  ·subst hs
   simp only [List.foldl_nil,polyStep,polyOf]
   refine Prod.ext ?_ ?_<;>simp only
   ·omega
   ·omega
  ·rw [ih hs]
   simp only [polyStep]
   generalize (polyOf s).2=S
   generalize (polyOf s).1=V
   have e1:v*(S*257%2147483647)=257*(v*S)-2147483647*(v*(S*257/2147483647)):=by
    have:S*257%2147483647=S*257-2147483647*(S*257/2147483647):=by omega
    rw [this,Int.mul_sub]
    have a1:v*(S*257)=257*(v*S):=by rw [←Int.mul_assoc,Int.mul_comm]
    have a2:v*(2147483647*(S*257/2147483647))=2147483647*(v*(S*257/2147483647)):=Int.mul_left_comm _ _ _
    rw [a1,a2]
   have e2:w*(S*257%2147483647)=257*(w*S)-2147483647*(w*(S*257/2147483647)):=by
    have:S*257%2147483647=S*257-2147483647*(S*257/2147483647):=by omega
    rw [this,Int.mul_sub]
    have a1:w*(S*257)=257*(w*S):=by rw [←Int.mul_assoc,Int.mul_comm]
    have a2:w*(2147483647*(S*257/2147483647))=2147483647*(w*(S*257/2147483647)):=Int.mul_left_comm _ _ _
    rw [a1,a2]
   rw [e1,e2]
   generalize v*S=A
   generalize v*(S*257/2147483647)=B
   generalize w*S=C
   generalize w*(S*257/2147483647)=D
   refine Prod.ext ?_ ?_<;>simp only
   ·omega
   ·omega
theorem polyOf_cons (c:UInt8) (s:Bytes):polyOf (c::s)=((((c.toNat:Int)+1)*(polyOf s).2+(polyOf s).1)%2147483647,(polyOf s).2*257%2147483647):=by
 by_cases hs:s=[]
 ·subst hs;simp only [polyOf,List.foldl_cons,List.foldl_nil,polyStep]
  refine Prod.ext (by simp only;omega) rfl
 ·have e:polyOf (c::s)=s.foldl polyStep ((c.toNat:Int)+1,257):=by
   simp only [polyOf,List.foldl_cons,polyStep]
   have:=byte_lt c
   congr 1
   refine Prod.ext ?_ ?_<;>simp only
   ·omega
   ·omega
  rw [e,poly_from _ _ s hs,Int.mul_comm 257]
theorem byte10 {b:UInt8}:((b.toNat:Int)=10)↔b=10:=by
 constructor
 ·intro h
  exact UInt8.toNat_inj.1 (show b.toNat=(10:UInt8).toNat by have:(10:UInt8).toNat=10:=rfl;omega)
 ·intro h;subst h;rfl
section
variable {k : Int → Int} {a x b hi : Int}
end
end Go.Fu
end
section
namespace Go.Fu
open Go.Vc
end Go.Fu
end
section
namespace Go.Fu
open Go.Vc
noncomputable section
end
end Go.Fu
end
section
namespace Go.Fu
open Go.Vc
noncomputable section
def posStep (p:Int×Int×Int) (c:UInt8):Int×Int×Int:=if c=10 then (p.1+1,p.2.1+1,0) else (p.1+1,p.2.1,p.2.2+1)
def posOf (s:Bytes):Int×Int×Int:=s.foldl posStep (0,0,0)
def pos_Of_ct:Ct:=⟨tys1 .str,[.val tPos],fun s=>fitS s,fun s=>posOf s⟩
def ref_PosOf_ct:Ct:=pos_Of_ct
theorem posOf_snoc (s:Bytes) (c:UInt8):posOf (s++[c])=posStep (posOf s) c:=by simp [posOf]
theorem posOf_succ {s:Bytes} {i:Int} (h0:0≤i) (h1:i<s.length):posOf (s.take (i+1).toNat)=posStep (posOf (s.take i.toNat)) (gt s i):=by
 rw [take_gt h0 h1,posOf_snoc]
theorem posOf_bd (s:Bytes):(posOf s).1=s.length∧0≤(posOf s).2.1∧0≤(posOf s).2.2∧(posOf s).2.1+(posOf s).2.2≤s.length∧((posOf s).2.1=0→(posOf s).2.2=s.length):=by
 induction s using snoc_rec with
 | h0=>simp [posOf]
 | h1 s c ih=>
  rw [posOf_snoc]
  simp only [posStep,List.length_append,List.length_cons,List.length_nil]
  split<;>simp only<;>omega
theorem posOf_from {s:Bytes} {i:Int} (h0:0≤i): ∀(n:Nat),i+n≤s.length→(∀j,i≤j→j<i+n→gt s j≠10)→posOf (s.take (i+n).toNat)=((posOf (s.take i.toNat)).1+n,(posOf (s.take i.toNat)).2.1,(posOf (s.take i.toNat)).2.2+n)
 | 0,h1,h2=>by simp
 | n+1,h1,h2=>by
  have ih:=posOf_from h0 n (by omega) fun j a b=>h2 j a (by omega)
  rw [show i+((n+1:Nat):Int)=(i+n)+1 by omega,posOf_succ (by omega) (by omega),ih]
  simp only [posStep]
  rw [if_neg (h2 _ (by omega) (by omega))]
  refine Prod.ext ?_ (Prod.ext ?_ ?_)<;>simp only<;>omega
end
end Go.Fu
end
section
namespace Go.Fu
open Go.Vc
inductive Rp where
 | leaf (s:Bytes)
 | node (a b:Rp)
def Rp.txt:Rp→Bytes
 | .leaf s=>s
 | .node a b=>a.txt++b.txt
def Rp.deep:Rp→Nat
 | .leaf _=>1
 | .node a b=>max a.deep b.deep+1
def Rp.bal:Rp→Prop
 | .leaf s=>s≠[]
 | .node a b=>a.bal∧b.bal∧a.deep≤b.deep+1∧b.deep≤a.deep+1
end Go.Fu
end
section
namespace Go.Fu
open Go.Vc
abbrev Ro:=Option Rp
def txtO:Ro→Bytes
 | none=>[]
 | some r=>r.txt
def balO:Ro→Prop
 | none=>True
 | some r=>r.bal
theorem posOf_app (s t:Bytes):posOf (s++t)=posAdd (posOf s) (posOf t):=by
 induction t using snoc_rec with
 | h0=>simp [posOf,posAdd]
 | h1 t c ih=>
  rw [←List.append_assoc,posOf_snoc,ih,posOf_snoc]
  simp only [posAdd,posStep]
  have hb:=posOf_bd t
  split
  ·rename_i e
   refine Prod.ext (by simp only;omega) (Prod.ext (by simp only;omega) ?_)
   simp only
   rw [if_neg (by omega)]
  ·rename_i e
   refine Prod.ext (by simp only;omega) (Prod.ext (by simp only) ?_)
   simp only
   split<;>first | rfl | omega
theorem posOk_of {s:Bytes} (h:s.length≤1099511627776):posOk (posOf s):=by
 have:=posOf_bd s
 unfold posOk;omega
theorem posJoin_of {s t:Bytes} (h:s.length+t.length≤1099511627776):posJoin (posOf s) (posOf t)=(posOf (s++t),0):=by
 unfold posJoin
 rw [if_pos ⟨posOk_of (by omega),posOk_of (by omega),by rw [←posOf_app];exact posOk_of (by simp;omega)⟩,posOf_app]
theorem shift_pos (s:Bytes):0<(polyOf s).2:=by
 induction s using snoc_rec with
 | h0=>simp [polyOf]
 | h1 s c ih=>
  rw [polyOf_snoc]
  have hb:=polyOf_bd s
  simp only [polyStep]
  have h0:0≤(polyOf s).2*257%2147483647:=Int.emod_nonneg _ (by decide)
  rcases Int.lt_or_eq_of_le h0 with h | h
  ·exact h
  ·exfalso
   have d:(2147483647:Int) ∣ (polyOf s).2*257:=Int.dvd_of_emod_eq_zero h.symm
   have d':(2147483647:Nat) ∣ (polyOf s).2.toNat*257:=by
    have:(((polyOf s).2.toNat*257:Nat):Int)=(polyOf s).2*257:=by rw [Int.natCast_mul,Int.toNat_of_nonneg (by omega)];rfl
    rw [←this] at d
    exact Int.natCast_dvd_natCast.1 d
   have:=Nat.Coprime.dvd_of_dvd_mul_right (show Nat.Coprime 2147483647 257 by decide) d'
   have:=Nat.le_of_dvd (by omega) this
   omega
theorem polyOk_of (s:Bytes):polyOk (polyOf s):=by
 have:=polyOf_bd s
 have:=shift_pos s
 unfold polyOk;omega
theorem polyJoin_of (s t:Bytes):polyJoin (polyOf s) (polyOf t)=(polyOf (s++t),0):=by
 unfold polyJoin
 rw [if_pos ⟨polyOk_of s,polyOk_of t⟩]
 by_cases ht:t=[]
 ·subst ht
  have:=polyOf_bd s
  simp only [List.append_nil]
  refine Prod.ext (Prod.ext ?_ ?_) rfl
  ·simp only [polyOf,List.foldl_nil] at*;omega
  ·simp only [polyOf,List.foldl_nil] at*;omega
 ·have:=poly_from (polyOf s).1 (polyOf s).2 t ht
  have e:polyOf (s++t)=t.foldl polyStep (polyOf s):=by simp [polyOf]
  rw [e,show polyOf s=((polyOf s).1,(polyOf s).2) from rfl,this]
abbrev Op:=Int×Bytes×Int×Int×Int×Int
def opThere (n:Nat) (i:Int):Prop:=0≤i∧i<n
instance (n:Nat) (i:Int):Decidable (opThere n i):=by unfold opThere;infer_instance
structure ROk (all:List Ro):Prop where
 bal: ∀r∈all,balO r
 len: ∀r∈all,(txtO r).length≤600
 few:all.length≤60
noncomputable section
end
end Go.Fu
end
section
namespace Go.Fu
open Go.Vc
noncomputable section
theorem posOf_count (s:Bytes):(posOf s).2.1=(s.count 10:Int):=by
 induction s using snoc_rec with
 | h0=>simp [posOf]
 | h1 s c ih=>
  rw [posOf_snoc,List.count_append,List.count_singleton]
  simp only [posStep,beq_iff_eq]
  split<;>simp only<;>omega
theorem posOf_none {s:Bytes} (h: ∀j:Int,0≤j→j<s.length→gt s j≠10):(posOf s).2.2=s.length:=by
 have:=posOf_from (s:=s) (i:=0) (by omega) s.length (by omega) fun j a b=>h j a (by omega)
 rw [List.take_of_length_le (by omega)] at this
 rw [this]
 simp [posOf]
theorem posOf_last {s:Bytes} {i:Int} (h0:0≤i) (h1:i<s.length) (h:gt s i=10) (hn: ∀j:Int,i<j→j<s.length→gt s j≠10):(posOf s).2.2=s.length-i-1:=by
 have:=posOf_from (s:=s) (i:=i+1) (by omega) (s.length-i-1).toNat (by omega) fun j a b=>hn j (by omega) (by omega)
 rw [List.take_of_length_le (by omega),posOf_succ h0 h1] at this
 rw [this]
 simp only [posStep,if_pos h]
 omega
theorem ten_iff {c:UInt8}:(c.toNat:Int)=10↔c=10:=by
 rw [←UInt8.toNat_inj]
 simp only [UInt8.reduceToNat]
 omega
end
end Go.Fu
end
section
namespace Go.Fu
abbrev PosT:=Int×Int×Int
abbrev HashT:=Int×Int
def upTo1 (ts:List Bytes) (j:Nat):Bytes:=(ts.take j).flatten
def psUp (ts:List Bytes) (j:Nat):List PosT:=(List.range j).map fun i=>posOf (upTo1 ts (i+1))
def hsUp (ts:List Bytes) (j:Nat):List HashT:=(List.range j).map fun i=>polyOf (upTo1 ts (i+1))
theorem upTo1_succ {ts:List Bytes} {j:Nat} {t:Bytes} (h:ts[j]?=some t):upTo1 ts (j+1)=upTo1 ts j++t:=by
 unfold upTo1
 rw [List.take_add_one,h];simp
theorem upTo1_zero (ts:List Bytes):upTo1 ts 0=[]:=by simp [upTo1]
theorem upTo1_len (ts:List Bytes) (j:Nat):(upTo1 ts j).length≤ts.flatten.length:=by
 unfold upTo1
 have:ts.flatten=(ts.take j).flatten++(ts.drop j).flatten:=by rw [←List.flatten_append,List.take_append_drop]
 rw [this];simp
theorem text_len {ts:List Bytes} {j:Nat} {t:Bytes} (h:ts[j]?=some t):t.length≤ts.flatten.length:=by
 have h1:=upTo1_len ts (j+1)
 rw [upTo1_succ h] at h1
 simp at h1 ⊢;omega
theorem psUp_succ (ts:List Bytes) (j:Nat):psUp ts (j+1)=psUp ts j++[posOf (upTo1 ts (j+1))]:=by
 simp [psUp,List.range_succ]
theorem hsUp_succ (ts:List Bytes) (j:Nat):hsUp ts (j+1)=hsUp ts j++[polyOf (upTo1 ts (j+1))]:=by
 simp [hsUp,List.range_succ]
theorem psUp_len (ts:List Bytes) (j:Nat):(psUp ts j).length=j:=by simp [psUp]
theorem hsUp_len (ts:List Bytes) (j:Nat):(hsUp ts j).length=j:=by simp [hsUp]
def placesSays (ts:List Bytes):List PosT×List HashT×Int:=if 40<ts.length then ([],[],1) else (psUp ts ts.length,hsUp ts ts.length,0)
end Go.Fu
end
section
set_option maxRecDepth 100000
namespace Go.Proofs.Ytpbbahplbgmbcaa.K
open Go.Vc Go.Fu
abbrev strs (l:List Bytes):List AVal:=l.map .str
theorem str_at {l:List Bytes} {i:Nat} {t:Bytes} (h:l[i]?=some t):takeN 1 ((strs l).drop (i*1))=some [.str t]:=by
 rw [Nat.mul_one]
 obtain ⟨hlt,h⟩:=List.getElem?_eq_some_iff.1 h
 rw [List.drop_eq_getElem_cons (by simpa using hlt)]
 simp [takeN,h]
def encP (p:PosT):List AVal:=[.int .i64 p.1,.int .i64 p.2.1,.int .i64 p.2.2]
def encH (h:HashT):List AVal:=[.int .i64 h.1,.int .i64 h.2]
theorem flatP_len (l:List PosT):(l.flatMap encP).length=l.length*3:=flatMap_length (enc:=encP) (k:=3) (fun _=>rfl) l
theorem flatH_len (l:List HashT):(l.flatMap encH).length=l.length*2:=flatMap_length (enc:=encH) (k:=2) (fun _=>rfl) l
theorem plain_use {f:FuncId} {args:Tys} {t:Ty} {pre:Ts args→Prop} {fn:Ts args→T t} (h:Con Try.prog f ⟨args,[.val t],pre,fn⟩) (x:Ts args) (hx:pre x):RC Try.prog f (encAs args x) (encA t (fn x)):=by
 refine ACallsMono (h.2 x hx) fun r S' hr=>?_
 obtain ⟨ys,h1,rfl⟩:=hr
 obtain ⟨ys',rfl,rfl,_⟩:=h1
 rfl
theorem pos_use {f:FuncId} (hP:Con Try.prog f pos_Of_ct) {s:Bytes} (h:s.length≤140737488351232):RC Try.prog f [.str s] (.agg (encP (posOf s))):=plain_use hP s h
theorem poly_use {f:FuncId} (hP:Con Try.prog f poly_Of_ct) {s:Bytes} (h:s.length≤140737488351232):RC Try.prog f [.str s] (.agg (encH (polyOf s))):=plain_use hP s h
theorem places1_walk (hP:Con Try.prog f_pos_Of pos_Of_ct) (hH:Con Try.prog f_poly_Of poly_Of_ct) {texts:List Bytes} {t:Bytes} {i:Nat} (hi:texts[i]?=some t) (ht0:t.length≤140737488351232):
  RC Try.prog f_crew_Places_1 [.int .i64 (i:Int),.rop [.ros texts.length (strs texts)]] (.tup [.agg (encP (posOf t)++encH (polyOf t)),.int .i64 0]):=by
 refine RC.val ?_
 intro S mf hS
 refine crew_Places_1_ok.out rfl ?_ (by simp [crew_Places_1_fi])
 unfold vcFun crew_Places_1_fi
 dsimp only
 unfold crew_Places_1_c
 dsimp only [argF]
 have ht:=str_at hi
 have hlt:i<texts.length:=(List.getElem?_eq_some_iff.1 hi).1
 repeat (with_reducible first | refine c_seq ?_ | refine on_n ?_ | refine c_skip ?_ | refine c_block ?_ | refine on_r ?_ | refine c_ret ?_ | refine c_exit ?_ | refine on_e ?_ | refine ob_e ?_ | refine ob_n ?_ | refine ob_r ?_ | refine ob_x rfl ?_)
 refine c_ops ?_
 refine r_op (o_alloc hS fun v3 l3 S hS=>s_no ?_)
 try dsimp only [putF,rd,Frame.get]
 refine r_op (o_mov (s_no ?_))
 try dsimp only [putF,rd,Frame.get]
 refine r_nil (c_keep ?_)
 try dsimp only [List.map]
 try dsimp only [putF,rd,Frame.get]
 repeat (with_reducible first | refine c_seq ?_ | refine on_n ?_ | refine c_skip ?_ | refine c_block ?_ | refine on_r ?_ | refine c_ret ?_ | refine c_exit ?_ | refine on_e ?_ | refine ob_e ?_ | refine ob_n ?_ | refine ob_r ?_ | refine ob_x rfl ?_)
 refine c_opsD0 hS fun S hS=>?_
 first | refine d_op (q_op rfl (o_load hS rfl rfl rfl rfl (s_no ?_))) | refine d_op (q_op rfl (o_load hS rfl rfl (by assumption) rfl (s_no ?_))) | refine d_op (q_op rfl (o_loadR rfl rfl rfl (s_no ?_))) | refine d_op (q_op rfl (o_loadR rfl (by assumption) rfl (s_no ?_)))
 try dsimp only [putF,rd,Frame.get]
 refine d_op (q_op rfl (o_mov (s_no ?_)))
 try dsimp only [putF,rd,Frame.get]
 first | refine d_op (q_op rfl (o_iaddr hS rfl rfl rfl (by omega) (s_no ?_))) | refine d_op (q_op rfl (o_iaddr0 hS rfl rfl rfl (by omega) (s_no ?_))) | refine d_op (q_op rfl (o_iaddrR rfl rfl (by omega) (by assumption) (s_no ?_))) | refine d_op (q_op rfl (o_iaddrA rfl rfl (by omega) (s_no ?_))) | refine d_op (q_op rfl (o_iaddrAR rfl rfl (by omega) (s_no ?_)))
 try dsimp only [putF,rd,Frame.get]
 try simp only [Nat.zero_mul,Nat.mul_zero,Nat.mul_one,Nat.add_zero,Nat.zero_add,Nat.sub_zero,Nat.reduceAdd,Nat.reduceMul]
 first | refine d_op (q_op rfl (o_load hS rfl rfl rfl rfl (s_no ?_))) | refine d_op (q_op rfl (o_load hS rfl rfl (by assumption) rfl (s_no ?_))) | refine d_op (q_op rfl (o_loadR rfl rfl rfl (s_no ?_))) | refine d_op (q_op rfl (o_loadR rfl (by assumption) rfl (s_no ?_)))
 try dsimp only [putF,rd,Frame.get]
 first | refine d_op (q_op rfl (o_load hS rfl rfl rfl rfl (s_no ?_))) | refine d_op (q_op rfl (o_load hS rfl rfl (by assumption) rfl (s_no ?_))) | refine d_op (q_op rfl (o_loadR rfl rfl rfl (s_no ?_))) | refine d_op (q_op rfl (o_loadR rfl (by assumption) rfl (s_no ?_)))
 try dsimp only [putF,rd,Frame.get]
 refine d_op (q_op rfl (o_mov (s_no ?_)))
 try dsimp only [putF,rd,Frame.get]
 first | refine d_op (q_op rfl (o_iaddr hS rfl rfl rfl (by omega) (s_no ?_))) | refine d_op (q_op rfl (o_iaddr0 hS rfl rfl rfl (by omega) (s_no ?_))) | refine d_op (q_op rfl (o_iaddrR rfl rfl (by omega) (by assumption) (s_no ?_))) | refine d_op (q_op rfl (o_iaddrA rfl rfl (by omega) (s_no ?_))) | refine d_op (q_op rfl (o_iaddrAR rfl rfl (by omega) (s_no ?_)))
 try dsimp only [putF,rd,Frame.get]
 try simp only [Nat.zero_mul,Nat.mul_zero,Nat.mul_one,Nat.add_zero,Nat.zero_add,Nat.sub_zero,Nat.reduceAdd,Nat.reduceMul]
 first | refine d_op (q_op rfl (o_load hS rfl rfl rfl rfl (s_no ?_))) | refine d_op (q_op rfl (o_load hS rfl rfl (by assumption) rfl (s_no ?_))) | refine d_op (q_op rfl (o_loadR rfl rfl rfl (s_no ?_))) | refine d_op (q_op rfl (o_loadR rfl (by assumption) rfl (s_no ?_)))
 try dsimp only [putF,rd,Frame.get]
 refine d_op (q_call _ (ACalls.det (pos_use hP ht0)) ?_)
 refine s_no ?_
 try dsimp only [putF,rd,Frame.get]
 refine d_zero ?_
 refine r_op (o_call ?_)
 dsimp only [List.map,putF,rd,Frame.get]
 refine (poly_use hH ht0).use ?_
 refine s_no ?_
 try dsimp only [putF,rd,Frame.get]
 refine r_op (o_build rfl (s_no ?_))
 try dsimp only [putF,rd,Frame.get,setCells,over]
 first | refine r_op (o_store hS rfl rfl rfl rfl (by simp) fun S hS=>s_no ?_) | refine r_op (o_store hS rfl rfl rfl rfl (by assumption) fun S hS=>s_no ?_)
 try dsimp only [putF,rd,Frame.get]
 try dsimp only [putF,rd,Frame.get,setCells,over] at hS
 refine r_op (o_mov (s_no ?_))
 try dsimp only [putF,rd,Frame.get]
 refine r_nil (c_keep ?_)
 try dsimp only [List.map]
 try dsimp only [putF,rd,Frame.get]
 repeat (with_reducible first | refine c_seq ?_ | refine on_n ?_ | refine c_skip ?_ | refine c_block ?_ | refine on_r ?_ | refine c_ret ?_ | refine c_exit ?_ | refine on_e ?_ | refine ob_e ?_ | refine ob_n ?_ | refine ob_r ?_ | refine ob_x rfl ?_)
 try dsimp only
 unfold crew_Places_1_r
 refine w_cell hS rfl rfl rfl rfl (w_tmp (w_nil ?_))
 try dsimp only [retV,Frame.get]
 rw [HM.nil_add] at hS
 exact ⟨_,rfl,hS⟩
theorem pts_snoc (l:List PosT) (p:PosT):l.flatMap encP++encP p=(l++[p]).flatMap encP:=by simp
theorem hts_snoc (l:List HashT) (p:HashT):l.flatMap encH++encH p=(l++[p]).flatMap encH:=by simp
theorem rplaces_walk (hP:Con Try.prog f_ref_PosOf ref_PosOf_ct) (hH:Con Try.prog f_ref_PolyOf ref_PolyOf_ct) {texts:List Bytes} (hl:texts.length≤140737488351232) (hf:texts.flatten.length≤1048576):
  HC Try.prog f_ref_CrewPlaces [.ros texts.length (strs texts)] HM.nil fun r m'=>(40<texts.length∧r= .tup [.nils,.nils,.int .i64 1])∨(¬40<texts.length∧
   ∃p1 v1 p2 v2 X,r= .tup [.sl p1 v1 0 texts.length,.sl p2 v2 0 texts.length,.int .i64 0]∧m'=pt p1 (.row v1 3 ((psUp texts texts.length).flatMap encP))+(pt p2 (.row v2 2 ((hsUp texts texts.length).flatMap encH))+X)):=by
 intro S mf hS
 refine ref_CrewPlaces_ok.out rfl ?_ (by simp [ref_CrewPlaces_fi])
 unfold vcFun ref_CrewPlaces_fi
 dsimp only
 unfold ref_CrewPlaces_c
 dsimp only [argF]
 repeat (with_reducible first | refine c_seq ?_ | refine on_n ?_ | refine c_skip ?_ | refine c_block ?_ | refine on_r ?_ | refine c_ret ?_ | refine c_exit ?_ | refine on_e ?_ | refine ob_e ?_ | refine ob_n ?_ | refine ob_r ?_ | refine ob_x rfl ?_)
 refine c_ops ?_
 refine r_op (o_mov (s_no ?_))
 try dsimp only [putF,rd,Frame.get]
 refine r_op (o_mov (s_no ?_))
 try dsimp only [putF,rd,Frame.get]
 refine r_op (o_mov (s_no ?_))
 try dsimp only [putF,rd,Frame.get]
 refine r_nil (c_keep ?_)
 try dsimp only [List.map]
 try dsimp only [putF,rd,Frame.get]
 repeat (with_reducible first | refine c_seq ?_ | refine on_n ?_ | refine c_skip ?_ | refine c_block ?_ | refine on_r ?_ | refine c_ret ?_ | refine c_exit ?_ | refine on_e ?_ | refine ob_e ?_ | refine ob_n ?_ | refine ob_r ?_ | refine ob_x rfl ?_)
 refine c_ops ?_
 refine r_op (o_mov (s_no ?_))
 try dsimp only [putF,rd,Frame.get]
 refine r_op (o_len rfl (s_no ?_))
 try dsimp only [putF,rd,Frame.get]
 refine r_op (o_bin rfl (by first | trivial | (unfold inI64;omega)) (s_no ?_))
 try dsimp only [putF,rd,Frame.get]
 refine r_nil (c_keep ?_)
 try dsimp only [List.map]
 try dsimp only [putF,rd,Frame.get]
 repeat (with_reducible first | refine c_seq ?_ | refine on_n ?_ | refine c_skip ?_ | refine c_block ?_ | refine on_r ?_ | refine c_ret ?_ | refine c_exit ?_ | refine on_e ?_ | refine ob_e ?_ | refine ob_n ?_ | refine ob_r ?_ | refine ob_x rfl ?_)
 refine c_dec rfl (fun hc=>?_) (fun hc=>?_)
 ·repeat (with_reducible first | refine c_seq ?_ | refine on_n ?_ | refine c_skip ?_ | refine c_block ?_ | refine on_r ?_ | refine c_ret ?_ | refine c_exit ?_ | refine on_e ?_ | refine ob_e ?_ | refine ob_n ?_ | refine ob_r ?_ | refine ob_x rfl ?_)
  refine c_ops ?_
  refine r_op (o_mov (s_no ?_))
  try dsimp only [putF,rd,Frame.get]
  refine r_op (o_mov (s_no ?_))
  try dsimp only [putF,rd,Frame.get]
  refine r_op (o_mov (s_no ?_))
  try dsimp only [putF,rd,Frame.get]
  refine r_nil (c_keep ?_)
  try dsimp only [List.map]
  try dsimp only [putF,rd,Frame.get]
  repeat (with_reducible first | refine c_seq ?_ | refine on_n ?_ | refine c_skip ?_ | refine c_block ?_ | refine on_r ?_ | refine c_ret ?_ | refine c_exit ?_ | refine on_e ?_ | refine ob_e ?_ | refine ob_n ?_ | refine ob_r ?_ | refine ob_x rfl ?_)
  try dsimp only
  unfold ref_CrewPlaces_r
  refine w_tmp (w_tmp (w_tmp (w_nil ?_)))
  try dsimp only [retV,Frame.get]
  exact ⟨HM.nil,.inl ⟨by omega,rfl⟩,hS⟩
 have h40: ¬40<texts.length:=by omega
 repeat (with_reducible first | refine c_seq ?_ | refine on_n ?_ | refine c_skip ?_ | refine c_block ?_ | refine on_r ?_ | refine c_ret ?_ | refine c_exit ?_ | refine on_e ?_ | refine ob_e ?_ | refine ob_n ?_ | refine ob_r ?_ | refine ob_x rfl ?_)
 refine c_ops ?_
 refine r_op (o_mov (s_no ?_))
 try dsimp only [putF,rd,Frame.get]
 refine r_nil (c_keep ?_)
 try dsimp only [List.map]
 try dsimp only [putF,rd,Frame.get]
 repeat (with_reducible first | refine c_seq ?_ | refine on_n ?_ | refine c_skip ?_ | refine c_block ?_ | refine on_r ?_ | refine c_ret ?_ | refine c_exit ?_ | refine on_e ?_ | refine ob_e ?_ | refine ob_n ?_ | refine ob_r ?_ | refine ob_x rfl ?_)
 refine c_ops ?_
 refine r_op (o_newnil hS fun v6 l6 S hS=>s_no ?_)
 try dsimp only [putF,rd,Frame.get]
 refine r_nil (c_keep ?_)
 try dsimp only [List.map]
 try dsimp only [putF,rd,Frame.get]
 repeat (with_reducible first | refine c_seq ?_ | refine on_n ?_ | refine c_skip ?_ | refine c_block ?_ | refine on_r ?_ | refine c_ret ?_ | refine c_exit ?_ | refine on_e ?_ | refine ob_e ?_ | refine ob_n ?_ | refine ob_r ?_ | refine ob_x rfl ?_)
 refine c_ops ?_
 refine r_op (o_newnil hS fun v7 l7 S hS=>s_no ?_)
 try dsimp only [putF,rd,Frame.get]
 refine r_nil (c_keep ?_)
 try dsimp only [List.map]
 try dsimp only [putF,rd,Frame.get]
 repeat (with_reducible first | refine c_seq ?_ | refine on_n ?_ | refine c_skip ?_ | refine c_block ?_ | refine on_r ?_ | refine c_ret ?_ | refine c_exit ?_ | refine on_e ?_ | refine ob_e ?_ | refine ob_n ?_ | refine ob_r ?_ | refine ob_x rfl ?_)
 refine c_ops ?_
 refine r_op (o_mov (s_no ?_))
 try dsimp only [putF,rd,Frame.get]
 refine r_op (o_len rfl (s_no ?_))
 try dsimp only [putF,rd,Frame.get]
 refine r_op (o_mov (s_no ?_))
 try dsimp only [putF,rd,Frame.get]
 refine r_nil (c_keep ?_)
 try dsimp only [List.map]
 try dsimp only [putF,rd,Frame.get]
 repeat (with_reducible first | refine c_seq ?_ | refine on_n ?_ | refine c_skip ?_ | refine c_block ?_ | refine on_r ?_ | refine c_ret ?_ | refine c_exit ?_ | refine on_e ?_ | refine ob_e ?_ | refine ob_n ?_ | refine ob_r ?_ | refine ob_x rfl ?_)
 refine c_loop (fun k xs S=> ∃(j p1 v1 p2 v2:Nat),xs=[.str (upTo1 texts j),.sl p1 v1 0 j,.sl p2 v2 0 j,.int .i64 (j:Int)]∧j≤texts.length∧k=texts.length-j∧
  Has S (pt p1 (.row v1 3 ((psUp texts j).flatMap encP))+(pt p2 (.row v2 2 ((hsUp texts j).flatMap encH))+(HM.nil+mf)))) texts.length ⟨0,_,_,_,_,by rw [upTo1_zero];rfl,Nat.zero_le _,rfl,hS.eq (by simp only [psUp,hsUp,List.range_zero,List.map_nil,List.flatMap_nil];ac_rfl)⟩ ?_
 clear hS
 rintro k xs S-⟨j,p1,v1,p2,v2,rfl,hj,rfl,hS⟩
 dsimp only [zipF,List.map,Frame.get]
 have hl1:=flatP_len (psUp texts j)
 have hl2:=flatH_len (hsUp texts j)
 rw [psUp_len] at hl1
 rw [hsUp_len] at hl2
 repeat (with_reducible first | refine c_seq ?_ | refine on_n ?_ | refine c_skip ?_ | refine c_block ?_ | refine on_r ?_ | refine c_ret ?_ | refine c_exit ?_ | refine on_e ?_ | refine ob_e ?_ | refine ob_n ?_ | refine ob_r ?_ | refine ob_x rfl ?_)
 refine c_ops ?_
 refine r_op (o_bin rfl (by first | trivial | (unfold inI64;omega)) (s_no ?_))
 try dsimp only [putF,rd,Frame.get]
 refine r_nil (c_keep ?_)
 try dsimp only [List.map]
 try dsimp only [putF,rd,Frame.get]
 repeat (with_reducible first | refine c_seq ?_ | refine on_n ?_ | refine c_skip ?_ | refine c_block ?_ | refine on_r ?_ | refine c_ret ?_ | refine c_exit ?_ | refine on_e ?_ | refine ob_e ?_ | refine ob_n ?_ | refine ob_r ?_ | refine ob_x rfl ?_)
 refine c_dec rfl (fun hlt=>?_) (fun hge=>?_)
 ·obtain ⟨t,hjt⟩: ∃t,texts[j]?=some t:=⟨_,List.getElem?_eq_getElem (by omega)⟩
  have ht:=str_at hjt
  have hu:=upTo1_succ hjt
  have hul:=upTo1_len texts (j+1)
  have hul2:=hul
  rw [hu,List.length_append] at hul2
  repeat (with_reducible first | refine c_seq ?_ | refine on_n ?_ | refine c_skip ?_ | refine c_block ?_ | refine on_r ?_ | refine c_ret ?_ | refine c_exit ?_ | refine on_e ?_ | refine ob_e ?_ | refine ob_n ?_ | refine ob_r ?_ | refine ob_x rfl ?_)
  refine c_ops ?_
  first | refine r_op (o_iaddr hS rfl rfl rfl (by omega) (s_no ?_)) | refine r_op (o_iaddr0 hS rfl rfl rfl (by omega) (s_no ?_)) | refine r_op (o_iaddrR rfl rfl (by omega) (by assumption) (s_no ?_)) | refine r_op (o_iaddrA rfl rfl (by omega) (s_no ?_)) | refine r_op (o_iaddrAR rfl rfl (by omega) (s_no ?_))
  try dsimp only [putF,rd,Frame.get]
  try simp only [Nat.zero_mul,Nat.mul_zero,Nat.mul_one,Nat.add_zero,Nat.zero_add,Nat.sub_zero,Nat.reduceAdd,Nat.reduceMul]
  first | refine r_op (o_load hS rfl rfl rfl rfl (s_no ?_)) | refine r_op (o_load hS rfl rfl (by assumption) rfl (s_no ?_)) | refine r_op (o_loadR rfl rfl rfl (s_no ?_)) | refine r_op (o_loadR rfl (by assumption) rfl (s_no ?_))
  try dsimp only [putF,rd,Frame.get]
  refine r_op (o_mov (s_no ?_))
  try dsimp only [putF,rd,Frame.get]
  refine r_nil (c_keep ?_)
  try dsimp only [List.map]
  try dsimp only [putF,rd,Frame.get]
  repeat (with_reducible first | refine c_seq ?_ | refine on_n ?_ | refine c_skip ?_ | refine c_block ?_ | refine on_r ?_ | refine c_ret ?_ | refine c_exit ?_ | refine on_e ?_ | refine ob_e ?_ | refine ob_n ?_ | refine ob_r ?_ | refine ob_x rfl ?_)
  refine c_ops ?_
  refine r_op (o_mov (s_no ?_))
  try dsimp only [putF,rd,Frame.get]
  refine r_op (o_mov (s_no ?_))
  try dsimp only [putF,rd,Frame.get]
  refine r_op (o_bin rfl (by first | trivial | (unfold inI64;omega)) (s_no ?_))
  try dsimp only [putF,rd,Frame.get]
  refine r_op (o_mov (s_no ?_))
  try dsimp only [putF,rd,Frame.get]
  refine r_nil (c_keep ?_)
  try dsimp only [List.map]
  try dsimp only [putF,rd,Frame.get]
  repeat (with_reducible first | refine c_seq ?_ | refine on_n ?_ | refine c_skip ?_ | refine c_block ?_ | refine on_r ?_ | refine c_ret ?_ | refine c_exit ?_ | refine on_e ?_ | refine ob_e ?_ | refine ob_n ?_ | refine ob_r ?_ | refine ob_x rfl ?_)
  rw [←hu]
  refine c_ops ?_
  refine r_op (o_mov (s_no ?_))
  try dsimp only [putF,rd,Frame.get]
  refine r_op (o_mov (s_no ?_))
  try dsimp only [putF,rd,Frame.get]
  refine r_op (o_call ?_)
  dsimp only [List.map,putF,rd,Frame.get]
  refine (pos_use hP (by omega)).use ?_
  refine s_no ?_
  try dsimp only [putF,rd,Frame.get]
  refine r_op (o_bsliceR rfl (s_no ?_))
  try dsimp only [putF,rd,Frame.get,setCells,over]
  try dsimp only [putF,rd,Frame.get,setCells,over] at hS
  refine r_op ?_
  refine o_appendX hS rfl (SrcOf.ros rfl) rfl hl1 (by omega) fun v' S hS=>?_
  refine s_no ?_
  try dsimp only [putF,rd,Frame.get]
  refine r_op (o_mov (s_no ?_))
  try dsimp only [putF,rd,Frame.get]
  refine r_nil (c_keep ?_)
  try dsimp only [List.map]
  try dsimp only [putF,rd,Frame.get]
  repeat (with_reducible first | refine c_seq ?_ | refine on_n ?_ | refine c_skip ?_ | refine c_block ?_ | refine on_r ?_ | refine c_ret ?_ | refine c_exit ?_ | refine on_e ?_ | refine ob_e ?_ | refine ob_n ?_ | refine ob_r ?_ | refine ob_x rfl ?_)
  refine c_ops ?_
  refine r_op (o_mov (s_no ?_))
  try dsimp only [putF,rd,Frame.get]
  refine r_op (o_mov (s_no ?_))
  try dsimp only [putF,rd,Frame.get]
  refine r_op (o_call ?_)
  dsimp only [List.map,putF,rd,Frame.get]
  refine (poly_use hH (by omega)).use ?_
  refine s_no ?_
  try dsimp only [putF,rd,Frame.get]
  refine r_op (o_bsliceR rfl (s_no ?_))
  try dsimp only [putF,rd,Frame.get,setCells,over]
  try dsimp only [putF,rd,Frame.get,setCells,over] at hS
  refine r_op ?_
  refine o_appendX hS rfl (SrcOf.ros rfl) rfl hl2 (by omega) fun v' S hS=>?_
  refine s_no ?_
  try dsimp only [putF,rd,Frame.get]
  refine r_op (o_mov (s_no ?_))
  try dsimp only [putF,rd,Frame.get]
  refine r_nil (c_keep ?_)
  try dsimp only [List.map]
  try dsimp only [putF,rd,Frame.get]
  repeat (with_reducible first | refine c_seq ?_ | refine on_n ?_ | refine c_skip ?_ | refine c_block ?_ | refine on_r ?_ | refine c_ret ?_ | refine c_exit ?_ | refine on_e ?_ | refine ob_e ?_ | refine ob_n ?_ | refine ob_r ?_ | refine ob_x rfl ?_)
  refine c_ops ?_
  refine r_op (o_bin rfl (by first | trivial | (unfold inI64;omega)) (s_no ?_))
  try dsimp only [putF,rd,Frame.get]
  refine r_op (o_mov (s_no ?_))
  try dsimp only [putF,rd,Frame.get]
  refine r_nil (c_keep ?_)
  try dsimp only [List.map]
  try dsimp only [putF,rd,Frame.get]
  repeat (with_reducible first | refine c_seq ?_ | refine on_n ?_ | refine c_skip ?_ | refine c_block ?_ | refine on_r ?_ | refine c_ret ?_ | refine c_exit ?_ | refine on_e ?_ | refine ob_e ?_ | refine ob_n ?_ | refine ob_r ?_ | refine ob_x rfl ?_)
  refine ⟨texts.length-(j+1),by omega,j+1,p1,_,p2,_,rfl,by omega,rfl,hS.eq ?_⟩
  rw [psUp_succ,hsUp_succ,←pts_snoc,←hts_snoc]
  rfl
 ·repeat (with_reducible first | refine c_seq ?_ | refine on_n ?_ | refine c_skip ?_ | refine c_block ?_ | refine on_r ?_ | refine c_ret ?_ | refine c_exit ?_ | refine on_e ?_ | refine ob_e ?_ | refine ob_n ?_ | refine ob_r ?_ | refine ob_x rfl ?_)
  refine c_ops ?_
  refine r_op (o_mov (s_no ?_))
  try dsimp only [putF,rd,Frame.get]
  refine r_op (o_mov (s_no ?_))
  try dsimp only [putF,rd,Frame.get]
  refine r_op (o_mov (s_no ?_))
  try dsimp only [putF,rd,Frame.get]
  refine r_op (o_mov (s_no ?_))
  try dsimp only [putF,rd,Frame.get]
  refine r_op (o_mov (s_no ?_))
  try dsimp only [putF,rd,Frame.get]
  refine r_nil (c_keep ?_)
  try dsimp only [List.map]
  try dsimp only [putF,rd,Frame.get]
  repeat (with_reducible first | refine c_seq ?_ | refine on_n ?_ | refine c_skip ?_ | refine c_block ?_ | refine on_r ?_ | refine c_ret ?_ | refine c_exit ?_ | refine on_e ?_ | refine ob_e ?_ | refine ob_n ?_ | refine ob_r ?_ | refine ob_x rfl ?_)
  try dsimp only
  unfold ref_CrewPlaces_r
  refine w_tmp (w_tmp (w_tmp (w_nil ?_)))
  try dsimp only [retV,Frame.get]
  obtain rfl:j=texts.length:=by omega
  exact ⟨_,.inr ⟨h40,p1,v1,p2,v2,HM.nil,rfl,rfl⟩,hS.eq (by ac_rfl)⟩
theorem deref_zero (S:Store) (xs:List AVal):xs.map (deref S 0)=xs:=by
 induction xs with
 | nil=>rfl
 | cons a xs ih=>rw [List.map_cons,ih];simp [deref]
theorem rplaces_rc (hP:Con Try.prog f_ref_PosOf ref_PosOf_ct) (hH:Con Try.prog f_ref_PolyOf ref_PolyOf_ct) {texts:List Bytes} (hl:texts.length≤140737488351232) (hf:texts.flatten.length≤1048576):
  RC Try.prog f_ref_CrewPlaces [.ros texts.length (strs texts)] (.tup [.ros (placesSays texts).1.length ((placesSays texts).1.flatMap encP),.ros (placesSays texts).2.1.length ((placesSays texts).2.1.flatMap encH),.int .i64 (placesSays texts).2.2]):=by
 refine RC.of 2 (rplaces_walk hP hH hl hf) fun r m' S' hr hS=>?_
 rcases hr with ⟨h1,rfl⟩ | ⟨h1,p1,v1,p2,v2,X,rfl,rfl⟩
 ·unfold placesSays
  rw [if_pos h1]
  simp [deref]
 ·have g1:=hS.get
  have g2:=(hS.eq (m':=pt p2 (.row v2 2 ((hsUp texts texts.length).flatMap encH))+(pt p1 (.row v1 3 ((psUp texts texts.length).flatMap encP))+X)) (by ac_rfl)).get
  unfold placesSays
  rw [if_neg h1]
  simp only [deref,List.map_cons,List.map_nil,g1,g2,if_true,List.drop_zero,deref_zero,List.map_id',psUp_len,hsUp_len]
end Go.Proofs.Ytpbbahplbgmbcaa.K
end
section
set_option maxRecDepth 100000
namespace Go.Proofs.Pl
open Go.Vc Go.Vk
open Go.Fu (Bytes PosT HashT posOf polyOf posJoin polyJoin upTo1 psUp hsUp placesSays psUp_succ hsUp_succ psUp_len hsUp_len upTo1_succ upTo1_len upTo1_zero text_len)
open Go.Proofs.Ytpbbahplbgmbcaa.K (strs encP encH flatP_len flatH_len pts_snoc hts_snoc pos_use poly_use)
noncomputable def pOps0:OpArr (regOf (cL (bodyOf Try.f11))):=by apply OpArr.mk;dsimp only [Try.f11,bodyOf,cL,cR,regOf]
noncomputable def pOps1:OpArr (regOf (cL (cR (bodyOf Try.f11)))):=by apply OpArr.mk;dsimp only [Try.f11,bodyOf,cL,cR,regOf]
noncomputable def pOps2:OpArr (regOf (cL (cR (cR (bodyOf Try.f11))))):=by apply OpArr.mk;dsimp only [Try.f11,bodyOf,cL,cR,regOf]
noncomputable def pOps3:OpArr (regOf (cL (cR (cR (cR (bodyOf Try.f11)))))):=by apply OpArr.mk;dsimp only [Try.f11,bodyOf,cL,cR,regOf]
noncomputable def pOps4:OpArr (regOf (cL (cR (cR (cR (cR (bodyOf Try.f11))))))):=by apply OpArr.mk;dsimp only [Try.f11,bodyOf,cL,cR,regOf]
noncomputable def pOps5:OpArr (regOf (cL (cL (cR (cR (cR (cR (cR (bodyOf Try.f11))))))))):=by apply OpArr.mk;dsimp only [Try.f11,bodyOf,cL,cR,regOf]
noncomputable def pOps6:OpArr (regOf (cL (cL (cL (cR (cL (cR (cR (cR (cR (cR (bodyOf Try.f11)))))))))))):=by apply OpArr.mk;dsimp only [Try.f11,bodyOf,cL,cR,regOf]
noncomputable def pOps7:OpArr (regOf (cL (cL (cL (cR (cR (cL (cL (cR (cL (cR (cR (cR (cR (cR (bodyOf Try.f11)))))))))))))))):=by apply OpArr.mk;dsimp only [Try.f11,bodyOf,cL,cR,regOf]
noncomputable def pOps8:OpArr (regOf (cL (cR (cL (cL (cR (cR (cL (cL (cR (cL (cR (cR (cR (cR (cR (bodyOf Try.f11))))))))))))))))):=by apply OpArr.mk;dsimp only [Try.f11,bodyOf,cL,cR,regOf]
noncomputable def pOps9:OpArr (regOf (cL (cR (cR (cL (cL (cR (cR (cL (cL (cR (cL (cR (cR (cR (cR (cR (bodyOf Try.f11)))))))))))))))))):=by apply OpArr.mk;dsimp only [Try.f11,bodyOf,cL,cR,regOf]
noncomputable def pOps10:OpArr (regOf (cR (cR (cR (cL (cL (cR (cR (cL (cL (cR (cL (cR (cR (cR (cR (cR (bodyOf Try.f11)))))))))))))))))):=by apply OpArr.mk;dsimp only [Try.f11,bodyOf,cL,cR,regOf]
noncomputable def pOps11:OpArr (regOf (cR (cR (cR (cL (cL (cR (cL (cR (cR (cR (cR (cR (bodyOf Try.f11)))))))))))))):=by apply OpArr.mk;dsimp only [Try.f11,bodyOf,cL,cR,regOf]
noncomputable def pOps12:OpArr (regOf (cL (cR (cR (cR (cR (cR (cR (bodyOf Try.f11))))))))):=by apply OpArr.mk;dsimp only [Try.f11,bodyOf,cL,cR,regOf]
noncomputable def pBody:Code:=
 (.seq (.region 0 pOps0.v false) (.seq (.region 1 pOps1.v false) (.seq (.region 2 pOps2.v false) (.seq (.region 3 pOps3.v false) (.seq (.region 4 pOps4.v false) (.seq (.seq (.region 5 pOps5.v false) (.block 0 (.loop (.seq (.region 6 pOps6.v false) (.seq (.cond (.tmp 25) .skip (.exit 0)) (.seq (.block 1 (.seq (.region 7 pOps7.v false) (.seq (.region 8 pOps8.v false) (.seq (.region 9 pOps9.v false) (.region 10 pOps10.v true))))) (.region 11 pOps11.v false))))))) (.seq (.region 12 pOps12.v false) .ret)))))))
theorem p_body:Try.f11.body=some pBody:=by rfl
noncomputable def qOps0:OpArr (regOf (cL (bodyOf Try.f5))):=by apply OpArr.mk;dsimp only [Try.f5,bodyOf,cL,cR,regOf]
noncomputable def qOps1:OpArr (regOf (cL (cR (bodyOf Try.f5)))):=by apply OpArr.mk;dsimp only [Try.f5,bodyOf,cL,cR,regOf]
noncomputable def qOps2:OpArr (regOf (cL (cR (cR (bodyOf Try.f5))))):=by apply OpArr.mk;dsimp only [Try.f5,bodyOf,cL,cR,regOf]
noncomputable def qOps3:OpArr (regOf (cL (cL (cR (cR (cR (bodyOf Try.f5))))))):=by apply OpArr.mk;dsimp only [Try.f5,bodyOf,cL,cR,regOf]
noncomputable def qOps4:OpArr (regOf (cL (cL (cR (cL (cR (cR (cR (bodyOf Try.f5))))))))):=by apply OpArr.mk;dsimp only [Try.f5,bodyOf,cL,cR,regOf]
noncomputable def qOps5:OpArr (regOf (cL (cL (cR (cR (cR (cR (bodyOf Try.f5)))))))):=by apply OpArr.mk;dsimp only [Try.f5,bodyOf,cL,cR,regOf]
noncomputable def qOps6:OpArr (regOf (cL (cL (cL (cL (cR (cL (cR (cR (cR (cR (bodyOf Try.f5)))))))))))):=by apply OpArr.mk;dsimp only [Try.f5,bodyOf,cL,cR,regOf]
noncomputable def qOps7:OpArr (regOf (cR (cR (cL (cL (cR (cL (cR (cR (cR (cR (bodyOf Try.f5)))))))))))):=by apply OpArr.mk;dsimp only [Try.f5,bodyOf,cL,cR,regOf]
noncomputable def qOps8:OpArr (regOf (cL (cL (cL (cR (cL (cL (cR (cL (cR (cR (cR (cR (bodyOf Try.f5)))))))))))))):=by apply OpArr.mk;dsimp only [Try.f5,bodyOf,cL,cR,regOf]
noncomputable def qOps9:OpArr (regOf (cL (cL (cR (cL (cL (cR (cL (cL (cR (cL (cR (cR (cR (cR (bodyOf Try.f5)))))))))))))))):=by apply OpArr.mk;dsimp only [Try.f5,bodyOf,cL,cR,regOf]
noncomputable def qOps10:OpArr (regOf (cL (cR (cR (cR (cR (cR (bodyOf Try.f5)))))))):=by apply OpArr.mk;dsimp only [Try.f5,bodyOf,cL,cR,regOf]
noncomputable def qBody:Code:=
 (.seq (.region 0 qOps0.v false) (.seq (.region 1 qOps1.v false) (.seq (.region 2 qOps2.v false) (.seq (.seq (.region 3 qOps3.v false) (.cond (.tmp 38) (.seq (.region 4 qOps4.v false) .ret) .skip)) (.seq (.seq (.region 5 qOps5.v false) (.block 0 (.loop (.seq (.seq (.region 6 qOps6.v false) (.cond (.tmp 42) .skip (.exit 0))) (.seq (.block 1 (.seq (.region 8 qOps8.v true) (.cond (.tmp 64) (.seq (.region 9 qOps9.v false) .ret) .skip))) (.region 7 qOps7.v false)))))) (.seq (.region 10 qOps10.v false) .ret))))))
theorem q_body:Try.f5.body=some qBody:=by rfl
noncomputable def pRest:Code:=cR (cR pBody)
theorem pBody_eq:pBody= .seq (.region 0 pOps0.v false) (.seq (.region 1 pOps1.v false) pRest):=rfl
noncomputable def qRest:Code:=cR (cR (cR qBody))
theorem qBody_eq:qBody= .seq (.region 0 qOps0.v false) (.seq (.region 1 qOps1.v false) (.seq (.region 2 qOps2.v false) qRest)):=rfl
def sP:SCode:=
 (.seq (.ops [⟨(some 7),.newnil 3,none,false,[]⟩] none [5,6,7])
 (.seq (.ops [⟨(some 8),.newnil 2,none,false,[]⟩] none [5,6,7,8])
 (.seq (.ops [⟨(some 20),.call 23 [(.c (.str []))],none,false,[]⟩,
  ⟨(some 21),.call 24 [(.c (.str []))],none,false,[]⟩,
  ⟨(some 9),.alloc 0 [(.int .i64 0),(.int .i64 0),(.int .i64 0)],none,false,[]⟩,
  ⟨(some 10),.alloc 0 [(.int .i64 0),(.int .i64 0)],none,false,[]⟩,
  ⟨none,.store 3 (.t 9) (.t 20),none,false,[]⟩,
  ⟨none,.store 2 (.t 10) (.t 21),none,false,[]⟩] none [5,6,7,8,9,10])
 (.seq (.seq (.ops [⟨(some 22),.mov (.t 5),none,false,[]⟩,
  ⟨(some 23),.len false (.t 22),none,false,[]⟩,
  ⟨(some 24),.mov (.c (.int .i64 0)),none,false,[]⟩] none [6,7,8,9,10,22,23,24])
 (.block 0 (.loop [6,9,10,22,23] [7,8,24] 5
  (.seq (.ops [⟨(some 25),.bin .none .lss (.t 24) (.t 23),none,false,[]⟩] none [6,7,8,9,10,22,23,24,25])
  (.seq (.cond (.t 25)
   .skip
   (.exit 0))
  (.seq (.block 1 (.seq (.ops [⟨(some 26),.iaddr 5 none (.t 22) (.t 24),none,false,[]⟩,
   ⟨(some 27),.load 5 true (.t 26),none,false,[]⟩,
   ⟨(some 12),.alloc 0 [(.int .i64 0),(.int .i64 0),(.int .i64 0),(.int .i64 0),(.int .i64 0)],none,false,[]⟩,
   ⟨none,.store 5 (.t 12) (.t 27),none,false,[]⟩] none [6,7,8,9,10,12,22,23,24])
  (.seq (.ops [⟨(some 29),.load 3 true (.t 9),none,false,[]⟩,
   ⟨(some 30),.faddr 0 (.t 12),none,false,[]⟩,
   ⟨(some 31),.load 3 true (.t 30),none,false,[]⟩,
   ⟨(some 32),.call 25 [(.t 29),(.t 31)],none,false,[]⟩,
   ⟨(some 28),.mov (.t 32),none,false,[]⟩,
   ⟨(some 33),.extract (.t 28) 0,none,false,[]⟩,
   ⟨(some 34),.extract (.t 28) 1,none,false,[]⟩,
   ⟨none,.store 3 (.t 9) (.t 33),none,false,[]⟩] none [6,7,8,9,10,12,22,23,24])
  (.seq (.ops [⟨(some 36),.load 2 true (.t 10),none,false,[]⟩,
   ⟨(some 37),.faddr 3 (.t 12),none,false,[]⟩,
   ⟨(some 38),.load 2 true (.t 37),none,false,[]⟩,
   ⟨(some 39),.call 26 [(.t 36),(.t 38)],none,false,[]⟩,
   ⟨(some 35),.mov (.t 39),none,false,[]⟩,
   ⟨(some 40),.extract (.t 35) 0,none,false,[]⟩,
   ⟨(some 41),.extract (.t 35) 1,none,false,[]⟩,
   ⟨none,.store 2 (.t 10) (.t 40),none,false,[]⟩] none [6,7,8,9,10,22,23,24])
  (.ops [⟨(some 42),.mov (.t 7),none,false,[]⟩,
   ⟨(some 43),.load 3 true (.t 9),none,false,[]⟩,
   ⟨(some 44),.bslice true 1 3 [(.int .i64 0),(.int .i64 0),(.int .i64 0)] [(0,3,(.t 43))],none,false,[]⟩,
   ⟨(some 46),.mov (.t 8),none,false,[]⟩,
   ⟨(some 47),.load 2 true (.t 10),none,false,[]⟩,
   ⟨(some 48),.bslice true 1 2 [(.int .i64 0),(.int .i64 0)] [(0,2,(.t 47))],none,false,[]⟩,
   ⟨(some 45),.append 3 24 (.t 42) (.t 44),none,false,[(47,2,true,(.t 10))]⟩,
   ⟨none,.again 47 2 true (.t 10),none,false,[]⟩,
   ⟨(some 49),.append 2 16 (.t 46) (.t 48),none,false,[]⟩,
   ⟨(some 7),.mov (.t 45),none,false,[]⟩,
   ⟨(some 8),.mov (.t 49),none,false,[]⟩] (some (0,0,[0,1,2,4,5,6,3,7,8,9])) [6,7,8,9,10,22,23,24])))))
  (.ops [⟨(some 50),.bin .none .add (.t 24) (.c (.int .i64 1)),none,false,[]⟩,
   ⟨(some 24),.mov (.t 50),none,false,[]⟩] none [6,7,8,9,10,22,23,24])))))))
 (.seq (.ops [⟨(some 51),.mov (.t 7),none,false,[]⟩,
  ⟨(some 52),.mov (.t 8),none,false,[]⟩,
  ⟨(some 53),.mov (.t 6),none,false,[]⟩,
  ⟨(some 2),.mov (.t 51),none,false,[]⟩,
  ⟨(some 3),.mov (.t 52),none,false,[]⟩,
  ⟨(some 4),.mov (.t 53),none,false,[]⟩] none [2,3,4])
 .ret)))))
theorem sP_ok:comp Try.prog 54 pRest sP=some sP:=by kernel_rfl
def sL:SCode:=
 (.seq (.seq (.ops [⟨(some 22),.mov (.t 3),none,false,[]⟩,
  ⟨(some 23),.len false (.t 22),none,false,[]⟩,
  ⟨(some 24),.mov (.t 6),none,false,[]⟩,
  ⟨(some 25),.len false (.t 24),none,false,[]⟩,
  ⟨(some 26),.bin .none .neq (.t 23) (.t 25),none,false,[]⟩,
  ⟨(some 27),.mov (.t 26),none,true,[]⟩,
  ⟨(some 28),.mov (.t 4),(some (27,false)),false,[]⟩,
  ⟨(some 29),.len false (.t 28),(some (27,false)),false,[]⟩,
  ⟨(some 30),.mov (.t 7),(some (27,false)),false,[]⟩,
  ⟨(some 31),.len false (.t 30),(some (27,false)),false,[]⟩,
  ⟨(some 32),.bin .none .neq (.t 29) (.t 31),(some (27,false)),false,[]⟩,
  ⟨(some 33),.pick (.t 27) (.c (.bool true)) (.t 32),none,false,[]⟩,
  ⟨(some 34),.mov (.t 33),none,true,[]⟩,
  ⟨(some 35),.mov (.t 5),(some (34,false)),false,[]⟩,
  ⟨(some 36),.mov (.t 8),(some (34,false)),false,[]⟩,
  ⟨(some 37),.bin .none .neq (.t 35) (.t 36),(some (34,false)),false,[]⟩,
  ⟨(some 38),.pick (.t 34) (.c (.bool true)) (.t 37),none,false,[]⟩] none [3,4,6,7,38])
 (.cond (.t 38)
  (.seq (.ops [⟨(some 2),.mov (.c (.bool false)),none,false,[]⟩] none [2])
  .ret)
  .skip))
 (.seq (.seq (.ops [⟨(some 9),.mov (.c (.int .i64 0)),none,false,[]⟩] none [3,4,6,7,9])
 (.block 0 (.loop [3,4,6,7] [9] 0
  (.seq (.seq (.ops [⟨(some 39),.mov (.t 9),none,false,[]⟩,
   ⟨(some 40),.mov (.t 3),none,false,[]⟩,
   ⟨(some 41),.len false (.t 40),none,false,[]⟩,
   ⟨(some 42),.bin .none .lss (.t 39) (.t 41),none,false,[]⟩] none [3,4,6,7,9,42])
  (.cond (.t 42)
   .skip
   (.exit 0)))
  (.seq (.block 1 (.seq (.ops [⟨(some 45),.mov (.t 3),none,false,[]⟩,
   ⟨(some 46),.mov (.t 9),none,false,[]⟩,
   ⟨(some 47),.iaddr 3 none (.t 45) (.t 46),none,false,[]⟩,
   ⟨(some 48),.load 3 true (.t 47),none,false,[]⟩,
   ⟨(some 49),.mov (.t 6),none,false,[]⟩,
   ⟨(some 50),.mov (.t 9),none,false,[]⟩,
   ⟨(some 51),.iaddr 3 none (.t 49) (.t 50),none,false,[]⟩,
   ⟨(some 52),.load 3 true (.t 51),none,false,[]⟩,
   ⟨(some 53),.bin (.agg [.int,.int,.int]) .neq (.t 48) (.t 52),none,false,[]⟩,
   ⟨(some 54),.mov (.t 53),none,true,[]⟩,
   ⟨(some 55),.mov (.t 4),(some (54,false)),false,[]⟩,
   ⟨(some 56),.mov (.t 9),(some (54,false)),false,[]⟩,
   ⟨(some 57),.iaddr 2 none (.t 55) (.t 56),(some (54,false)),false,[]⟩,
   ⟨(some 58),.load 2 true (.t 57),(some (54,false)),false,[]⟩,
   ⟨(some 59),.mov (.t 7),(some (54,false)),false,[]⟩,
   ⟨(some 60),.mov (.t 9),(some (54,false)),false,[]⟩,
   ⟨(some 61),.iaddr 2 none (.t 59) (.t 60),(some (54,false)),false,[]⟩,
   ⟨(some 62),.load 2 true (.t 61),(some (54,false)),false,[]⟩,
   ⟨(some 63),.bin (.agg [.int,.int]) .neq (.t 58) (.t 62),(some (54,false)),false,[]⟩,
   ⟨(some 64),.pick (.t 54) (.c (.bool true)) (.t 63),none,false,[]⟩] (some (0,0,[0,1,2,3,4,5,6,7,8,9,10,11,12,13,14,15,16,17,18,19])) [3,4,6,7,9,64])
  (.cond (.t 64)
   (.seq (.ops [⟨(some 2),.mov (.c (.bool false)),none,false,[]⟩] none [2])
   .ret)
   .skip)))
  (.ops [⟨(some 43),.mov (.t 9),none,false,[]⟩,
   ⟨(some 44),.bin .none .add (.t 43) (.c (.int .i64 1)),none,false,[]⟩,
   ⟨(some 9),.mov (.t 44),none,false,[]⟩] none [3,4,6,7,9]))))))
 (.seq (.ops [⟨(some 2),.mov (.c (.bool true)),none,false,[]⟩] none [2])
 .ret)))
theorem sL_ok:comp Try.prog 65 qRest sL=some sL:=by kernel_rfl
theorem pj_use (h:Con Try.prog 25 Go.Fu.pos_Join_ct) (a b:PosT):RC Try.prog 25 [.agg (encP a),.agg (encP b)] (.tup [.agg (encP (posJoin a b).1),.int .i64 (posJoin a b).2]):=by
 refine ACallsMono (h.2 (a,b) trivial) fun r S' hr=>?_
 obtain ⟨ys,h1,rfl⟩:=hr
 obtain ⟨ys',rfl,ys2,rfl,rfl,_⟩:=h1
 rfl
theorem hj_use (h:Con Try.prog 26 Go.Fu.poly_Join_ct) (a b:HashT):RC Try.prog 26 [.agg (encH a),.agg (encH b)] (.tup [.agg (encH (polyJoin a b).1),.int .i64 (polyJoin a b).2]):=by
 refine ACallsMono (h.2 (a,b) trivial) fun r S' hr=>?_
 obtain ⟨ys,h1,rfl⟩:=hr
 obtain ⟨ys',rfl,ys2,rfl,rfl,_⟩:=h1
 rfl
def msOf (ts:List Bytes):List Msr:=ts.map fun t=>(posOf t,polyOf t)
theorem ms_at {ts:List Bytes} {j:Nat} {t:Bytes} (h:ts[j]?=some t):takeN 5 (((msOf ts).flatMap encM).drop (j*5))=some (encM (posOf t,polyOf t)):=by
 have h':(msOf ts)[j]?=some (posOf t,polyOf t):=by simp [msOf,h]
 obtain ⟨hlt,h2⟩:=List.getElem?_eq_some_iff.1 h'
 rw [drop_flat encM_len,List.drop_eq_getElem_cons hlt,h2,List.flatMap_cons]
 rfl
theorem vcP (hP:Con Try.prog 23 Go.Fu.pos_Of_ct) (hH:Con Try.prog 24 Go.Fu.poly_Of_ct) (hPJ:Con Try.prog 25 Go.Fu.pos_Join_ct) (hHJ:Con Try.prog 26 Go.Fu.poly_Join_ct) {ts:List Bytes} {e:Int} (hn:ts.length≤40) (hf:ts.flatten.length≤1048576) {Q:SExit→Go.Vc.Frame→Store→Prop}
  (h: ∀p1 v1 p2 v2 X S',Has S' (pt p1 (.row v1 3 ((psUp ts ts.length).flatMap encP))+(pt p2 (.row v2 2 ((hsUp ts ts.length).flatMap encH))+X))→Q .ret [(2,.sl p1 v1 0 ts.length),(3,.sl p2 v2 0 ts.length),(4,.int .i64 e)] S'):
  vc Try.prog sP Q [(5,.ros ts.length ((msOf ts).flatMap encM)),(6,.int .i64 e)] []:=by
 unfold sP
 have hS:Has [] HM.nil:=Has.nil
 repeat (with_reducible first | refine c_seq ?_ | refine on_n ?_ | refine c_skip ?_ | refine c_block ?_ | refine on_r ?_ | refine c_ret ?_ | refine c_exit ?_ | refine on_e ?_ | refine ob_e ?_ | refine ob_n ?_ | refine ob_r ?_ | refine ob_x rfl ?_)
 refine c_ops ?_
 refine r_op (o_newnil hS fun v7 l7 S hS=>s_no ?_)
 try dsimp only [putF,rd,Frame.get]
 refine r_nil (c_keep ?_)
 try dsimp only [List.map]
 try dsimp only [putF,rd,Frame.get]
 repeat (with_reducible first | refine c_seq ?_ | refine on_n ?_ | refine c_skip ?_ | refine c_block ?_ | refine on_r ?_ | refine c_ret ?_ | refine c_exit ?_ | refine on_e ?_ | refine ob_e ?_ | refine ob_n ?_ | refine ob_r ?_ | refine ob_x rfl ?_)
 refine c_ops ?_
 refine r_op (o_newnil hS fun v8 l8 S hS=>s_no ?_)
 try dsimp only [putF,rd,Frame.get]
 refine r_nil (c_keep ?_)
 try dsimp only [List.map]
 try dsimp only [putF,rd,Frame.get]
 repeat (with_reducible first | refine c_seq ?_ | refine on_n ?_ | refine c_skip ?_ | refine c_block ?_ | refine on_r ?_ | refine c_ret ?_ | refine c_exit ?_ | refine on_e ?_ | refine ob_e ?_ | refine ob_n ?_ | refine ob_r ?_ | refine ob_x rfl ?_)
 refine c_ops ?_
 refine r_op (o_call ?_)
 dsimp only [List.map,putF,rd,Frame.get]
 refine (pos_use hP (s:=[]) (by simp)).use ?_
 refine s_no ?_
 try dsimp only [putF,rd,Frame.get]
 refine r_op (o_call ?_)
 dsimp only [List.map,putF,rd,Frame.get]
 refine (poly_use hH (s:=[]) (by simp)).use ?_
 refine s_no ?_
 try dsimp only [putF,rd,Frame.get]
 refine r_op (o_alloc hS fun v9 l9 S hS=>s_no ?_)
 try dsimp only [putF,rd,Frame.get]
 refine r_op (o_alloc hS fun v10 l10 S hS=>s_no ?_)
 try dsimp only [putF,rd,Frame.get]
 first | refine r_op (o_store hS rfl rfl rfl rfl (by simp) fun S hS=>s_no ?_) | refine r_op (o_store hS rfl rfl rfl rfl (by assumption) fun S hS=>s_no ?_)
 try dsimp only [putF,rd,Frame.get]
 try dsimp only [putF,rd,Frame.get,setCells,over] at hS
 first | refine r_op (o_store hS rfl rfl rfl rfl (by simp) fun S hS=>s_no ?_) | refine r_op (o_store hS rfl rfl rfl rfl (by assumption) fun S hS=>s_no ?_)
 try dsimp only [putF,rd,Frame.get]
 try dsimp only [putF,rd,Frame.get,setCells,over] at hS
 refine r_nil (c_keep ?_)
 try dsimp only [List.map]
 try dsimp only [putF,rd,Frame.get]
 repeat (with_reducible first | refine c_seq ?_ | refine on_n ?_ | refine c_skip ?_ | refine c_block ?_ | refine on_r ?_ | refine c_ret ?_ | refine c_exit ?_ | refine on_e ?_ | refine ob_e ?_ | refine ob_n ?_ | refine ob_r ?_ | refine ob_x rfl ?_)
 have hS:Has S (pt l10 (.row v10 0 (encH (polyOf [])))+(pt l9 (.row v9 0 (encP (posOf [])))+(pt l8 (.row v8 2 [])+(pt l7 (.row v7 3 [])+HM.nil)))):=hS
 refine c_ops ?_
 refine r_op (o_mov (s_no ?_))
 try dsimp only [putF,rd,Frame.get]
 refine r_op (o_len rfl (s_no ?_))
 try dsimp only [putF,rd,Frame.get]
 refine r_op (o_mov (s_no ?_))
 try dsimp only [putF,rd,Frame.get]
 refine r_nil (c_keep ?_)
 try dsimp only [List.map]
 try dsimp only [putF,rd,Frame.get]
 repeat (with_reducible first | refine c_seq ?_ | refine on_n ?_ | refine c_skip ?_ | refine c_block ?_ | refine on_r ?_ | refine c_ret ?_ | refine c_exit ?_ | refine on_e ?_ | refine ob_e ?_ | refine ob_n ?_ | refine ob_r ?_ | refine ob_x rfl ?_)
 refine c_loop (fun k xs S=> ∃(j p1 v1 p2 v2:Nat) (X:HM),xs=[.sl p1 v1 0 j,.sl p2 v2 0 j,.int .i64 (j:Int)]∧j≤ts.length∧k=ts.length-j∧
  Has S (pt l10 (.row v10 0 (encH (polyOf (upTo1 ts j))))+(pt l9 (.row v9 0 (encP (posOf (upTo1 ts j))))+(pt p1 (.row v1 3 ((psUp ts j).flatMap encP))+(pt p2 (.row v2 2 ((hsUp ts j).flatMap encH))+X))))) ts.length ⟨0,l7,v7,l8,v8,HM.nil,rfl,Nat.zero_le _,rfl,hS.eq (by rw [upTo1_zero];simp only [psUp,hsUp,List.range_zero,List.map_nil,List.flatMap_nil];ac_rfl)⟩ ?_
 clear hS
 rintro k xs S-⟨j,p1,v1,p2,v2,X,rfl,hj,rfl,hS⟩
 dsimp only [zipF,List.map,Frame.get,Nat.beq]
 have hl1:=flatP_len (psUp ts j)
 have hl2:=flatH_len (hsUp ts j)
 rw [psUp_len] at hl1
 rw [hsUp_len] at hl2
 repeat (with_reducible first | refine c_seq ?_ | refine on_n ?_ | refine c_skip ?_ | refine c_block ?_ | refine on_r ?_ | refine c_ret ?_ | refine c_exit ?_ | refine on_e ?_ | refine ob_e ?_ | refine ob_n ?_ | refine ob_r ?_ | refine ob_x rfl ?_)
 refine c_ops ?_
 refine r_op (o_bin rfl (by first | trivial | (unfold inI64;omega)) (s_no ?_))
 try dsimp only [putF,rd,Frame.get]
 refine r_nil (c_keep ?_)
 try dsimp only [List.map]
 try dsimp only [putF,rd,Frame.get]
 repeat (with_reducible first | refine c_seq ?_ | refine on_n ?_ | refine c_skip ?_ | refine c_block ?_ | refine on_r ?_ | refine c_ret ?_ | refine c_exit ?_ | refine on_e ?_ | refine ob_e ?_ | refine ob_n ?_ | refine ob_r ?_ | refine ob_x rfl ?_)
 refine c_dec rfl (fun hlt=>?_) (fun hge=>?_)
 ·obtain ⟨t,hjt⟩: ∃t,ts[j]?=some t:=⟨_,List.getElem?_eq_getElem (by omega)⟩
  have ht:=ms_at hjt
  have hu:=upTo1_succ hjt
  have hul:=upTo1_len ts (j+1)
  rw [hu,List.length_append] at hul
  have ej:posJoin (posOf (upTo1 ts j)) (posOf t)=(posOf (upTo1 ts (j+1)),0):=by rw [hu];exact Go.Fu.posJoin_of (by omega)
  have eh:polyJoin (polyOf (upTo1 ts j)) (polyOf t)=(polyOf (upTo1 ts (j+1)),0):=by rw [hu];exact Go.Fu.polyJoin_of _ _
  have pj:=pj_use hPJ (posOf (upTo1 ts j)) (posOf t)
  have hj2:=hj_use hHJ (polyOf (upTo1 ts j)) (polyOf t)
  rw [ej] at pj
  rw [eh] at hj2
  repeat (with_reducible first | refine c_seq ?_ | refine on_n ?_ | refine c_skip ?_ | refine c_block ?_ | refine on_r ?_ | refine c_ret ?_ | refine c_exit ?_ | refine on_e ?_ | refine ob_e ?_ | refine ob_n ?_ | refine ob_r ?_ | refine ob_x rfl ?_)
  refine c_ops ?_
  first | refine r_op (o_iaddr hS rfl rfl rfl (by omega) (s_no ?_)) | refine r_op (o_iaddr0 hS rfl rfl rfl (by omega) (s_no ?_)) | refine r_op (o_iaddrR rfl rfl (by omega) (by assumption) (s_no ?_)) | refine r_op (o_iaddrA rfl rfl (by omega) (s_no ?_)) | refine r_op (o_iaddrAR rfl rfl (by omega) (s_no ?_))
  try dsimp only [putF,rd,Frame.get]
  try simp only [Nat.zero_mul,Nat.mul_zero,Nat.mul_one,Nat.add_zero,Nat.zero_add,Nat.sub_zero,Nat.reduceAdd,Nat.reduceMul]
  first | refine r_op (o_load hS rfl rfl rfl rfl (s_no ?_)) | refine r_op (o_load hS rfl rfl (by assumption) rfl (s_no ?_)) | refine r_op (o_loadR rfl rfl rfl (s_no ?_)) | refine r_op (o_loadR rfl (by assumption) rfl (s_no ?_))
  try dsimp only [putF,rd,Frame.get]
  refine r_op (o_alloc hS fun v12 l12 S hS=>s_no ?_)
  try dsimp only [putF,rd,Frame.get]
  first | refine r_op (o_store hS rfl rfl rfl rfl (by simp) fun S hS=>s_no ?_) | refine r_op (o_store hS rfl rfl rfl rfl (by assumption) fun S hS=>s_no ?_)
  try dsimp only [putF,rd,Frame.get]
  try dsimp only [putF,rd,Frame.get,setCells,over] at hS
  refine r_nil (c_keep ?_)
  try dsimp only [List.map]
  try dsimp only [putF,rd,Frame.get]
  repeat (with_reducible first | refine c_seq ?_ | refine on_n ?_ | refine c_skip ?_ | refine c_block ?_ | refine on_r ?_ | refine c_ret ?_ | refine c_exit ?_ | refine on_e ?_ | refine ob_e ?_ | refine ob_n ?_ | refine ob_r ?_ | refine ob_x rfl ?_)
  refine c_ops ?_
  first | refine r_op (o_load hS rfl rfl rfl rfl (s_no ?_)) | refine r_op (o_load hS rfl rfl (by assumption) rfl (s_no ?_)) | refine r_op (o_loadR rfl rfl rfl (s_no ?_)) | refine r_op (o_loadR rfl (by assumption) rfl (s_no ?_))
  try dsimp only [putF,rd,Frame.get]
  first | refine r_op (o_faddr rfl (s_no ?_)) | refine r_op (o_faddrR rfl (s_no ?_))
  try dsimp only [putF,rd,Frame.get]
  try simp only [Nat.zero_mul,Nat.mul_zero,Nat.mul_one,Nat.add_zero,Nat.zero_add,Nat.sub_zero,Nat.reduceAdd,Nat.reduceMul]
  first | refine r_op (o_load hS rfl rfl rfl rfl (s_no ?_)) | refine r_op (o_load hS rfl rfl (by assumption) rfl (s_no ?_)) | refine r_op (o_loadR rfl rfl rfl (s_no ?_)) | refine r_op (o_loadR rfl (by assumption) rfl (s_no ?_))
  try dsimp only [putF,rd,Frame.get]
  refine r_op (o_call ?_)
  dsimp only [List.map,putF,rd,Frame.get]
  refine RC.use pj ?_
  refine s_no ?_
  try dsimp only [putF,rd,Frame.get]
  refine r_op (o_mov (s_no ?_))
  try dsimp only [putF,rd,Frame.get]
  refine r_op (o_extract rfl rfl (s_no ?_))
  try dsimp only [putF,rd,Frame.get]
  refine r_op (o_extract rfl rfl (s_no ?_))
  try dsimp only [putF,rd,Frame.get]
  refine r_op ?_
  refine o_store hS rfl rfl rfl rfl (by exact Nat.le_refl 3) fun S hS=>?_
  refine s_no ?_
  try dsimp only [putF,rd,Frame.get]
  refine r_nil (c_keep ?_)
  try dsimp only [List.map]
  try dsimp only [putF,rd,Frame.get]
  repeat (with_reducible first | refine c_seq ?_ | refine on_n ?_ | refine c_skip ?_ | refine c_block ?_ | refine on_r ?_ | refine c_ret ?_ | refine c_exit ?_ | refine on_e ?_ | refine ob_e ?_ | refine ob_n ?_ | refine ob_r ?_ | refine ob_x rfl ?_)
  refine c_ops ?_
  first | refine r_op (o_load hS rfl rfl rfl rfl (s_no ?_)) | refine r_op (o_load hS rfl rfl (by assumption) rfl (s_no ?_)) | refine r_op (o_loadR rfl rfl rfl (s_no ?_)) | refine r_op (o_loadR rfl (by assumption) rfl (s_no ?_))
  try dsimp only [putF,rd,Frame.get]
  first | refine r_op (o_faddr rfl (s_no ?_)) | refine r_op (o_faddrR rfl (s_no ?_))
  try dsimp only [putF,rd,Frame.get]
  try simp only [Nat.zero_mul,Nat.mul_zero,Nat.mul_one,Nat.add_zero,Nat.zero_add,Nat.sub_zero,Nat.reduceAdd,Nat.reduceMul]
  first | refine r_op (o_load hS rfl rfl rfl rfl (s_no ?_)) | refine r_op (o_load hS rfl rfl (by assumption) rfl (s_no ?_)) | refine r_op (o_loadR rfl rfl rfl (s_no ?_)) | refine r_op (o_loadR rfl (by assumption) rfl (s_no ?_))
  try dsimp only [putF,rd,Frame.get]
  refine r_op (o_call ?_)
  dsimp only [List.map,putF,rd,Frame.get]
  refine RC.use hj2 ?_
  refine s_no ?_
  try dsimp only [putF,rd,Frame.get]
  refine r_op (o_mov (s_no ?_))
  try dsimp only [putF,rd,Frame.get]
  refine r_op (o_extract rfl rfl (s_no ?_))
  try dsimp only [putF,rd,Frame.get]
  refine r_op (o_extract rfl rfl (s_no ?_))
  try dsimp only [putF,rd,Frame.get]
  refine r_op ?_
  refine o_store hS rfl rfl rfl rfl (by exact Nat.le_refl 2) fun S hS=>?_
  refine s_no ?_
  try dsimp only [putF,rd,Frame.get]
  refine r_nil (c_keep ?_)
  try dsimp only [List.map]
  try dsimp only [putF,rd,Frame.get]
  repeat (with_reducible first | refine c_seq ?_ | refine on_n ?_ | refine c_skip ?_ | refine c_block ?_ | refine on_r ?_ | refine c_ret ?_ | refine c_exit ?_ | refine on_e ?_ | refine ob_e ?_ | refine ob_n ?_ | refine ob_r ?_ | refine ob_x rfl ?_)
  have hS:Has S (pt l12 (.row v12 0 (encM (posOf t,polyOf t)))+(pt l10 (.row v10 0 (encH (polyOf (upTo1 ts (j+1)))))+(pt l9 (.row v9 0 (encP (posOf (upTo1 ts (j+1)))))+(pt p1 (.row v1 3 ((psUp ts j).flatMap encP))+(pt p2 (.row v2 2 ((hsUp ts j).flatMap encH))+X))))):=hS
  refine c_opsD0 hS fun S hS=>?_
  refine d_zero ?_
  refine r_op (o_mov (s_no ?_))
  try dsimp only [putF,rd,Frame.get]
  first | refine r_op (o_load hS rfl rfl rfl rfl (s_no ?_)) | refine r_op (o_load hS rfl rfl (by assumption) rfl (s_no ?_)) | refine r_op (o_loadR rfl rfl rfl (s_no ?_)) | refine r_op (o_loadR rfl (by assumption) rfl (s_no ?_))
  try dsimp only [putF,rd,Frame.get]
  refine r_op (o_bsliceR rfl (s_no ?_))
  try dsimp only [putF,rd,Frame.get,setCells,over]
  try dsimp only [putF,rd,Frame.get,setCells,over] at hS
  refine r_op (o_mov (s_no ?_))
  try dsimp only [putF,rd,Frame.get]
  first | refine r_op (o_load hS rfl rfl rfl rfl (s_no ?_)) | refine r_op (o_load hS rfl rfl (by assumption) rfl (s_no ?_)) | refine r_op (o_loadR rfl rfl rfl (s_no ?_)) | refine r_op (o_loadR rfl (by assumption) rfl (s_no ?_))
  try dsimp only [putF,rd,Frame.get]
  refine r_op (o_bsliceR rfl (s_no ?_))
  try dsimp only [putF,rd,Frame.get,setCells,over]
  try dsimp only [putF,rd,Frame.get,setCells,over] at hS
  refine r_op ?_
  refine o_appendX hS rfl (SrcOf.ros rfl) rfl hl1 (by omega) fun v' S hS=>?_
  refine s_no ?_
  try dsimp only [putF,rd,Frame.get]
  first | refine r_op (o_again hS rfl rfl rfl rfl rfl (s_no ?_)) | refine r_op (o_again hS rfl rfl (by assumption) rfl rfl (s_no ?_)) | refine r_op (o_againR rfl rfl rfl rfl (s_no ?_)) | refine r_op (o_againR rfl (by assumption) rfl rfl (s_no ?_))
  try dsimp only [putF,rd,Frame.get]
  refine r_op ?_
  refine o_appendX hS rfl (SrcOf.ros rfl) rfl hl2 (by omega) fun v' S hS=>?_
  refine s_no ?_
  try dsimp only [putF,rd,Frame.get]
  refine r_op (o_mov (s_no ?_))
  try dsimp only [putF,rd,Frame.get]
  refine r_op (o_mov (s_no ?_))
  try dsimp only [putF,rd,Frame.get]
  refine r_nil (c_keep ?_)
  try dsimp only [List.map]
  try dsimp only [putF,rd,Frame.get]
  repeat (with_reducible first | refine c_seq ?_ | refine on_n ?_ | refine c_skip ?_ | refine c_block ?_ | refine on_r ?_ | refine c_ret ?_ | refine c_exit ?_ | refine on_e ?_ | refine ob_e ?_ | refine ob_n ?_ | refine ob_r ?_ | refine ob_x rfl ?_)
  refine c_ops ?_
  refine r_op (o_bin rfl (by first | trivial | (unfold inI64;omega)) (s_no ?_))
  try dsimp only [putF,rd,Frame.get]
  refine r_op (o_mov (s_no ?_))
  try dsimp only [putF,rd,Frame.get]
  refine r_nil (c_keep ?_)
  try dsimp only [List.map]
  try dsimp only [putF,rd,Frame.get]
  repeat (with_reducible first | refine c_seq ?_ | refine on_n ?_ | refine c_skip ?_ | refine c_block ?_ | refine on_r ?_ | refine c_ret ?_ | refine c_exit ?_ | refine on_e ?_ | refine ob_e ?_ | refine ob_n ?_ | refine ob_r ?_ | refine ob_x rfl ?_)
  refine ⟨ts.length-(j+1),by omega,j+1,p1,_,p2,_,pt l12 (.row v12 0 (encM (posOf t,polyOf t)))+X,rfl,by omega,rfl,hS.eq ?_⟩
  rw [psUp_succ,hsUp_succ,←pts_snoc,←hts_snoc]
  unfold encP encH encM
  dsimp only
  ac_rfl
 ·repeat (with_reducible first | refine c_seq ?_ | refine on_n ?_ | refine c_skip ?_ | refine c_block ?_ | refine on_r ?_ | refine c_ret ?_ | refine c_exit ?_ | refine on_e ?_ | refine ob_e ?_ | refine ob_n ?_ | refine ob_r ?_ | refine ob_x rfl ?_)
  refine c_ops ?_
  refine r_op (o_mov (s_no ?_))
  try dsimp only [putF,rd,Frame.get]
  refine r_op (o_mov (s_no ?_))
  try dsimp only [putF,rd,Frame.get]
  refine r_op (o_mov (s_no ?_))
  try dsimp only [putF,rd,Frame.get]
  refine r_op (o_mov (s_no ?_))
  try dsimp only [putF,rd,Frame.get]
  refine r_op (o_mov (s_no ?_))
  try dsimp only [putF,rd,Frame.get]
  refine r_op (o_mov (s_no ?_))
  try dsimp only [putF,rd,Frame.get]
  refine r_nil (c_keep ?_)
  try dsimp only [List.map]
  try dsimp only [putF,rd,Frame.get]
  repeat (with_reducible first | refine c_seq ?_ | refine on_n ?_ | refine c_skip ?_ | refine c_block ?_ | refine on_r ?_ | refine c_ret ?_ | refine c_exit ?_ | refine on_e ?_ | refine ob_e ?_ | refine ob_n ?_ | refine ob_r ?_ | refine ob_x rfl ?_)
  obtain rfl:j=ts.length:=by omega
  exact h p1 v1 p2 v2 (pt l10 (.row v10 0 (encH (polyOf (upTo1 ts ts.length))))+(pt l9 (.row v9 0 (encP (posOf (upTo1 ts ts.length))))+X)) _ (hS.eq (by ac_rfl))
end Go.Proofs.Pl
end
section
set_option maxRecDepth 100000
namespace Go.Proofs.Pl
open Go.Vc Go.Vk
open Go.Fu (Bytes PosT HashT)
open Go.Proofs.Ytpbbahplbgmbcaa.K (encP encH)
theorem o_neqP {P:Program} {F:Go.Vc.Frame} {S:Store} {K:AVal→Store→Prop} {x y:Rand} {a:PosT} (hx:rd F x= .agg (encP a)) (hy:rd F y= .agg (encP a)) (h:K (.bool false) S):vcOp P F S K (.bin (.agg [.int,.int,.int]) .neq x y):=by
 refine rdK_iff.2 (rdK_iff.2 ?_)
 rw [hx,hy]
 refine ⟨rfl,rfl,rfl,?_⟩
 simpa [eqK,cellsEq] using h
theorem o_neqH {P:Program} {F:Go.Vc.Frame} {S:Store} {K:AVal→Store→Prop} {x y:Rand} {a:HashT} (hx:rd F x= .agg (encH a)) (hy:rd F y= .agg (encH a)) (h:K (.bool false) S):vcOp P F S K (.bin (.agg [.int,.int]) .neq x y):=by
 refine rdK_iff.2 (rdK_iff.2 ?_)
 rw [hx,hy]
 refine ⟨rfl,rfl,?_⟩
 simpa [eqK,cellsEq] using h
theorem p_at {ps:List PosT} {j:Nat} {p:PosT} (h:ps[j]?=some p):takeN 3 ((ps.flatMap encP).drop (j*3))=some (encP p):=by
 obtain ⟨hlt,h2⟩:=List.getElem?_eq_some_iff.1 h
 rw [drop_flat (enc:=encP) (fun _=>rfl),List.drop_eq_getElem_cons hlt,h2,List.flatMap_cons]
 rfl
theorem h_at {ps:List HashT} {j:Nat} {p:HashT} (h:ps[j]?=some p):takeN 2 ((ps.flatMap encH).drop (j*2))=some (encH p):=by
 obtain ⟨hlt,h2⟩:=List.getElem?_eq_some_iff.1 h
 rw [drop_flat (enc:=encH) (fun _=>rfl),List.drop_eq_getElem_cons hlt,h2,List.flatMap_cons]
 rfl
theorem vcL {ps:List PosT} {hs:List HashT} {n:Nat} {e:Int} (h1:ps.length=n) (h2:hs.length=n) (hn:n≤40) {Q:SExit→Go.Vc.Frame→Store→Prop} (h: ∀S',Q .ret [(2,.bool true)] S'):
  vc Try.prog sL Q [(3,.ros n (ps.flatMap encP)),(4,.ros n (hs.flatMap encH)),(5,.int .i64 e),(6,.ros n (ps.flatMap encP)),(7,.ros n (hs.flatMap encH)),(8,.int .i64 e)] []:=by
 unfold sL
 have hS:Has [] HM.nil:=Has.nil
 repeat (with_reducible first | refine c_seq ?_ | refine on_n ?_ | refine c_skip ?_ | refine c_block ?_ | refine on_r ?_ | refine c_ret ?_ | refine c_exit ?_ | refine on_e ?_ | refine ob_e ?_ | refine ob_n ?_ | refine ob_r ?_ | refine ob_x rfl ?_)
 refine c_ops ?_
 refine r_op (o_mov (s_no ?_))
 try dsimp only [putF,rd,Frame.get]
 refine r_op (o_len rfl (s_no ?_))
 try dsimp only [putF,rd,Frame.get]
 refine r_op (o_mov (s_no ?_))
 try dsimp only [putF,rd,Frame.get]
 refine r_op (o_len rfl (s_no ?_))
 try dsimp only [putF,rd,Frame.get]
 refine r_op (o_bin rfl (by first | trivial | (unfold inI64;omega)) (s_no ?_))
 try dsimp only [putF,rd,Frame.get]
 refine r_op ?_
 refine o_mov (s_ndec (fun hg=>absurd rfl hg) (fun hg=>?_))
 try dsimp only [putF,rd,Frame.get]
 first | ((with_reducible refine r_st ?_ ?_);(· rfl)) | ((with_reducible refine r_sf ?_ ?_);(· rfl)) | ((with_reducible refine r_su (xs:=[]) ?_ ?_);(· rfl)) | refine r_ff rfl (o_mov (s_no ?_))
 try dsimp only [putF,rd,Frame.get]
 first | ((with_reducible refine r_st ?_ ?_);(· rfl)) | ((with_reducible refine r_sf ?_ ?_);(· rfl)) | ((with_reducible refine r_su (xs:=[]) ?_ ?_);(· rfl)) | refine r_ff rfl (o_len rfl (s_no ?_))
 try dsimp only [putF,rd,Frame.get]
 first | ((with_reducible refine r_st ?_ ?_);(· rfl)) | ((with_reducible refine r_sf ?_ ?_);(· rfl)) | ((with_reducible refine r_su (xs:=[]) ?_ ?_);(· rfl)) | refine r_ff rfl (o_mov (s_no ?_))
 try dsimp only [putF,rd,Frame.get]
 first | ((with_reducible refine r_st ?_ ?_);(· rfl)) | ((with_reducible refine r_sf ?_ ?_);(· rfl)) | ((with_reducible refine r_su (xs:=[]) ?_ ?_);(· rfl)) | refine r_ff rfl (o_len rfl (s_no ?_))
 try dsimp only [putF,rd,Frame.get]
 first | ((with_reducible refine r_st ?_ ?_);(· rfl)) | ((with_reducible refine r_sf ?_ ?_);(· rfl)) | ((with_reducible refine r_su (xs:=[]) ?_ ?_);(· rfl)) | refine r_ff rfl (o_bin rfl (by first | trivial | (unfold inI64;omega)) (s_no ?_))
 try dsimp only [putF,rd,Frame.get]
 first | refine r_op (o_pickT rfl (s_no ?_)) | refine r_op (o_pickF rfl (s_no ?_))
 try dsimp only [putF,rd,Frame.get]
 refine r_op ?_
 refine o_mov (s_ndec (fun hg=>absurd rfl hg) (fun hg=>?_))
 try dsimp only [putF,rd,Frame.get]
 first | ((with_reducible refine r_st ?_ ?_);(· rfl)) | ((with_reducible refine r_sf ?_ ?_);(· rfl)) | ((with_reducible refine r_su (xs:=[]) ?_ ?_);(· rfl)) | refine r_ff rfl (o_mov (s_no ?_))
 try dsimp only [putF,rd,Frame.get]
 first | ((with_reducible refine r_st ?_ ?_);(· rfl)) | ((with_reducible refine r_sf ?_ ?_);(· rfl)) | ((with_reducible refine r_su (xs:=[]) ?_ ?_);(· rfl)) | refine r_ff rfl (o_mov (s_no ?_))
 try dsimp only [putF,rd,Frame.get]
 first | ((with_reducible refine r_st ?_ ?_);(· rfl)) | ((with_reducible refine r_sf ?_ ?_);(· rfl)) | ((with_reducible refine r_su (xs:=[]) ?_ ?_);(· rfl)) | refine r_ff rfl (o_bin rfl (by first | trivial | (unfold inI64;omega)) (s_no ?_))
 try dsimp only [putF,rd,Frame.get]
 first | refine r_op (o_pickT rfl (s_no ?_)) | refine r_op (o_pickF rfl (s_no ?_))
 try dsimp only [putF,rd,Frame.get]
 refine r_nil (c_keep ?_)
 try dsimp only [List.map]
 try dsimp only [putF,rd,Frame.get]
 repeat (with_reducible first | refine c_seq ?_ | refine on_n ?_ | refine c_skip ?_ | refine c_block ?_ | refine on_r ?_ | refine c_ret ?_ | refine c_exit ?_ | refine on_e ?_ | refine ob_e ?_ | refine ob_n ?_ | refine ob_r ?_ | refine ob_x rfl ?_)
 refine c_ndec rfl (fun hg=>absurd rfl hg) (fun hg=>?_)
 repeat (with_reducible first | refine c_seq ?_ | refine on_n ?_ | refine c_skip ?_ | refine c_block ?_ | refine on_r ?_ | refine c_ret ?_ | refine c_exit ?_ | refine on_e ?_ | refine ob_e ?_ | refine ob_n ?_ | refine ob_r ?_ | refine ob_x rfl ?_)
 refine c_ops ?_
 refine r_op (o_mov (s_no ?_))
 try dsimp only [putF,rd,Frame.get]
 refine r_nil (c_keep ?_)
 try dsimp only [List.map]
 try dsimp only [putF,rd,Frame.get]
 repeat (with_reducible first | refine c_seq ?_ | refine on_n ?_ | refine c_skip ?_ | refine c_block ?_ | refine on_r ?_ | refine c_ret ?_ | refine c_exit ?_ | refine on_e ?_ | refine ob_e ?_ | refine ob_n ?_ | refine ob_r ?_ | refine ob_x rfl ?_)
 refine c_loop (fun k xs S=> ∃j:Nat,xs=[.int .i64 (j:Int)]∧j≤n∧k=n-j∧Has S HM.nil) n ⟨0,rfl,Nat.zero_le _,rfl,hS⟩ ?_
 clear hS
 rintro k xs S-⟨j,rfl,hj,rfl,hS⟩
 dsimp only [zipF,List.map,Frame.get,Nat.beq]
 repeat (with_reducible first | refine c_seq ?_ | refine on_n ?_ | refine c_skip ?_ | refine c_block ?_ | refine on_r ?_ | refine c_ret ?_ | refine c_exit ?_ | refine on_e ?_ | refine ob_e ?_ | refine ob_n ?_ | refine ob_r ?_ | refine ob_x rfl ?_)
 refine c_ops ?_
 refine r_op (o_mov (s_no ?_))
 try dsimp only [putF,rd,Frame.get]
 refine r_op (o_mov (s_no ?_))
 try dsimp only [putF,rd,Frame.get]
 refine r_op (o_len rfl (s_no ?_))
 try dsimp only [putF,rd,Frame.get]
 refine r_op (o_bin rfl (by first | trivial | (unfold inI64;omega)) (s_no ?_))
 try dsimp only [putF,rd,Frame.get]
 refine r_nil (c_keep ?_)
 try dsimp only [List.map]
 try dsimp only [putF,rd,Frame.get]
 repeat (with_reducible first | refine c_seq ?_ | refine on_n ?_ | refine c_skip ?_ | refine c_block ?_ | refine on_r ?_ | refine c_ret ?_ | refine c_exit ?_ | refine on_e ?_ | refine ob_e ?_ | refine ob_n ?_ | refine ob_r ?_ | refine ob_x rfl ?_)
 refine c_dec rfl (fun hlt=>?_) (fun hge=>?_)
 ·have hp:=p_at (List.getElem?_eq_getElem (show j<ps.length by omega))
  have hh:=h_at (List.getElem?_eq_getElem (show j<hs.length by omega))
  repeat (with_reducible first | refine c_seq ?_ | refine on_n ?_ | refine c_skip ?_ | refine c_block ?_ | refine on_r ?_ | refine c_ret ?_ | refine c_exit ?_ | refine on_e ?_ | refine ob_e ?_ | refine ob_n ?_ | refine ob_r ?_ | refine ob_x rfl ?_)
  refine c_opsD0 hS fun S hS=>?_
  refine d_zero ?_
  refine r_op (o_mov (s_no ?_))
  try dsimp only [putF,rd,Frame.get]
  refine r_op (o_mov (s_no ?_))
  try dsimp only [putF,rd,Frame.get]
  first | refine r_op (o_iaddr hS rfl rfl rfl (by omega) (s_no ?_)) | refine r_op (o_iaddr0 hS rfl rfl rfl (by omega) (s_no ?_)) | refine r_op (o_iaddrR rfl rfl (by omega) (by assumption) (s_no ?_)) | refine r_op (o_iaddrA rfl rfl (by omega) (s_no ?_)) | refine r_op (o_iaddrAR rfl rfl (by omega) (s_no ?_))
  try dsimp only [putF,rd,Frame.get]
  try simp only [Nat.zero_mul,Nat.mul_zero,Nat.mul_one,Nat.add_zero,Nat.zero_add,Nat.sub_zero,Nat.reduceAdd,Nat.reduceMul]
  first | refine r_op (o_load hS rfl rfl rfl rfl (s_no ?_)) | refine r_op (o_load hS rfl rfl (by assumption) rfl (s_no ?_)) | refine r_op (o_loadR rfl rfl rfl (s_no ?_)) | refine r_op (o_loadR rfl (by assumption) rfl (s_no ?_))
  try dsimp only [putF,rd,Frame.get]
  refine r_op (o_mov (s_no ?_))
  try dsimp only [putF,rd,Frame.get]
  refine r_op (o_mov (s_no ?_))
  try dsimp only [putF,rd,Frame.get]
  first | refine r_op (o_iaddr hS rfl rfl rfl (by omega) (s_no ?_)) | refine r_op (o_iaddr0 hS rfl rfl rfl (by omega) (s_no ?_)) | refine r_op (o_iaddrR rfl rfl (by omega) (by assumption) (s_no ?_)) | refine r_op (o_iaddrA rfl rfl (by omega) (s_no ?_)) | refine r_op (o_iaddrAR rfl rfl (by omega) (s_no ?_))
  try dsimp only [putF,rd,Frame.get]
  try simp only [Nat.zero_mul,Nat.mul_zero,Nat.mul_one,Nat.add_zero,Nat.zero_add,Nat.sub_zero,Nat.reduceAdd,Nat.reduceMul]
  first | refine r_op (o_load hS rfl rfl rfl rfl (s_no ?_)) | refine r_op (o_load hS rfl rfl (by assumption) rfl (s_no ?_)) | refine r_op (o_loadR rfl rfl rfl (s_no ?_)) | refine r_op (o_loadR rfl (by assumption) rfl (s_no ?_))
  try dsimp only [putF,rd,Frame.get]
  refine r_op ?_
  refine o_neqP rfl rfl ?_
  refine s_no ?_
  try dsimp only [putF,rd,Frame.get]
  refine r_op ?_
  refine o_mov (s_bool (fun hg=>by cases hg) (fun hg=>?_))
  try dsimp only [putF,rd,Frame.get]
  first | ((with_reducible refine r_st ?_ ?_);(· rfl)) | ((with_reducible refine r_sf ?_ ?_);(· rfl)) | ((with_reducible refine r_su (xs:=[]) ?_ ?_);(· rfl)) | refine r_ff rfl (o_mov (s_no ?_))
  try dsimp only [putF,rd,Frame.get]
  first | ((with_reducible refine r_st ?_ ?_);(· rfl)) | ((with_reducible refine r_sf ?_ ?_);(· rfl)) | ((with_reducible refine r_su (xs:=[]) ?_ ?_);(· rfl)) | refine r_ff rfl (o_mov (s_no ?_))
  try dsimp only [putF,rd,Frame.get]
  first | ((with_reducible refine r_st ?_ ?_);(· rfl)) | ((with_reducible refine r_sf ?_ ?_);(· rfl)) | ((with_reducible refine r_su (xs:=[]) ?_ ?_);(· rfl)) | refine r_ff rfl (o_iaddr hS rfl rfl rfl (by omega) (s_no ?_)) | refine r_ff rfl (o_iaddr0 hS rfl rfl rfl (by omega) (s_no ?_)) | refine r_ff rfl (o_iaddrR rfl rfl (by omega) (by assumption) (s_no ?_)) | refine r_ff rfl (o_iaddrA rfl rfl (by omega) (s_no ?_)) | refine r_ff rfl (o_iaddrAR rfl rfl (by omega) (s_no ?_))
  try dsimp only [putF,rd,Frame.get]
  try simp only [Nat.zero_mul,Nat.mul_zero,Nat.mul_one,Nat.add_zero,Nat.zero_add,Nat.sub_zero,Nat.reduceAdd,Nat.reduceMul]
  first | ((with_reducible refine r_st ?_ ?_);(· rfl)) | ((with_reducible refine r_sf ?_ ?_);(· rfl)) | ((with_reducible refine r_su (xs:=[]) ?_ ?_);(· rfl)) | refine r_ff rfl (o_load hS rfl rfl rfl rfl (s_no ?_)) | refine r_ff rfl (o_load hS rfl rfl (by assumption) rfl (s_no ?_)) | refine r_ff rfl (o_loadR rfl rfl rfl (s_no ?_)) | refine r_ff rfl (o_loadR rfl (by assumption) rfl (s_no ?_))
  try dsimp only [putF,rd,Frame.get]
  first | ((with_reducible refine r_st ?_ ?_);(· rfl)) | ((with_reducible refine r_sf ?_ ?_);(· rfl)) | ((with_reducible refine r_su (xs:=[]) ?_ ?_);(· rfl)) | refine r_ff rfl (o_mov (s_no ?_))
  try dsimp only [putF,rd,Frame.get]
  first | ((with_reducible refine r_st ?_ ?_);(· rfl)) | ((with_reducible refine r_sf ?_ ?_);(· rfl)) | ((with_reducible refine r_su (xs:=[]) ?_ ?_);(· rfl)) | refine r_ff rfl (o_mov (s_no ?_))
  try dsimp only [putF,rd,Frame.get]
  first | ((with_reducible refine r_st ?_ ?_);(· rfl)) | ((with_reducible refine r_sf ?_ ?_);(· rfl)) | ((with_reducible refine r_su (xs:=[]) ?_ ?_);(· rfl)) | refine r_ff rfl (o_iaddr hS rfl rfl rfl (by omega) (s_no ?_)) | refine r_ff rfl (o_iaddr0 hS rfl rfl rfl (by omega) (s_no ?_)) | refine r_ff rfl (o_iaddrR rfl rfl (by omega) (by assumption) (s_no ?_)) | refine r_ff rfl (o_iaddrA rfl rfl (by omega) (s_no ?_)) | refine r_ff rfl (o_iaddrAR rfl rfl (by omega) (s_no ?_))
  try dsimp only [putF,rd,Frame.get]
  try simp only [Nat.zero_mul,Nat.mul_zero,Nat.mul_one,Nat.add_zero,Nat.zero_add,Nat.sub_zero,Nat.reduceAdd,Nat.reduceMul]
  first | ((with_reducible refine r_st ?_ ?_);(· rfl)) | ((with_reducible refine r_sf ?_ ?_);(· rfl)) | ((with_reducible refine r_su (xs:=[]) ?_ ?_);(· rfl)) | refine r_ff rfl (o_load hS rfl rfl rfl rfl (s_no ?_)) | refine r_ff rfl (o_load hS rfl rfl (by assumption) rfl (s_no ?_)) | refine r_ff rfl (o_loadR rfl rfl rfl (s_no ?_)) | refine r_ff rfl (o_loadR rfl (by assumption) rfl (s_no ?_))
  try dsimp only [putF,rd,Frame.get]
  refine r_ff rfl ?_
  refine o_neqH rfl rfl ?_
  refine s_no ?_
  try dsimp only [putF,rd,Frame.get]
  first | refine r_op (o_pickT rfl (s_no ?_)) | refine r_op (o_pickF rfl (s_no ?_))
  try dsimp only [putF,rd,Frame.get]
  refine r_nil (c_keep ?_)
  try dsimp only [List.map]
  try dsimp only [putF,rd,Frame.get]
  repeat (with_reducible first | refine c_seq ?_ | refine on_n ?_ | refine c_skip ?_ | refine c_block ?_ | refine on_r ?_ | refine c_ret ?_ | refine c_exit ?_ | refine on_e ?_ | refine ob_e ?_ | refine ob_n ?_ | refine ob_r ?_ | refine ob_x rfl ?_)
  refine c_bool rfl (fun hg=>by cases hg) (fun hg=>?_)
  repeat (with_reducible first | refine c_seq ?_ | refine on_n ?_ | refine c_skip ?_ | refine c_block ?_ | refine on_r ?_ | refine c_ret ?_ | refine c_exit ?_ | refine on_e ?_ | refine ob_e ?_ | refine ob_n ?_ | refine ob_r ?_ | refine ob_x rfl ?_)
  refine c_ops ?_
  refine r_op (o_mov (s_no ?_))
  try dsimp only [putF,rd,Frame.get]
  refine r_op (o_bin rfl (by first | trivial | (unfold inI64;omega)) (s_no ?_))
  try dsimp only [putF,rd,Frame.get]
  refine r_op (o_mov (s_no ?_))
  try dsimp only [putF,rd,Frame.get]
  refine r_nil (c_keep ?_)
  try dsimp only [List.map]
  try dsimp only [putF,rd,Frame.get]
  repeat (with_reducible first | refine c_seq ?_ | refine on_n ?_ | refine c_skip ?_ | refine c_block ?_ | refine on_r ?_ | refine c_ret ?_ | refine c_exit ?_ | refine on_e ?_ | refine ob_e ?_ | refine ob_n ?_ | refine ob_r ?_ | refine ob_x rfl ?_)
  exact ⟨n-(j+1),by omega,j+1,rfl,by omega,rfl,hS⟩
 ·repeat (with_reducible first | refine c_seq ?_ | refine on_n ?_ | refine c_skip ?_ | refine c_block ?_ | refine on_r ?_ | refine c_ret ?_ | refine c_exit ?_ | refine on_e ?_ | refine ob_e ?_ | refine ob_n ?_ | refine ob_r ?_ | refine ob_x rfl ?_)
  refine c_ops ?_
  refine r_op (o_mov (s_no ?_))
  try dsimp only [putF,rd,Frame.get]
  refine r_nil (c_keep ?_)
  try dsimp only [List.map]
  try dsimp only [putF,rd,Frame.get]
  repeat (with_reducible first | refine c_seq ?_ | refine on_n ?_ | refine c_skip ?_ | refine c_block ?_ | refine on_r ?_ | refine c_ret ?_ | refine c_exit ?_ | refine on_e ?_ | refine ob_e ?_ | refine ob_n ?_ | refine ob_r ?_ | refine ob_x rfl ?_)
  exact h _
end Go.Proofs.Pl
end
