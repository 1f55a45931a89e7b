/- Part of the proof of enginePlays_holds: the whole is true of every input. Conditions: none. -/
import Derived.Test.YtlibocgedgdmlaaGreatP6
set_option linter.all false
section
namespace Go.Vc
theorem MF {α:Type}: ∀ {F:List (Nat×α)} {s:Nat} {e:α},BL F s=some e->(s,e)∈F
 | [],s,e,h=>by simp [BL] at h
 | (k,x)::F,s,e,h=>by
  simp only [BL] at h;split at h
  ·rename_i hb;cases h;rw [beq_eq hb];simp
  ·exact List.mem_cons_of_mem _ (MF h)
theorem M7 {d:Nat}: ∀ {gs:List (Nat×Bool)},mentions d gs=false-> ∀q∈gs,q.1≠d
 | [],_,q,hq=>by cases hq
 | (g,b)::gs,h,q,hq=>by
  simp only [mentions] at h;split at h
  ·cases h
  ·rename_i hb;rcases List.mem_cons.1 hq with rfl | hq
   ·intro e;simp only at e;subst e;simp at hb
   ·exact M7 h q hq
theorem S7 {d:Nat}: ∀ {F:RF} {s:Nat} {gs:List (Nat×Bool)} {P:Prop} {x:TV},BL (T1 d F) s=some (gs,P,x)->(BL F s=some (gs,P,x)/\mentions d gs=false)\/(gs=[]/\P=True/\x= .C3)
 | [],s,gs,P,x,h=>by simp [T1,BL] at h
 | (t,g,q,z)::F,s,gs,P,x,h=>by
  simp only [T1] at h;split at h
  ·simp only [BL] at h;split at h
   ·cases h;exact .inr ⟨rfl,rfl,rfl⟩
   ·rename_i hb;rcases S7 h with ⟨h1,h2⟩ | h1
    ·exact .inl ⟨by simp only [BL,hb];exact h1,h2⟩
    ·exact .inr h1
  ·rename_i hm;simp only [BL] at h |-;split at h
   ·cases h;exact .inl ⟨by simp,hm⟩
   ·exact S7 h
theorem HU {A:Frame} {d s:Nat} {z:AA}:Frame.get ((d,z)::A) s=if d=s then z else A.get s:=by
 simp only [Frame.get];by_cases e:d=s
 ·subst e;simp
 ·rw [if_neg e];cases h:Nat.beq d s with
  | true=>exact (e (beq_eq h)).elim
  | false=>rfl
theorem Yh {A:Frame} {d:Nat} {z:AA} {gs:List (Nat×Bool)} (h: ∀q∈gs,q.1≠d):holds ((d,z)::A) gs↔holds A gs:=by
 unfold holds;refine forall_congr' fun q=>forall_congr' fun hq=>?_;rw [HU,if_neg (fun e=>h q hq e.symm)]
theorem pg {H:HF} {A:Frame} {s:Nat}:jr H A s [] True .C3:=⟨fun _=>by simp [AE],fun h=>(h BD).elim,⟨fun _=>trivial,fun _=>BD⟩⟩
theorem NC {H:HF} {F:RF} {A:Frame} (hF:Cl H F A) {d:Option Nat} {gs:List (Nat×Bool)} {P:Prop} {x:TV} {z:AA} (h1:holds A gs->AE H x z) (h2: ¬holds A gs->z= .DH []) (h3:holds A gs↔P):Cl H (K8 F d gs P x) (AK A d z):=by
 cases d with
 | none=>exact hF
 | some d=>
  have rest: ∀s gs' P' x',d≠s->BL (T1 d F) s=some (gs',P',x')->jr H ((d,z)::A) s gs' P' x':=fun s gs' P' x' hne h=>by
   rcases S7 h with ⟨g1,g2⟩ | ⟨rfl,rfl,rfl⟩
   ·have e:=hF _ _ _ _ g1;have hp:=Yh (A:=A) (z:=z) (M7 g2);exact ⟨fun q=>by rw [HU,if_neg hne];exact e.on (hp.1 q),fun q=>by rw [HU,if_neg hne];exact e.off fun q'=>q (hp.2 q'),hp.trans e.iff⟩
   ·exact pg
  intro s gs' P' x' hx;simp only [K8] at hx;split at hx
  ·simp only [BL] at hx;split at hx
   ·cases hx;exact pg
   ·rename_i hb;exact rest s _ _ _ (fun e=>by subst e;simp at hb) hx
  ·rename_i hm;simp only [BL] at hx;split at hx
   ·rename_i hb;cases hx;have e:=beq_eq hb;subst e;have hp:=Yh (A:=A) (z:=z) (M7 hm);exact ⟨fun q=>by simp only [AK];rw [HU,if_pos rfl];exact h1 (hp.1 q),fun q=>by simp only [AK];rw [HU,if_pos rfl];exact h2 fun q'=>q (hp.2 q'),hp.trans h3⟩
   ·rename_i hb;exact rest s _ _ _ (fun e=>by subst e;simp at hb) hx
theorem II {H:HF} {F:RF} {A:Frame} (hF:Cl H F A) {d:Option Nat} {x:TV} {z:AA} (h:AE H x z):Cl H (K8 F d [] True x) (AK A d z):=
 NC hF (fun _=>h) (fun h=>(h BD).elim) ⟨fun _=>trivial,fun _=>BD⟩
theorem RK {H:HF} {H5:Bool} {x y:TV} (h:u7 H5 x=some y) {z:AA} (hs:AE H x z) {K:AA->Prop} (hk: ∀u,AE H y u->K u):Ao H5 z K:=by
 cases H5
 ·simp only [u7,Option.some.injEq] at h;subst h;exact hk _ hs
 ·simp only [u7] at h;split at h<;>cases h;rename_i p hp;simp only [Ao];cases x<;>simp only [oY] at hp<;>cases hp<;>simp only [AE] at hs
  ·subst hs;exact ⟨fun _=>hk _ (by simp [AE]),fun e=>by cases e⟩
  ·subst hs;exact ⟨fun e=>by (cases e),fun _=>hk _ (by simp [AE])⟩
  ·subst hs;exact ⟨fun e=>hk _ (by simp [AE,e]),fun e=>hk _ (by simp [AE,e])⟩
  ·obtain ⟨b,rfl,hb⟩:=hs;exact ⟨fun e=>hk _ (by simp only [AE];exact .inl ⟨trivial,hb.1 e⟩),fun e=>hk _ (by simp only [AE];exact .inr ⟨trivial,fun q=>by rw [hb.2 q] at e;cases e⟩)⟩
  ·rcases hs with ⟨rfl,hq⟩ | ⟨rfl,hq⟩
   ·exact hk _ (by simp only [AE];exact .inl ⟨trivial,hq⟩)
   ·exact hk _ (by simp only [AE];exact .inr ⟨trivial,hq⟩)
theorem Vh {A:Frame} {g:Nat} {gs:List (Nat×Bool)} {q p:Prop} (hq:holds A gs↔q) (w:Bool) (hg:holds A gs->A.get g= .tt/\p\/A.get g= .ff/\ ¬p) (hn: ¬holds A gs->A.get g= .DH []):
  holds A ((g,w)::gs)↔Jd gs q p w:=by
 have split:holds A ((g,w)::gs)↔A.get g=(if w then .tt else .ff)/\holds A gs:=by
  simp [holds]
 have base:holds A gs->((A.get g=if w then .tt else .ff)↔if w then p else ¬p):=fun h=>by
  rcases hg h with ⟨e,hp⟩ | ⟨e,hp⟩<;>rw [e]<;>cases w<;>simp [hp]
 have e1:holds A ((g,w)::gs)↔q/\(if w then p else ¬p):=by
  rw [split,<-hq];exact ⟨fun ⟨a,b⟩=>⟨b,(base b).1 a⟩,fun ⟨a,b⟩=>⟨(base a).2 b,a⟩⟩
 rw [e1];cases gs with
 | nil=>
  have:q:=hq.1 BD;cases w<;>simp [Jd,this]
 | cons=>cases w<;>simp [Jd]
section
variable {P : Program} {Γ : List (Nat × Ct)} {call : Nat -> List TV -> List RF -> List CI -> (TV -> List RF -> List CI -> Prop) -> Prop}
structure ZV (P:Program) (call:Nat->List TV->List RF->List CI->(TV->List RF->List CI->Prop)->Prop):Prop where
 out: ∀ {f:Nat} {xs:List TV} {G:List RF} {TS:List CI} {K:TV->List RF->List CI->Prop},call f xs G TS K-> ∀ {H:HF} {S:AB} {AG:List Frame} {ys:List AA},Dn H TS S->EE H G AG->AN H xs ys->
  AV P f ys S fun r S'=> ∃H' G' TS' x,K x G' TS'/\Dn H' TS' S'/\EE H' G' AG/\AE H' x r
theorem kN {H:HF} {f:Nat} {cap:List TV} {y:AA} (h:AE H (.fn f cap) y): ∃xs,y= .fn (.func f) [] xs/\AN H cap xs:=by simpa only [AE] using h
theorem Tn {F:Frame} {S:AB} {K:AA->AB->Prop} {so:EL} (hq: ∀z,AE (fun _=>none) .C3 z) (h:DI P F S K so) (hn:so.quiet=true):AF P F S K so:=by
 obtain ⟨x,h1,h2⟩:=O9 hn h;exact h2 K h1
theorem Ow {ht:Option Ty} {F:RF} {path:List (Nat×Bool)} {TS:List CI} {so:EL} {r:List Prop×TV} (h:uQ Γ ht F path TS so=some r):so.quiet=true:=by
 cases so<;>simp only [uQ] at h<;>(try (cases h;done))<;>(try rfl)
 case Ax ro len k z parts=>
  split at h
  ·rfl
  ·cases h
theorem step_mk {K:Frame->AB->Prop} {m:Nat} {o:C9} {rest:List C9} {A:Frame} {S:AB} (hg:o.guard=none)
  (h0:m=0->AF P A S (fun x S'=>Ao o.H5 x fun x=>Aj P K 0 rest (AK A o.dst x) S') o.op)
  (h1:m≠0->DI P A S (fun x S'=>Ao o.H5 x fun x=>Aj P K (m-1) rest (AK A o.dst x) S') o.op):Aj P K m (o::rest) A S:=by
 cases m with
 | zero=>simp only [Aj,BK,hg];simpa [Aj] using h0 rfl
 | succ m=>simp only [Aj,hg];simpa using h1 (by simp)
theorem step_skip {K:Frame->AB->Prop} {m:Nat} {o:C9} {rest:List C9} {A:Frame} {S:AB} {g:Nat} {w:Bool} (hg:o.guard=some (g,w)) (hv:A.get g= .DH []\/A.get g=(if w then .ff else .tt))
  (h:Aj P K (m-1) rest (AK A o.dst (.DH [])) S):Aj P K m (o::rest) A S:=by
 cases m with
 | zero=>
  simp only [Aj,BK,hg,Bj];rcases hv with e | e<;>rw [e]
  ·simpa [Aj] using h
  ·cases w<;>simpa [Aj] using h
 | succ m=>
  simp only [Aj,hg,Bj];rcases hv with e | e<;>rw [e]
  ·simpa using h
  ·cases w<;>simpa using h
theorem kz {K:Frame->AB->Prop} {m:Nat} {o:C9} {rest:List C9} {A:Frame} {S:AB} {g:Nat} {w:Bool} (hg:o.guard=some (g,w)) (hv:A.get g=(if w then .tt else .ff))
  (hq:o.op.quiet=true) (h:DI P A S (fun x S'=>Ao o.H5 x fun x=>Aj P K (m-1) rest (AK A o.dst x) S') o.op):Aj P K m (o::rest) A S:=by
 cases m with
 | zero=>
  simp only [Aj,BK,hg,Bj];have:=Tn (fun _=>by simp [AE]) h hq;rw [hv];cases w<;>simpa [Aj] using this
 | succ m=>
  simp only [Aj,hg,Bj];rw [hv];cases w<;>simpa using h
theorem fR {K:Frame->AB->Prop} {o:C9} {rest:List C9} {A:Frame} {S:AB} {g:Nat} {w:Bool} (hg:o.guard=some (g,w)) (hv:A.get g=(if w then .tt else .ff))
  (h:AF P A S (fun x S'=>Ao o.H5 x fun x=>Aj P K 0 rest (AK A o.dst x) S') o.op):Aj P K 0 (o::rest) A S:=by
 simp only [Aj,BK,hg,Bj];rw [hv];cases w<;>simpa [Aj] using h
theorem Eo (hΓ:Cons P Γ) (hC:ZV P call) (hi:Hi) {K:TK}: ∀(ops:List C9) (m:Nat) {F:RF} {G:List RF} {TS:List CI} {H:HF} {A:Frame} {AG:List Frame} {S:AB} {K':Frame->AB->Prop},
  Dn H TS S->Cl H F A->EE H G AG->Me Γ call hi K m ops F G TS->
  (∀A' S' H' F' G' TS',Dn H' TS' S'->Cl H' F' A'->EE H' G' AG->K F' G' TS'->K' A' S')->Aj P K' m ops A S
 | [],m,F,G,TS,H,A,AG,S,K',st,hF,hG,h,hk=>by
  simp only [Me] at h;cases m<;>simp only [Aj,BK]<;>exact hk _ _ _ _ _ _ st hF hG h
 | o::rest,m,F,G,TS,H,A,AG,S,K',st,hF,hG,h,hk=>by
  unfold Me at h;split at h
  ·rename_i g w hgd;split at h
   ·rename_i gs q p hl;split at h
    ·rename_i ps y hev;split at h
     ·rename_i y' hy;rw [Ef,PH] at h;obtain ⟨FL,h⟩:=h;have JU:=hF _ _ _ _ hl;have hgv:holds A gs->A.get g= .tt/\p\/A.get g= .ff/\ ¬p:=fun hh=>by have:=JU.on hh;simpa only [AE] using this
      have hci:=Vh (w:=w) JU.iff hgv JU.off;by_cases hh:holds A ((g,w)::gs)
      ·refine kz hgd (by simpa using hh (g,w) (by simp)) (Ow hev) (Ox hΓ st hF hh hev (FL (hci.1 hh)) fun z hz=>RK hy hz fun u hu=>?_);exact Eo hΓ hC hi rest (m-1) st (NC hF (fun _=>hu) (fun q=>(q hh).elim) hci) hG h hk
      ·refine step_skip hgd ?_ (Eo hΓ hC hi rest (m-1) st (NC hF (fun q=>(hh q).elim) (fun _=>rfl) hci) hG h hk);by_cases hg0:holds A gs
       ·have:A.get g≠(if w then .tt else .ff):=fun e=>hh fun q hq=>by
         rcases List.mem_cons.1 hq with rfl | hq
         ·exact e
         ·exact hg0 q hq
        rcases hgv hg0 with ⟨e,_⟩ | ⟨e,_⟩<;>rw [e] at this |- <;>cases w<;>simp at this |-
       ·exact .inl (JU.off hg0)
     ·exact h.elim
    ·have JU:=hF _ _ _ _ hl;have hgv:holds A gs->A.get g= .tt/\p\/A.get g= .ff/\ ¬p:=fun hh=>by have:=JU.on hh;simpa only [AE] using this
     have hci:=Vh (w:=w) JU.iff hgv JU.off;have skip: ¬holds A ((g,w)::gs)->Me Γ call hi K 0 rest (K8 F o.dst ((g,w)::gs) (Jd gs q p w) (pE o.dst rest)) G TS->Aj P K' 0 (o::rest) A S:=fun hh h=>by
      refine step_skip hgd ?_ (Eo hΓ hC hi rest 0 st (NC hF (fun q=>(hh q).elim) (fun _=>rfl) hci) hG h hk);by_cases hg0:holds A gs
      ·have:A.get g≠(if w then .tt else .ff):=fun e=>hh fun q hq=>by
        rcases List.mem_cons.1 hq with rfl | hq
        ·exact e
        ·exact hg0 q hq
       rcases hgv hg0 with ⟨e,_⟩ | ⟨e,_⟩<;>rw [e] at this |- <;>cases w<;>simp at this |-
      ·exact .inl (JU.off hg0)
     have after:holds A ((g,w)::gs)-> ∀ {r:AA} {S':AB},(∃H' G' TS' x,(match G' with | F'::G'=>Me Γ call hi K 0 rest (K8 F' o.dst ((g,w)::gs) (Jd gs q p w) x) G' TS' | []=>False)/\Dn H' TS' S'/\EE H' G' (A::AG)/\AE H' x r)->Ao false r fun x=>Aj P K' 0 rest (AK A o.dst x) S':=fun hh {r S'} ⟨H',G',TS',x,q1,q2,q3,q4⟩=>by
      cases q3 with
      | cons f1 f2=>exact Eo hΓ hC hi rest 0 q2 (NC f1 (fun _=>q4) (fun q=>(q hh).elim) hci) f2 q1 hk
     split at h
     ·rename_i f args hG0 he;split at h
      ·rename_i xs hx;by_cases hh:holds A ((g,w)::gs)
       ·refine fR hgd (by simpa using hh (g,w) (by simp)) ?_;rw [hG0,he];have hs:=F_ hF hh hx;simp only [AF,Ar];exact DM (hC.out (h.1 (hci.1 hh)) st (.cons hF hG) hs) fun r S' q=>after hh q
       ·exact skip hh (h.2 fun c=>hh (hci.2 c))
      ·exact h.elim
     ·rename_i x args hG0 he;split at h
      ·rename_i f cap xs hx hxs;by_cases hh:holds A ((g,w)::gs)
       ·refine fR hgd (by simpa using hh (g,w) (by simp)) ?_;rw [hG0,he];have hs:=F_ hF hh hxs;obtain ⟨ys,e,hc⟩:=kN (Bm hF hh hx);simp only [AF,AD,Ar];rw [e];exact ⟨trivial,DM (hC.out (h.1 (hci.1 hh)) st (.cons hF hG) (hs.append hc)) fun r S' q=>after hh q⟩
       ·exact skip hh (h.2 fun c=>hh (hci.2 c))
      ·exact h.elim
     ·exact h.elim
   ·exact h.elim
  ·rename_i hgd;split at h
   ·rename_i ps y hev;split at h
    ·rename_i y' hy;rw [Ef] at h;obtain ⟨FL,h⟩:=h;have key:DI P A S (fun x S'=>Ao o.H5 x fun x=>Aj P K' (m-1) rest (AK A o.dst x) S') o.op:=
      Ox hΓ st hF BD hev FL fun z hz=>RK hy hz fun u hu=>Eo hΓ hC hi rest (m-1) st (II hF hu) hG h hk
     refine step_mk hgd (fun e=>?_) (fun _=>key);subst e;exact Tn (fun _=>by simp [AE]) key (Ow hev)
    ·exact h.elim
   ·split at h
    ·rename_i hG0;split at h
     ·rename_i ps y F1 G1 TS1 hev;rw [Ef] at h;obtain ⟨FL,h⟩:=h;refine step_mk hgd (fun _=>?_) (fun e=>(e rfl).elim);rw [hG0];exact mC hΓ st hF hG hev FL fun z S' H' q1 q2 q3 q4=>Eo hΓ hC hi rest 0 q1 (II q2 q4) q3 h hk
     ·refine step_mk hgd (fun _=>?_) (fun e=>(e rfl).elim);rw [hG0];have after: ∀ {r:AA} {S':AB},(∃H' G' TS' x,(match G' with | F'::G'=>Me Γ call hi K 0 rest (K8 F' o.dst [] True x) G' TS' | []=>False)/\Dn H' TS' S'/\EE H' G' (A::AG)/\AE H' x r)->Ao false r fun x=>Aj P K' 0 rest (AK A o.dst x) S':=fun {r S'} ⟨H',G',TS',x,q1,q2,q3,q4⟩=>by
       cases q3 with
       | cons f1 f2=>exact Eo hΓ hC hi rest 0 q2 (II f1 q4) f2 q1 hk
      split at h
      ·rename_i f args he;rw [he];split at h
       ·rename_i xs hx;have hs:=F_ hF BD hx;simp only [AF,Ar];exact DM (hC.out h st (.cons hF hG) hs) fun r S' q=>after q
       ·exact h.elim
      ·rename_i x args he;rw [he];split at h
       ·rename_i f cap xs hx hxs;have hs:=F_ hF BD hxs;obtain ⟨ys,e,hc⟩:=kN (Bm hF BD hx);simp only [AF,AD,Ar];rw [e];exact ⟨trivial,DM (hC.out h st (.cons hF hG) (hs.append hc)) fun r S' q=>after q⟩
       ·exact h.elim
      ·rename_i neg x he;rw [he];simp only [Ao];have goes: ∀ {b:Bool} {p:Prop},(b=true↔p)->Me Γ call hi K 0 rest (K8 F o.dst [] True (match (generalizing:=false) neg with | true=>.pr (¬p) | false=>.pr p)) G TS->Aj P K' 0 rest (AK A o.dst (.bool (b != neg))) S:=fun {b p} hb hh=>by
        refine Eo hΓ hC hi rest 0 st (II hF ?_) hG hh hk;cases neg<;>simp only [AE]
        ·exact ⟨b,by simp,hb⟩
        ·refine ⟨!b,by simp,?_⟩;rw [<-hb];simp
       split at h
       ·rename_i hx;have e:=Bm hF BD hx;simp only [AE] at e;simp only [AF,AD,e];refine Eo hΓ hC hi rest 0 st (II hF ?_) hG h hk;cases neg<;>simp [AE]
       ·rename_i y _ hx;have e:=Bm hF BD hx;split at h
        ·rename_i n hn;have AL:rd A x= .AL->n=0->AF P A S (fun x S'=>Aj P K' 0 rest (AK A o.dst x) S') (.HB neg x):=fun e0 h0=>by
          simp only [AF,AD,e0];have:=goes (b:=true) (p:=True) (by simp) (h True fun _=>h0);simpa using this
         unfold qD at hn;split at hn
         ·cases hn;simp only [AE] at e;simp only [AF,AD,e];exact fun b hb=>goes (p:=b=true) Iff.rfl (h (b=true) fun hb'=>by have:=hb hb';omega)
         ·rename_i l;split at hn<;>cases hn;rename_i t ls ho;simp only [AE] at e;obtain ⟨hd,e1,e2⟩:=e;obtain ⟨loc,q1,q2⟩:=Dl st ho;rw [q1] at e1;cases e1;cases loc with
          | none=>
           simp only [Cd] at q2;exact AL e2 (by rw [q2];rfl)
          | some pv=>
           simp only [K9] at e2;simp only [AF,AD,e2];exact fun b hb=>goes (p:=b=true) Iff.rfl (h (b=true) fun hb'=>by have:=hb hb';omega)
         ·rename_i l off len;cases hn;simp only [AE] at e;obtain ⟨hd,e1,r1,r2,r3,e2⟩:=e;cases hloc:hd.loc with
          | none=>
           have:=st.uU e1 hloc;rw [hloc] at e2;exact AL e2 (by omega)
          | some pv=>
           rw [hloc] at e2;simp only [K9] at e2;simp only [AF,AD,e2];exact fun b hb=>goes (p:=b=true) Iff.rfl (h (b=true) fun hb'=>by have:=hb hb';omega)
         ·cases hn
        ·exact h.elim
       ·exact h.elim
      ·exact h.elim
    ·exact h.elim
theorem To {K:Frame->AB->Prop}: ∀(l1:List C9) {l2:List C9} {A:Frame} {S:AB},BK P (fun A' S'=>BK P K l2 A' S') l1 A S->BK P K (l1++l2) A S
 | [],l2,A,S,h=>h
 | o::l1,l2,A,S,h=>by
  simp only [List.cons_append,BK] at h |-;have hop:AF P A S (fun x S'=>Ao o.H5 x fun x=>BK P (fun A' S'=>BK P K l2 A' S') l1 (AK A o.dst x) S') o.op->AF P A S (fun x S'=>Ao o.H5 x fun x=>BK P K (l1++l2) (AK A o.dst x) S') o.op:=fun h=>
   Kw (q:=false) (show Mj P false A S (fun x S'=>Ao o.H5 x fun x=>BK P (fun A' S'=>BK P K l2 A' S') l1 (AK A o.dst x) S') o.op from h) fun x S' h=>Gp h fun x h=>To l1 h
  cases hg:o.guard with
  | none=>rw [hg] at h;exact hop h
  | some gw=>
   obtain ⟨g,w⟩:=gw;rw [hg] at h;simp only [Bj] at h |-;generalize A.get g=c at*;cases c<;>cases w<;>simp only at h |- <;>first | exact h.elim | exact hop h | exact To l1 h
theorem Qd {K:Frame->AB->Prop}: ∀(l1:List C9) {l2:List C9} {A:Frame} {S:AB},Aj P (fun A' S'=>BK P K l2 A' S') l1.length l1 A S->Aj P K l1.length (l1++l2) A S
 | [],l2,A,S,h=>by simpa [Aj,BK] using h
 | o::l1,l2,A,S,h=>by
  simp only [List.cons_append,List.length_cons,Aj] at h |-;have hop:DI P A S (fun x S'=>Ao o.H5 x fun x=>Aj P (fun A' S'=>BK P K l2 A' S') l1.length l1 (AK A o.dst x) S') o.op->DI P A S (fun x S'=>Ao o.H5 x fun x=>Aj P K l1.length (l1++l2) (AK A o.dst x) S') o.op:=fun h=>
   Kw (q:=true) (show Mj P true A S (fun x S'=>Ao o.H5 x fun x=>Aj P (fun A' S'=>BK P K l2 A' S') l1.length l1 (AK A o.dst x) S') o.op from h) fun x S' h=>Gp h fun x h=>Qd l1 h
  cases hg:o.guard with
  | none=>rw [hg] at h;exact hop h
  | some gw=>
   obtain ⟨g,w⟩:=gw;rw [hg] at h;simp only [Bj] at h |-;generalize A.get g=c at*;cases c<;>cases w<;>simp only at h |- <;>first | exact h.elim | exact hop h | exact Qd l1 h
theorem Dn.kj {H:HF} {TS:List CI} {S:AB} (st:Dn H TS S) {o:CI} {b:Ob} {p v k n:Nat} (hp:S[p]?=some .dead) (ho: ∀H',Ug H H'->H' TS.length=some ⟨some (p,v),k,n,[]⟩->Qm H' (S.set p b) TS.length o):
  ∃H',Ug H H'/\Dn H' (TS++[o]) (S.set p b)/\H' TS.length=some ⟨some (p,v),k,n,[]⟩:=by
 have hlt:p<S.length:=(List.getElem?_eq_some_iff.1 hp).1;have free: ∀l h q w,H l=some h->h.loc=some (q,w)->q≠p:=fun l h q w e1 e2 e=>by
  subst e;have hl:l<TS.length:=by
   rcases Nat.lt_or_ge l TS.length with c | c
   ·exact c
   ·rw [st.out l c] at e1;cases e1
  have:=st.ob l _ (List.getElem?_eq_getElem hl);generalize TS[l]=o at this;cases o with
  | dead=>simp only [Qm] at this;rw [this] at e1;cases e1
  | cells k cs=>
   obtain ⟨p',v',xs,h1,h2,_⟩:=this;rw [h1] at e1;cases e1;cases e2;rw [hp] at h2;cases h2
  | row t ls=>
   obtain ⟨loc,h1,h2⟩:=this;rw [h1] at e1;cases e1;simp only at e2;subst e2;simp only [Cd] at h2;rw [hp] at h2;cases h2
  | Eg t ls=>
   obtain ⟨p',v',sub,h1,h2,_⟩:=this;rw [h1] at e1;cases e1;cases e2;rw [hp] at h2;cases h2
 have freeS: ∀(l:Nat) (h:Hd) (i q w n:Nat),H l=some h->h.sub[i]?=some (some (q,w),n)->q≠p:=fun l h i q w n e1 e2 e=>by
  subst e;have hl:l<TS.length:=by
   rcases Nat.lt_or_ge l TS.length with c | c
   ·exact c
   ·rw [st.out l c] at e1;cases e1
  have:=st.ob l _ (List.getElem?_eq_getElem hl);generalize TS[l]=o at this;cases o with
  | dead=>simp only [Qm] at this;rw [this] at e1;cases e1
  | cells k cs=>
   obtain ⟨p',v',xs,h1,h2,_⟩:=this;rw [h1] at e1;cases e1;simp at e2
  | row t ls=>
   obtain ⟨loc,h1,h2⟩:=this;rw [h1] at e1;cases e1;simp at e2
  | Eg t ls=>
   obtain ⟨p',v',sub,h1,h2,h3⟩:=this;rw [h1] at e1;cases e1;have hi:i<ls.length:=by rw [<-h3.len];exact (List.getElem?_eq_some_iff.1 e2).1
   have:=(h3.at_ i _ _ (List.getElem?_eq_getElem hi) e2).2;simp only [Cd] at this;rw [hp] at this;cases this
 have AW: ∀l h q w,H l=some h->h.loc=some (q,w)->(S.set p b)[q]?=S[q]?:=fun l h q w e1 e2=>by
  rw [List.getElem?_set_ne (fun e=>free l h q w e1 e2 e.symm)]
 have hl:Ug H (fun l=>if l=TS.length then some ⟨some (p,v),k,n,[]⟩ else H l):=fun l h e=>by
  have:l≠TS.length:=fun q=>by rw [q,st.out _ (Nat.le_refl _)] at e;cases e
  simp [this,e]
 refine ⟨fun l=>if l=TS.length then some ⟨some (p,v),k,n,[]⟩ else H l,hl,⟨fun l o' h=>?_,fun l h=>?_,fun l l' h h' q w w' e1 e2 e3 e4=>?_,fun l i h q w n e1 e2=>?_⟩,by simp⟩
 ·rcases Nat.lt_or_ge l TS.length with q | q
  ·rw [List.getElem?_append_left q] at h;have:=st.ob l o' h;cases o' with
   | dead=>simp only [Qm] at*;rw [if_neg (by omega)];exact this
   | cells k cs=>
    obtain ⟨p',v',xs,h1,h2,h3⟩:=this;exact ⟨p',v',xs,hl _ _ h1,by rw [AW l _ _ _ h1 rfl];exact h2,h3.ext hl⟩
   | row t' ls'=>
    obtain ⟨loc,h1,h2⟩:=this;refine ⟨loc,hl _ _ h1,?_⟩;cases loc with
    | none=>exact h2
    | some q'=>simp only [Cd] at*;rw [AW l _ _ _ h1 rfl];exact h2
   | Eg t' ls'=>
    obtain ⟨p',v',sub,h1,h2,h3⟩:=this;exact ⟨p',v',sub,hl _ _ h1,by rw [AW l _ _ _ h1 rfl];exact h2,h3.ext fun p2 x ⟨j,v2,n2,hj⟩ hx=>by rw [List.getElem?_set_ne (fun e=>freeS l _ j p2 v2 n2 h1 hj e.symm)];exact hx⟩
  ·rw [List.getElem?_append_right q] at h;have:l=TS.length:=by
    rcases Nat.lt_or_ge (l-TS.length) 1 with q | q
    ·omega
    ·rw [List.getElem?_eq_none (by simpa using q)] at h;cases h
   subst this;simp at h;subst h;exact ho _ hl (by simp)
 ·simp at h;rw [if_neg (by omega)];exact st.out l (by omega)
 ·split at e1<;>split at e2
  ·rename_i a b;rw [a,b]
  ·cases e1;cases e3;exact (free _ _ _ _ e2 e4 rfl).elim
  ·cases e2;cases e4;exact (free _ _ _ _ e1 e3 rfl).elim
  ·exact st.inj _ _ _ _ _ _ _ e1 e2 e3 e4
 ·split at e1
  ·cases e1;simp at e2
  ·obtain ⟨g1,g2,g3⟩:=st.sub l i h q w n e1 e2;refine ⟨by rw [List.length_set];exact g1,fun l' h' v' q1 q2=>?_,fun l' i' h' v' n' q1 q2=>?_⟩
   ·split at q1
    ·cases q1;cases q2;exact freeS l h i _ w n e1 e2 rfl
    ·exact g2 _ _ _ q1 q2
   ·split at q1
    ·cases q1;simp at q2
    ·exact g3 _ _ _ _ _ q1 q2
theorem IB (hΓ:Cons P Γ) (hi:Hi) {TS:List CI} {H:HF} {S:AB} (st:Dn H TS S): ∀(ops:List C9) (m:Nat) {F F':RF} {ps:List Prop} {A:Frame} {K':Frame->AB->Prop},
  Cl H F A->T6 Γ hi TS ops F=some (ps,F')->GI ps->(∀A',Cl H F' A'->K' A' S)->Aj P K' m ops A S
 | [],m,F,F',ps,A,K',hF,h,FL,hk=>by
  simp only [T6,Option.some.injEq,Prod.mk.injEq] at h;obtain ⟨_,rfl⟩:=h;cases m<;>simp only [Aj,BK]<;>exact hk _ hF
 | o::rest,m,F,F',ps,A,K',hF,h,FL,hk=>by
  have app: ∀ {a b:List Prop},GI (a++b)->GI a/\GI b:=fun {a b} h=>⟨fun p hp=>h p (by simp [hp]),fun p hp=>h p (by simp [hp])⟩
  unfold T6 at h;split at h
  ·rename_i g w hgd;split at h
   ·rename_i gs q p hl;split at h
    ·rename_i ps1 y hev;split at h
     ·rename_i y' hy;split at h<;>cases h;rename_i qs hr;obtain ⟨hp1,hp2⟩:=app FL;rw [PH] at hp1;have JU:=hF _ _ _ _ hl;have hgv:holds A gs->A.get g= .tt/\p\/A.get g= .ff/\ ¬p:=fun hh=>by have:=JU.on hh;simpa only [AE] using this
      have hci:=Vh (w:=w) JU.iff hgv JU.off;by_cases hh:holds A ((g,w)::gs)
      ·refine kz hgd (by simpa using hh (g,w) (by simp)) (Ow hev) (Ox hΓ st hF hh hev (hp1 (hci.1 hh)) fun z hz=>RK hy hz fun u hu=>?_);exact IB hΓ hi st rest (m-1) (NC hF (fun _=>hu) (fun q=>(q hh).elim) hci) hr hp2 hk
      ·refine step_skip hgd ?_ (IB hΓ hi st rest (m-1) (NC hF (fun q=>(hh q).elim) (fun _=>rfl) hci) hr hp2 hk);by_cases hg0:holds A gs
       ·have:A.get g≠(if w then .tt else .ff):=fun e=>hh fun q hq=>by
         rcases List.mem_cons.1 hq with rfl | hq
         ·exact e
         ·exact hg0 q hq
        rcases hgv hg0 with ⟨e,_⟩ | ⟨e,_⟩<;>rw [e] at this |- <;>cases w<;>simp at this |-
       ·exact .inl (JU.off hg0)
     ·cases h
    ·cases h
   ·cases h
  ·rename_i hgd;split at h
   ·rename_i ps1 y hev;split at h
    ·rename_i y' hy;split at h<;>cases h;rename_i qs hr;obtain ⟨hp1,hp2⟩:=app FL;have key:DI P A S (fun x S'=>Ao o.H5 x fun x=>Aj P K' (m-1) rest (AK A o.dst x) S') o.op:=
      Ox hΓ st hF BD hev hp1 fun z hz=>RK hy hz fun u hu=>IB hΓ hi st rest (m-1) (II hF hu) hr hp2 hk
     refine step_mk hgd (fun e=>?_) (fun _=>key);subst e;exact Tn (fun _=>by simp [AE]) key (Ow hev)
    ·cases h
   ·cases h
theorem Dn.vM {H:HF} {TS:List CI} {S:AB} (st:Dn H TS S) (t:Ty) (ls:List (T t)) (v:Nat) {p:Nat} (hp:S[p]?=some .dead):
  ∃H',Ug H H'/\Dn H' (TS++[.row t ls]) (S.set p (.row v (G9 t) (ls.flatMap (BP t))))/\H' TS.length=some ⟨some (p,v),G9 t,ls.length,[]⟩:=
 st.kj hp fun H' _ h=>⟨_,h,by simp only [Cd];rw [List.getElem?_set_self (List.getElem?_eq_some_iff.1 hp).1]⟩
theorem Dn.sK {H:HF} {TS:List CI} {S:AB} (st:Dn H TS S) (k:Nat) {cs:List TV} {xs:List AA} (hs:AN H cs xs) (v:Nat) {p:Nat} (hp:S[p]?=some .dead):
  ∃H',Ug H H'/\Dn H' (TS++[.cells k cs]) (S.set p (.row v k xs))/\H' TS.length=some ⟨some (p,v),k,cs.length,[]⟩:=
 st.kj hp fun H' hl h=>⟨_,_,_,h,by rw [List.getElem?_set_self (List.getElem?_eq_some_iff.1 hp).1],hs.ext hl⟩
theorem NK (hΓ:Cons P Γ) (hi:Hi) {K:List C9->TK}: ∀(ops:List C9) (q:Nat) {F:RF} {G:List RF} {TS:List CI} {H:HF} {A:Frame} {AG:List Frame} {S:AB} {K':Frame->AB->Prop},
  Dn H TS S->Cl H F A->EE H G AG->nv Γ hi K q ops F G TS->q<=S.length->(∀d,0<d->d<=q->S[S.length-d]?=some .dead)->
  (∀rest A' S' H' F' G' TS',Dn H' TS' S'->Cl H' F' A'->EE H' G' AG->K rest F' G' TS'->BK P K' rest A' S')->BK P K' ops A S
 | ops,0,F,G,TS,H,A,AG,S,K',st,hF,hG,h,_,_,hk=>by cases ops<;>exact hk _ _ _ _ _ _ _ st hF hG h
 | [],q+1,F,G,TS,H,A,AG,S,K',st,hF,hG,h,_,_,hk=>h.elim
 | o::rest,q+1,F,G,TS,H,A,AG,S,K',st,hF,hG,h,hql,hd,hk=>by
  unfold nv at h;split at h
  ·rename_i d k b z len cap hg hG0 ho;split at h
   ·rename_i ps y F1 G1 TS1 hq hev;have hq:=beq_eq hq;subst hq;rw [Ef] at h;obtain ⟨FL,h⟩:=h;simp only [BK,hg,hG0,ho,Ao];unfold Qf at hev;split at hev
    ·rename_i a c hx hz;have h2:=Bm hF BD hx;have h3:=Bm hF BD hz;generalize (match o.dst with | some d=>BL hi.ty d | none=>none)=ht at hev;unfold sX at hev;split at hev
     ·rename_i t cs k1 n k2 m _ hz' hi1 hi2;split at hev<;>cases hev;rename_i x _ hd' hsz hkk;have hkk:=H7 hkk;subst hkk;have g1:=FL.cons;have g2:=g1.2.cons;have g3:=g2.2.cons;have q1:=g1.1;have q2:=g2.1;have q3:=g3.1;have hdead:=hd (q+1) (by omega) (Nat.le_refl _);simp only [AF,AD,E9 hi1 h2,E9 hi2 h3,Lu];refine ⟨n.toNat,by omega,by rw [q1],q3,by omega,hql,hdead,fun v=>?_⟩;obtain ⟨e1,e2⟩:=KZ (H:=H) 1 hd' (Ik hz');simp only [List.flatMap_cons,List.flatMap_nil,List.append_nil] at e2;obtain ⟨H',p1,p2,p3⟩:=st.vM t (List.replicate n.toNat x) v hdead;have e3:(List.replicate n.toNat z).flatten=(List.replicate n.toNat x).flatMap (BP t):=by
       rw [e2,List.flatMap,List.map_replicate]
      rw [e3,<-beq_eq hsz];rw [F9,GP] at h;refine NK hΓ hi rest q p2 (II (hF.ext p1) (by simp only [AE];exact ⟨_,p3,by simp only [K9,List.length_replicate]⟩)) (hG.ext p1) h (by rw [List.length_set];omega) (fun d0 h0 h1=>?_) hk;rw [List.length_set,List.getElem?_set_ne (by omega)];exact hd d0 h0 (by omega)
     ·cases hev
    ·cases hev
   ·exact h.elim
  ·rename_i d k z hg hG0 ho;split at h
   ·rename_i cs hq hz;have hq:=beq_eq hq;subst hq;simp only [BK,hg,hG0,ho,Ao];have hdead:=hd (q+1) (by omega) (Nat.le_refl _);simp only [AF];refine ⟨by omega,hql,hdead,fun v=>?_⟩;obtain ⟨H',p1,p2,p3⟩:=st.sK k (Ik hz) v hdead;rw [F9,GP] at h;refine NK hΓ hi rest q p2 (II (hF.ext p1) (by simp only [AE];exact ⟨_,_,_,p3,rfl,rfl⟩)) (hG.ext p1) h (by rw [List.length_set];omega) (fun d0 h0 h1=>?_) hk;rw [List.length_set,List.getElem?_set_ne (by omega)];exact hd d0 h0 (by omega)
   ·exact h.elim
  ·split at h
   ·rename_i ps F1 hev;rw [Ef] at h;have:=IB hΓ hi st [o] 0 (K':=fun A' S'=>BK P K' rest A' S') hF hev h.1 fun A' hA=>NK hΓ hi rest (q+1) st hA hG h.2 hql hd hk;exact To [o] this
   ·exact h.elim
end
end Go.Vc
end
