/- Part of the proof of topEngine_holds: the whole is true of every input. Conditions: none. -/
import Derived.Test.YtlibocgedgdmlaaGreatQ6
set_option linter.all false
section
namespace Go.Vc
theorem LW {α:Type}: ∀ {F:List (Nat×α)} {s:Nat} {e:α},BE F s=some e->(s,e)∈F
 | [],s,e,h=>by simp [BE] at h
 | (k,x)::F,s,e,h=>by
  simp only [BE] at h;split at h
  ·rename_i hb;cases h;rw [beq_eq hb];simp
  ·exact List.mem_cons_of_mem _ (LW h)
theorem MM {d:Nat}: ∀ {gs:List (Nat×Bool)},mentions d gs=false-> ∀q∈gs,q.1≠d
 | [],_,q,hq=>by cases hq
 | (g,b)::gs,h,q,hq=>by
  simp only [mentions] at h;split at h
  ·cases h
  ·rename_i hb;rcases List.mem_cons.1 hq with rfl | hq
   ·intro e;simp only at e;subst e;simp at hb
   ·exact MM h q hq
theorem Rx {d:Nat}: ∀ {F:RF} {s:Nat} {gs:List (Nat×Bool)} {P:Prop} {x:TV},BE (Sb d F) s=some (gs,P,x)->(BE F s=some (gs,P,x)/\mentions d gs=false)\/(gs=[]/\P=True/\x= .Ci)
 | [],s,gs,P,x,h=>by simp [Sb,BE] at h
 | (t,g,q,z)::F,s,gs,P,x,h=>by
  simp only [Sb] at h;split at h
  ·simp only [BE] at h;split at h
   ·cases h;exact .inr ⟨rfl,rfl,rfl⟩
   ·rename_i hb;rcases Rx h with ⟨h1,h2⟩ | h1
    ·exact .inl ⟨by simp only [BE,hb];exact h1,h2⟩
    ·exact .inr h1
  ·rename_i hm;simp only [BE] at h |-;split at h
   ·cases h;exact .inl ⟨by simp,hm⟩
   ·exact Rx h
theorem Gj {A:Frame} {d s:Nat} {z:AA}:Frame.get ((d,z)::A) s=if d=s then z else A.get s:=by
 simp only [Frame.get];by_cases e:d=s
 ·subst e;simp
 ·rw [if_neg e];cases h:Nat.beq d s with
  | true=>exact (e (beq_eq h)).elim
  | false=>rfl
theorem XM {A:Frame} {d:Nat} {z:AA} {gs:List (Nat×Bool)} (h: ∀q∈gs,q.1≠d):holds ((d,z)::A) gs↔holds A gs:=by
 unfold holds;refine forall_congr' fun q=>forall_congr' fun hq=>?_;rw [Gj,if_neg (fun e=>h q hq e.symm)]
theorem n_ {H:HF} {A:Frame} {s:Nat}:iA H A s [] True .Ci:=⟨fun _=>by simp [AE],fun h=>(h A9).elim,⟨fun _=>trivial,fun _=>A9⟩⟩
theorem MT {H:HF} {F:RF} {A:Frame} (hF:CS H F A) {d:Option Nat} {gs:List (Nat×Bool)} {P:Prop} {x:TV} {z:AA} (h1:holds A gs->AE H x z) (h2: ¬holds A gs->z= .DG []) (h3:holds A gs↔P):CS H (KT F d gs P x) (AK A d z):=by
 cases d with
 | none=>exact hF
 | some d=>
  have rest: ∀s gs' P' x',d≠s->BE (Sb d F) s=some (gs',P',x')->iA H ((d,z)::A) s gs' P' x':=fun s gs' P' x' hne h=>by
   rcases Rx h with ⟨g1,g2⟩ | ⟨rfl,rfl,rfl⟩
   ·have e:=hF _ _ _ _ g1;have hp:=XM (A:=A) (z:=z) (MM g2);exact ⟨fun q=>by rw [Gj,if_neg hne];exact e.on (hp.1 q),fun q=>by rw [Gj,if_neg hne];exact e.off fun q'=>q (hp.2 q'),hp.trans e.iff⟩
   ·exact n_
  intro s gs' P' x' hx;simp only [KT] at hx;split at hx
  ·simp only [BE] at hx;split at hx
   ·cases hx;exact n_
   ·rename_i hb;exact rest s _ _ _ (fun e=>by subst e;simp at hb) hx
  ·rename_i hm;simp only [BE] at hx;split at hx
   ·rename_i hb;cases hx;have e:=beq_eq hb;subst e;have hp:=XM (A:=A) (z:=z) (MM hm);exact ⟨fun q=>by simp only [AK];rw [Gj,if_pos rfl];exact h1 (hp.1 q),fun q=>by simp only [AK];rw [Gj,if_pos rfl];exact h2 fun q'=>q (hp.2 q'),hp.trans h3⟩
   ·rename_i hb;exact rest s _ _ _ (fun e=>by subst e;simp at hb) hx
theorem HQ {H:HF} {F:RF} {A:Frame} (hF:CS H F A) {d:Option Nat} {x:TV} {z:AA} (h:AE H x z):CS H (KT F d [] True x) (AK A d z):=
 MT hF (fun _=>h) (fun h=>(h A9).elim) ⟨fun _=>trivial,fun _=>A9⟩
theorem QX {H:HF} {G9:Bool} {x y:TV} (h:t_ G9 x=some y) {z:AA} (hs:AE H x z) {K:AA->Prop} (hk: ∀u,AE H y u->K u):Al G9 z K:=by
 cases G9
 ·simp only [t_,Option.some.injEq] at h;subst h;exact hk _ hs
 ·simp only [t_] at h;split at h<;>cases h;rename_i p hp;simp only [Al];cases x<;>simp only [mS] at hp<;>cases hp<;>simp only [AE] at hs
  ·subst hs;exact ⟨fun _=>hk _ (by simp [AE]),fun e=>by cases e⟩
  ·subst hs;exact ⟨fun e=>by (cases e),fun _=>hk _ (by simp [AE])⟩
  ·subst hs;exact ⟨fun e=>hk _ (by simp [AE,e]),fun e=>hk _ (by simp [AE,e])⟩
  ·obtain ⟨b,rfl,hb⟩:=hs;exact ⟨fun e=>hk _ (by simp only [AE];exact .inl ⟨trivial,hb.1 e⟩),fun e=>hk _ (by simp only [AE];exact .inr ⟨trivial,fun q=>by rw [hb.2 q] at e;cases e⟩)⟩
  ·rcases hs with ⟨rfl,hq⟩ | ⟨rfl,hq⟩
   ·exact hk _ (by simp only [AE];exact .inl ⟨trivial,hq⟩)
   ·exact hk _ (by simp only [AE];exact .inr ⟨trivial,hq⟩)
theorem UM {A:Frame} {g:Nat} {gs:List (Nat×Bool)} {q p:Prop} (hq:holds A gs↔q) (w:Bool) (hg:holds A gs->A.get g= .tt/\p\/A.get g= .ff/\ ¬p) (hn: ¬holds A gs->A.get g= .DG []):
  holds A ((g,w)::gs)↔Ip gs q p w:=by
 have split:holds A ((g,w)::gs)↔A.get g=(if w then .tt else .ff)/\holds A gs:=by
  simp [holds]
 have base:holds A gs->((A.get g=if w then .tt else .ff)↔if w then p else ¬p):=fun h=>by
  rcases hg h with ⟨e,hp⟩ | ⟨e,hp⟩<;>rw [e]<;>cases w<;>simp [hp]
 have e1:holds A ((g,w)::gs)↔q/\(if w then p else ¬p):=by
  rw [split,<-hq];exact ⟨fun ⟨a,b⟩=>⟨b,(base b).1 a⟩,fun ⟨a,b⟩=>⟨(base a).2 b,a⟩⟩
 rw [e1];cases gs with
 | nil=>
  have:q:=hq.1 A9;cases w<;>simp [Ip,this]
 | cons=>cases w<;>simp [Ip]
section
variable {P : Program} {Γ : List (Nat × Ct)} {call : Nat -> List TV -> List RF -> List B4 -> (TV -> List RF -> List B4 -> Prop) -> Prop}
structure YB (P:Program) (call:Nat->List TV->List RF->List B4->(TV->List RF->List B4->Prop)->Prop):Prop where
 out: ∀ {f:Nat} {xs:List TV} {G:List RF} {TS:List B4} {K:TV->List RF->List B4->Prop},call f xs G TS K-> ∀ {H:HF} {S:AB} {AG:List Frame} {ys:List AA},DO H TS S->Dr H G AG->AJ H xs ys->
  AU P f ys S fun r S'=> ∃H' G' TS' x,K x G' TS'/\DO H' TS' S'/\Dr H' G' AG/\AE H' x r
theorem ir {H:HF} {f:Nat} {cap:List TV} {y:AA} (h:AE H (.fn f cap) y): ∃xs,y= .fn (.func f) [] xs/\AJ H cap xs:=by simpa only [AE] using h
theorem SO {F:Frame} {S:AB} {K:AA->AB->Prop} {so:Dw} (hq: ∀z,AE (fun _=>none) .Ci z) (h:C2 P F S K so) (hn:so.quiet=true):AF P F S K so:=by
 obtain ⟨x,h1,h2⟩:=OR hn h;exact h2 K h1
theorem OG {ht:Option Ty} {F:RF} {path:List (Nat×Bool)} {TS:List B4} {so:Dw} {r:List Prop×TV} (h:tC Γ ht F path TS so=some r):so.quiet=true:=by
 cases so<;>simp only [tC] at h<;>(try (cases h;done))<;>(try rfl)
 case A7 ro len k z parts=>
  split at h
  ·rfl
  ·cases h
theorem step_mk {K:Frame->AB->Prop} {m:Nat} {o:Cs} {rest:List Cs} {A:Frame} {S:AB} (hg:o.guard=none)
  (h0:m=0->AF P A S (fun x S'=>Al o.G9 x fun x=>Ah P K 0 rest (AK A o.dst x) S') o.op)
  (h1:m≠0->C2 P A S (fun x S'=>Al o.G9 x fun x=>Ah P K (m-1) rest (AK A o.dst x) S') o.op):Ah P K m (o::rest) A S:=by
 cases m with
 | zero=>simp only [Ah,BC,hg];simpa [Ah] using h0 rfl
 | succ m=>simp only [Ah,hg];simpa using h1 (by simp)
theorem step_skip {K:Frame->AB->Prop} {m:Nat} {o:Cs} {rest:List Cs} {A:Frame} {S:AB} {g:Nat} {w:Bool} (hg:o.guard=some (g,w)) (hv:A.get g= .DG []\/A.get g=(if w then .ff else .tt))
  (h:Ah P K (m-1) rest (AK A o.dst (.DG [])) S):Ah P K m (o::rest) A S:=by
 cases m with
 | zero=>
  simp only [Ah,BC,hg,Bc];rcases hv with e | e<;>rw [e]
  ·simpa [Ah] using h
  ·cases w<;>simpa [Ah] using h
 | succ m=>
  simp only [Ah,hg,Bc];rcases hv with e | e<;>rw [e]
  ·simpa using h
  ·cases w<;>simpa using h
theorem jV {K:Frame->AB->Prop} {m:Nat} {o:Cs} {rest:List Cs} {A:Frame} {S:AB} {g:Nat} {w:Bool} (hg:o.guard=some (g,w)) (hv:A.get g=(if w then .tt else .ff))
  (hq:o.op.quiet=true) (h:C2 P A S (fun x S'=>Al o.G9 x fun x=>Ah P K (m-1) rest (AK A o.dst x) S') o.op):Ah P K m (o::rest) A S:=by
 cases m with
 | zero=>
  simp only [Ah,BC,hg,Bc];have:=SO (fun _=>by simp [AE]) h hq;rw [hv];cases w<;>simpa [Ah] using this
 | succ m=>
  simp only [Ah,hg,Bc];rw [hv];cases w<;>simpa using h
theorem dP {K:Frame->AB->Prop} {o:Cs} {rest:List Cs} {A:Frame} {S:AB} {g:Nat} {w:Bool} (hg:o.guard=some (g,w)) (hv:A.get g=(if w then .tt else .ff))
  (h:AF P A S (fun x S'=>Al o.G9 x fun x=>Ah P K 0 rest (AK A o.dst x) S') o.op):Ah P K 0 (o::rest) A S:=by
 simp only [Ah,BC,hg,Bc];rw [hv];cases w<;>simpa [Ah] using h
theorem EJ (hΓ:Cons P Γ) (hC:YB P call) (hi:Hi) {K:TK}: ∀(ops:List Cs) (m:Nat) {F:RF} {G:List RF} {TS:List B4} {H:HF} {A:Frame} {AG:List Frame} {S:AB} {K':Frame->AB->Prop},
  DO H TS S->CS H F A->Dr H G AG->Lq Γ call hi K m ops F G TS->
  (∀A' S' H' F' G' TS',DO H' TS' S'->CS H' F' A'->Dr H' G' AG->K F' G' TS'->K' A' S')->Ah P K' m ops A S
 | [],m,F,G,TS,H,A,AG,S,K',st,hF,hG,h,hk=>by
  simp only [Lq] at h;cases m<;>simp only [Ah,BC]<;>exact hk _ _ _ _ _ _ st hF hG h
 | o::rest,m,F,G,TS,H,A,AG,S,K',st,hF,hG,h,hk=>by
  unfold Lq at h;split at h
  ·rename_i g w hgd;split at h
   ·rename_i gs q p hl;split at h
    ·rename_i ps y hev;split at h
     ·rename_i y' hy;rw [EC,Od] at h;obtain ⟨Ej,h⟩:=h;have Ih:=hF _ _ _ _ hl;have hgv:holds A gs->A.get g= .tt/\p\/A.get g= .ff/\ ¬p:=fun hh=>by have:=Ih.on hh;simpa only [AE] using this
      have hci:=UM (w:=w) Ih.iff hgv Ih.off;by_cases hh:holds A ((g,w)::gs)
      ·refine jV hgd (by simpa using hh (g,w) (by simp)) (OG hev) (OH hΓ st hF hh hev (Ej (hci.1 hh)) fun z hz=>QX hy hz fun u hu=>?_);exact EJ hΓ hC hi rest (m-1) st (MT hF (fun _=>hu) (fun q=>(q hh).elim) hci) hG h hk
      ·refine step_skip hgd ?_ (EJ hΓ hC hi rest (m-1) st (MT hF (fun q=>(hh q).elim) (fun _=>rfl) hci) hG h hk);by_cases hg0:holds A gs
       ·have:A.get g≠(if w then .tt else .ff):=fun e=>hh fun q hq=>by
         rcases List.mem_cons.1 hq with rfl | hq
         ·exact e
         ·exact hg0 q hq
        rcases hgv hg0 with ⟨e,_⟩ | ⟨e,_⟩<;>rw [e] at this |- <;>cases w<;>simp at this |-
       ·exact .inl (Ih.off hg0)
     ·exact h.elim
    ·have Ih:=hF _ _ _ _ hl;have hgv:holds A gs->A.get g= .tt/\p\/A.get g= .ff/\ ¬p:=fun hh=>by have:=Ih.on hh;simpa only [AE] using this
     have hci:=UM (w:=w) Ih.iff hgv Ih.off;have skip: ¬holds A ((g,w)::gs)->Lq Γ call hi K 0 rest (KT F o.dst ((g,w)::gs) (Ip gs q p w) (nU o.dst rest)) G TS->Ah P K' 0 (o::rest) A S:=fun hh h=>by
      refine step_skip hgd ?_ (EJ hΓ hC hi rest 0 st (MT hF (fun q=>(hh q).elim) (fun _=>rfl) hci) hG h hk);by_cases hg0:holds A gs
      ·have:A.get g≠(if w then .tt else .ff):=fun e=>hh fun q hq=>by
        rcases List.mem_cons.1 hq with rfl | hq
        ·exact e
        ·exact hg0 q hq
       rcases hgv hg0 with ⟨e,_⟩ | ⟨e,_⟩<;>rw [e] at this |- <;>cases w<;>simp at this |-
      ·exact .inl (Ih.off hg0)
     have after:holds A ((g,w)::gs)-> ∀ {r:AA} {S':AB},(∃H' G' TS' x,(match G' with | F'::G'=>Lq Γ call hi K 0 rest (KT F' o.dst ((g,w)::gs) (Ip gs q p w) x) G' TS' | []=>False)/\DO H' TS' S'/\Dr H' G' (A::AG)/\AE H' x r)->Al false r fun x=>Ah P K' 0 rest (AK A o.dst x) S':=fun hh {r S'} ⟨H',G',TS',x,q1,q2,q3,q4⟩=>by
      cases q3 with
      | cons f1 f2=>exact EJ hΓ hC hi rest 0 q2 (MT f1 (fun _=>q4) (fun q=>(q hh).elim) hci) f2 q1 hk
     split at h
     ·rename_i f args hG0 he;split at h
      ·rename_i xs hx;by_cases hh:holds A ((g,w)::gs)
       ·refine dP hgd (by simpa using hh (g,w) (by simp)) ?_;rw [hG0,he];have hs:=FQ hF hh hx;simp only [AF,Ap];exact C6 (hC.out (h.1 (hci.1 hh)) st (.cons hF hG) hs) fun r S' q=>after hh q
       ·exact skip hh (h.2 fun c=>hh (hci.2 c))
      ·exact h.elim
     ·rename_i x args hG0 he;split at h
      ·rename_i f cap xs hx hxs;by_cases hh:holds A ((g,w)::gs)
       ·refine dP hgd (by simpa using hh (g,w) (by simp)) ?_;rw [hG0,he];have hs:=FQ hF hh hxs;obtain ⟨ys,e,hc⟩:=ir (Bd hF hh hx);simp only [AF,AD,Ap];rw [e];exact ⟨trivial,C6 (hC.out (h.1 (hci.1 hh)) st (.cons hF hG) (hs.append hc)) fun r S' q=>after hh q⟩
       ·exact skip hh (h.2 fun c=>hh (hci.2 c))
      ·exact h.elim
     ·exact h.elim
   ·exact h.elim
  ·rename_i hgd;split at h
   ·rename_i ps y hev;split at h
    ·rename_i y' hy;rw [EC] at h;obtain ⟨Ej,h⟩:=h;have key:C2 P A S (fun x S'=>Al o.G9 x fun x=>Ah P K' (m-1) rest (AK A o.dst x) S') o.op:=
      OH hΓ st hF A9 hev Ej fun z hz=>QX hy hz fun u hu=>EJ hΓ hC hi rest (m-1) st (HQ hF hu) hG h hk
     refine step_mk hgd (fun e=>?_) (fun _=>key);subst e;exact SO (fun _=>by simp [AE]) key (OG hev)
    ·exact h.elim
   ·split at h
    ·rename_i hG0;split at h
     ·rename_i ps y F1 G1 TS1 hev;rw [EC] at h;obtain ⟨Ej,h⟩:=h;refine step_mk hgd (fun _=>?_) (fun e=>(e rfl).elim);rw [hG0];exact kO hΓ st hF hG hev Ej fun z S' H' q1 q2 q3 q4=>EJ hΓ hC hi rest 0 q1 (HQ q2 q4) q3 h hk
     ·refine step_mk hgd (fun _=>?_) (fun e=>(e rfl).elim);rw [hG0];have after: ∀ {r:AA} {S':AB},(∃H' G' TS' x,(match G' with | F'::G'=>Lq Γ call hi K 0 rest (KT F' o.dst [] True x) G' TS' | []=>False)/\DO H' TS' S'/\Dr H' G' (A::AG)/\AE H' x r)->Al false r fun x=>Ah P K' 0 rest (AK A o.dst x) S':=fun {r S'} ⟨H',G',TS',x,q1,q2,q3,q4⟩=>by
       cases q3 with
       | cons f1 f2=>exact EJ hΓ hC hi rest 0 q2 (HQ f1 q4) f2 q1 hk
      split at h
      ·rename_i f args he;rw [he];split at h
       ·rename_i xs hx;have hs:=FQ hF A9 hx;simp only [AF,Ap];exact C6 (hC.out h st (.cons hF hG) hs) fun r S' q=>after q
       ·exact h.elim
      ·rename_i x args he;rw [he];split at h
       ·rename_i f cap xs hx hxs;have hs:=FQ hF A9 hxs;obtain ⟨ys,e,hc⟩:=ir (Bd hF A9 hx);simp only [AF,AD,Ap];rw [e];exact ⟨trivial,C6 (hC.out h st (.cons hF hG) (hs.append hc)) fun r S' q=>after q⟩
       ·exact h.elim
      ·rename_i neg x he;rw [he];simp only [Al];have goes: ∀ {b:Bool} {p:Prop},(b=true↔p)->Lq Γ call hi K 0 rest (KT F o.dst [] True (match (generalizing:=false) neg with | true=>.pr (¬p) | false=>.pr p)) G TS->Ah P K' 0 rest (AK A o.dst (.bool (b != neg))) S:=fun {b p} hb hh=>by
        refine EJ hΓ hC hi rest 0 st (HQ hF ?_) hG hh hk;cases neg<;>simp only [AE]
        ·exact ⟨b,by simp,hb⟩
        ·refine ⟨!b,by simp,?_⟩;rw [<-hb];simp
       split at h
       ·rename_i hx;have e:=Bd hF A9 hx;simp only [AE] at e;simp only [AF,AD,e];refine EJ hΓ hC hi rest 0 st (HQ hF ?_) hG h hk;cases neg<;>simp [AE]
       ·rename_i y _ hx;have e:=Bd hF A9 hx;split at h
        ·rename_i n hn;have AM:rd A x= .AM->n=0->AF P A S (fun x S'=>Ah P K' 0 rest (AK A o.dst x) S') (.GO neg x):=fun e0 h0=>by
          simp only [AF,AD,e0];have:=goes (b:=true) (p:=True) (by simp) (h True fun _=>h0);simpa using this
         unfold oi at hn;split at hn
         ·cases hn;simp only [AE] at e;simp only [AF,AD,e];exact fun b hb=>goes (p:=b=true) Iff.rfl (h (b=true) fun hb'=>by have:=hb hb';omega)
         ·rename_i l;split at hn<;>cases hn;rename_i t ls ho;simp only [AE] at e;obtain ⟨hd,e1,e2⟩:=e;obtain ⟨loc,q1,q2⟩:=DN st ho;rw [q1] at e1;cases e1;cases loc with
          | none=>
           simp only [CK] at q2;exact AM e2 (by rw [q2];rfl)
          | some pv=>
           simp only [KU] at e2;simp only [AF,AD,e2];exact fun b hb=>goes (p:=b=true) Iff.rfl (h (b=true) fun hb'=>by have:=hb hb';omega)
         ·rename_i l off len;cases hn;simp only [AE] at e;obtain ⟨hd,e1,r1,r2,r3,e2⟩:=e;cases hloc:hd.loc with
          | none=>
           have:=st.tE e1 hloc;rw [hloc] at e2;exact AM e2 (by omega)
          | some pv=>
           rw [hloc] at e2;simp only [KU] at e2;simp only [AF,AD,e2];exact fun b hb=>goes (p:=b=true) Iff.rfl (h (b=true) fun hb'=>by have:=hb hb';omega)
         ·cases hn
        ·exact h.elim
       ·exact h.elim
      ·exact h.elim
    ·exact h.elim
theorem SP {K:Frame->AB->Prop}: ∀(l1:List Cs) {l2:List Cs} {A:Frame} {S:AB},BC P (fun A' S'=>BC P K l2 A' S') l1 A S->BC P K (l1++l2) A S
 | [],l2,A,S,h=>h
 | o::l1,l2,A,S,h=>by
  simp only [List.cons_append,BC] at h |-;have hop:AF P A S (fun x S'=>Al o.G9 x fun x=>BC P (fun A' S'=>BC P K l2 A' S') l1 (AK A o.dst x) S') o.op->AF P A S (fun x S'=>Al o.G9 x fun x=>BC P K (l1++l2) (AK A o.dst x) S') o.op:=fun h=>
   KH (q:=false) (show Lv P false A S (fun x S'=>Al o.G9 x fun x=>BC P (fun A' S'=>BC P K l2 A' S') l1 (AK A o.dst x) S') o.op from h) fun x S' h=>F7 h fun x h=>SP l1 h
  cases hg:o.guard with
  | none=>rw [hg] at h;exact hop h
  | some gw=>
   obtain ⟨g,w⟩:=gw;rw [hg] at h;simp only [Bc] at h |-;generalize A.get g=c at*;cases c<;>cases w<;>simp only at h |- <;>first | exact h.elim | exact hop h | exact SP l1 h
theorem Pw {K:Frame->AB->Prop}: ∀(l1:List Cs) {l2:List Cs} {A:Frame} {S:AB},Ah P (fun A' S'=>BC P K l2 A' S') l1.length l1 A S->Ah P K l1.length (l1++l2) A S
 | [],l2,A,S,h=>by simpa [Ah,BC] using h
 | o::l1,l2,A,S,h=>by
  simp only [List.cons_append,List.length_cons,Ah] at h |-;have hop:C2 P A S (fun x S'=>Al o.G9 x fun x=>Ah P (fun A' S'=>BC P K l2 A' S') l1.length l1 (AK A o.dst x) S') o.op->C2 P A S (fun x S'=>Al o.G9 x fun x=>Ah P K l1.length (l1++l2) (AK A o.dst x) S') o.op:=fun h=>
   KH (q:=true) (show Lv P true A S (fun x S'=>Al o.G9 x fun x=>Ah P (fun A' S'=>BC P K l2 A' S') l1.length l1 (AK A o.dst x) S') o.op from h) fun x S' h=>F7 h fun x h=>Pw l1 h
  cases hg:o.guard with
  | none=>rw [hg] at h;exact hop h
  | some gw=>
   obtain ⟨g,w⟩:=gw;rw [hg] at h;simp only [Bc] at h |-;generalize A.get g=c at*;cases c<;>cases w<;>simp only at h |- <;>first | exact h.elim | exact hop h | exact Pw l1 h
theorem DO.jN {H:HF} {TS:List B4} {S:AB} (st:DO H TS S) {o:B4} {b:Ob} {p v k n:Nat} (hp:S[p]?=some .dead) (ho: ∀H',TT H H'->H' TS.length=some ⟨some (p,v),k,n,[]⟩->P6 H' (S.set p b) TS.length o):
  ∃H',TT H H'/\DO H' (TS++[o]) (S.set p b)/\H' TS.length=some ⟨some (p,v),k,n,[]⟩:=by
 have hlt:p<S.length:=(List.getElem?_eq_some_iff.1 hp).1;have free: ∀l h q w,H l=some h->h.loc=some (q,w)->q≠p:=fun l h q w e1 e2 e=>by
  subst e;have hl:l<TS.length:=by
   rcases Nat.lt_or_ge l TS.length with c | c
   ·exact c
   ·rw [st.out l c] at e1;cases e1
  have:=st.ob l _ (List.getElem?_eq_getElem hl);generalize TS[l]=o at this;cases o with
  | dead=>simp only [P6] at this;rw [this] at e1;cases e1
  | cells k cs=>
   obtain ⟨p',v',xs,h1,h2,_⟩:=this;rw [h1] at e1;cases e1;cases e2;rw [hp] at h2;cases h2
  | row t ls=>
   obtain ⟨loc,h1,h2⟩:=this;rw [h1] at e1;cases e1;simp only at e2;subst e2;simp only [CK] at h2;rw [hp] at h2;cases h2
  | ED t ls=>
   obtain ⟨p',v',sub,h1,h2,_⟩:=this;rw [h1] at e1;cases e1;cases e2;rw [hp] at h2;cases h2
 have freeS: ∀(l:Nat) (h:Hd) (i q w n:Nat),H l=some h->h.sub[i]?=some (some (q,w),n)->q≠p:=fun l h i q w n e1 e2 e=>by
  subst e;have hl:l<TS.length:=by
   rcases Nat.lt_or_ge l TS.length with c | c
   ·exact c
   ·rw [st.out l c] at e1;cases e1
  have:=st.ob l _ (List.getElem?_eq_getElem hl);generalize TS[l]=o at this;cases o with
  | dead=>simp only [P6] at this;rw [this] at e1;cases e1
  | cells k cs=>
   obtain ⟨p',v',xs,h1,h2,_⟩:=this;rw [h1] at e1;cases e1;simp at e2
  | row t ls=>
   obtain ⟨loc,h1,h2⟩:=this;rw [h1] at e1;cases e1;simp at e2
  | ED t ls=>
   obtain ⟨p',v',sub,h1,h2,h3⟩:=this;rw [h1] at e1;cases e1;have hi:i<ls.length:=by rw [<-h3.len];exact (List.getElem?_eq_some_iff.1 e2).1
   have:=(h3.at_ i _ _ (List.getElem?_eq_getElem hi) e2).2;simp only [CK] at this;rw [hp] at this;cases this
 have AW: ∀l h q w,H l=some h->h.loc=some (q,w)->(S.set p b)[q]?=S[q]?:=fun l h q w e1 e2=>by
  rw [List.getElem?_set_ne (fun e=>free l h q w e1 e2 e.symm)]
 have hl:TT H (fun l=>if l=TS.length then some ⟨some (p,v),k,n,[]⟩ else H l):=fun l h e=>by
  have:l≠TS.length:=fun q=>by rw [q,st.out _ (Nat.le_refl _)] at e;cases e
  simp [this,e]
 refine ⟨fun l=>if l=TS.length then some ⟨some (p,v),k,n,[]⟩ else H l,hl,⟨fun l o' h=>?_,fun l h=>?_,fun l l' h h' q w w' e1 e2 e3 e4=>?_,fun l i h q w n e1 e2=>?_⟩,by simp⟩
 ·rcases Nat.lt_or_ge l TS.length with q | q
  ·rw [List.getElem?_append_left q] at h;have:=st.ob l o' h;cases o' with
   | dead=>simp only [P6] at*;rw [if_neg (by omega)];exact this
   | cells k cs=>
    obtain ⟨p',v',xs,h1,h2,h3⟩:=this;exact ⟨p',v',xs,hl _ _ h1,by rw [AW l _ _ _ h1 rfl];exact h2,h3.ext hl⟩
   | row t' ls'=>
    obtain ⟨loc,h1,h2⟩:=this;refine ⟨loc,hl _ _ h1,?_⟩;cases loc with
    | none=>exact h2
    | some q'=>simp only [CK] at*;rw [AW l _ _ _ h1 rfl];exact h2
   | ED t' ls'=>
    obtain ⟨p',v',sub,h1,h2,h3⟩:=this;exact ⟨p',v',sub,hl _ _ h1,by rw [AW l _ _ _ h1 rfl];exact h2,h3.ext fun p2 x ⟨j,v2,n2,hj⟩ hx=>by rw [List.getElem?_set_ne (fun e=>freeS l _ j p2 v2 n2 h1 hj e.symm)];exact hx⟩
  ·rw [List.getElem?_append_right q] at h;have:l=TS.length:=by
    rcases Nat.lt_or_ge (l-TS.length) 1 with q | q
    ·omega
    ·rw [List.getElem?_eq_none (by simpa using q)] at h;cases h
   subst this;simp at h;subst h;exact ho _ hl (by simp)
 ·simp at h;rw [if_neg (by omega)];exact st.out l (by omega)
 ·split at e1<;>split at e2
  ·rename_i a b;rw [a,b]
  ·cases e1;cases e3;exact (free _ _ _ _ e2 e4 rfl).elim
  ·cases e2;cases e4;exact (free _ _ _ _ e1 e3 rfl).elim
  ·exact st.inj _ _ _ _ _ _ _ e1 e2 e3 e4
 ·split at e1
  ·cases e1;simp at e2
  ·obtain ⟨g1,g2,g3⟩:=st.sub l i h q w n e1 e2;refine ⟨by rw [List.length_set];exact g1,fun l' h' v' q1 q2=>?_,fun l' i' h' v' n' q1 q2=>?_⟩
   ·split at q1
    ·cases q1;cases q2;exact freeS l h i _ w n e1 e2 rfl
    ·exact g2 _ _ _ q1 q2
   ·split at q1
    ·cases q1;simp at q2
    ·exact g3 _ _ _ _ _ q1 q2
theorem HH (hΓ:Cons P Γ) (hi:Hi) {TS:List B4} {H:HF} {S:AB} (st:DO H TS S): ∀(ops:List Cs) (m:Nat) {F F':RF} {ps:List Prop} {A:Frame} {K':Frame->AB->Prop},
  CS H F A->Sd Γ hi TS ops F=some (ps,F')->FW ps->(∀A',CS H F' A'->K' A' S)->Ah P K' m ops A S
 | [],m,F,F',ps,A,K',hF,h,Ej,hk=>by
  simp only [Sd,Option.some.injEq,Prod.mk.injEq] at h;obtain ⟨_,rfl⟩:=h;cases m<;>simp only [Ah,BC]<;>exact hk _ hF
 | o::rest,m,F,F',ps,A,K',hF,h,Ej,hk=>by
  have app: ∀ {a b:List Prop},FW (a++b)->FW a/\FW b:=fun {a b} h=>⟨fun p hp=>h p (by simp [hp]),fun p hp=>h p (by simp [hp])⟩
  unfold Sd at h;split at h
  ·rename_i g w hgd;split at h
   ·rename_i gs q p hl;split at h
    ·rename_i ps1 y hev;split at h
     ·rename_i y' hy;split at h<;>cases h;rename_i qs hr;obtain ⟨hp1,hp2⟩:=app Ej;rw [Od] at hp1;have Ih:=hF _ _ _ _ hl;have hgv:holds A gs->A.get g= .tt/\p\/A.get g= .ff/\ ¬p:=fun hh=>by have:=Ih.on hh;simpa only [AE] using this
      have hci:=UM (w:=w) Ih.iff hgv Ih.off;by_cases hh:holds A ((g,w)::gs)
      ·refine jV hgd (by simpa using hh (g,w) (by simp)) (OG hev) (OH hΓ st hF hh hev (hp1 (hci.1 hh)) fun z hz=>QX hy hz fun u hu=>?_);exact HH hΓ hi st rest (m-1) (MT hF (fun _=>hu) (fun q=>(q hh).elim) hci) hr hp2 hk
      ·refine step_skip hgd ?_ (HH hΓ hi st rest (m-1) (MT hF (fun q=>(hh q).elim) (fun _=>rfl) hci) hr hp2 hk);by_cases hg0:holds A gs
       ·have:A.get g≠(if w then .tt else .ff):=fun e=>hh fun q hq=>by
         rcases List.mem_cons.1 hq with rfl | hq
         ·exact e
         ·exact hg0 q hq
        rcases hgv hg0 with ⟨e,_⟩ | ⟨e,_⟩<;>rw [e] at this |- <;>cases w<;>simp at this |-
       ·exact .inl (Ih.off hg0)
     ·cases h
    ·cases h
   ·cases h
  ·rename_i hgd;split at h
   ·rename_i ps1 y hev;split at h
    ·rename_i y' hy;split at h<;>cases h;rename_i qs hr;obtain ⟨hp1,hp2⟩:=app Ej;have key:C2 P A S (fun x S'=>Al o.G9 x fun x=>Ah P K' (m-1) rest (AK A o.dst x) S') o.op:=
      OH hΓ st hF A9 hev hp1 fun z hz=>QX hy hz fun u hu=>HH hΓ hi st rest (m-1) (HQ hF hu) hr hp2 hk
     refine step_mk hgd (fun e=>?_) (fun _=>key);subst e;exact SO (fun _=>by simp [AE]) key (OG hev)
    ·cases h
   ·cases h
theorem DO.uN {H:HF} {TS:List B4} {S:AB} (st:DO H TS S) (t:Ty) (ls:List (T t)) (v:Nat) {p:Nat} (hp:S[p]?=some .dead):
  ∃H',TT H H'/\DO H' (TS++[.row t ls]) (S.set p (.row v (GZ t) (ls.flatMap (BQ t))))/\H' TS.length=some ⟨some (p,v),GZ t,ls.length,[]⟩:=
 st.jN hp fun H' _ h=>⟨_,h,by simp only [CK];rw [List.getElem?_set_self (List.getElem?_eq_some_iff.1 hp).1]⟩
theorem DO.qn {H:HF} {TS:List B4} {S:AB} (st:DO H TS S) (k:Nat) {cs:List TV} {xs:List AA} (hs:AJ H cs xs) (v:Nat) {p:Nat} (hp:S[p]?=some .dead):
  ∃H',TT H H'/\DO H' (TS++[.cells k cs]) (S.set p (.row v k xs))/\H' TS.length=some ⟨some (p,v),k,cs.length,[]⟩:=
 st.jN hp fun H' hl h=>⟨_,_,_,h,by rw [List.getElem?_set_self (List.getElem?_eq_some_iff.1 hp).1],hs.ext hl⟩
theorem Mf (hΓ:Cons P Γ) (hi:Hi) {K:List Cs->TK}: ∀(ops:List Cs) (q:Nat) {F:RF} {G:List RF} {TS:List B4} {H:HF} {A:Frame} {AG:List Frame} {S:AB} {K':Frame->AB->Prop},
  DO H TS S->CS H F A->Dr H G AG->mA Γ hi K q ops F G TS->q<=S.length->(∀d,0<d->d<=q->S[S.length-d]?=some .dead)->
  (∀rest A' S' H' F' G' TS',DO H' TS' S'->CS H' F' A'->Dr H' G' AG->K rest F' G' TS'->BC P K' rest A' S')->BC P K' ops A S
 | ops,0,F,G,TS,H,A,AG,S,K',st,hF,hG,h,_,_,hk=>by cases ops<;>exact hk _ _ _ _ _ _ _ st hF hG h
 | [],q+1,F,G,TS,H,A,AG,S,K',st,hF,hG,h,_,_,hk=>h.elim
 | o::rest,q+1,F,G,TS,H,A,AG,S,K',st,hF,hG,h,hql,hd,hk=>by
  unfold mA at h;split at h
  ·rename_i d k b z len cap hg hG0 ho;split at h
   ·rename_i ps y F1 G1 TS1 hq hev;have hq:=beq_eq hq;subst hq;rw [EC] at h;obtain ⟨Ej,h⟩:=h;simp only [BC,hg,hG0,ho,Al];unfold Py at hev;split at hev
    ·rename_i a c hx hz;have h2:=Bd hF A9 hx;have h3:=Bd hF A9 hz;generalize (match o.dst with | some d=>BE hi.ty d | none=>none)=ht at hev;unfold rD at hev;split at hev
     ·rename_i t cs k1 n k2 m _ hz' hi1 hi2;split at hev<;>cases hev;rename_i x _ hd' hsz hkk;have hkk:=G_ hkk;subst hkk;have g1:=Ej.cons;have g2:=g1.2.cons;have g3:=g2.2.cons;have q1:=g1.1;have q2:=g2.1;have q3:=g3.1;have hdead:=hd (q+1) (by omega) (Nat.le_refl _);simp only [AF,AD,Eb hi1 h2,Eb hi2 h3,LA];refine ⟨n.toNat,by omega,by rw [q1],q3,by omega,hql,hdead,fun v=>?_⟩;obtain ⟨e1,e2⟩:=Jr (H:=H) 1 hd' (Hq hz');simp only [List.flatMap_cons,List.flatMap_nil,List.append_nil] at e2;obtain ⟨H',p1,p2,p3⟩:=st.uN t (List.replicate n.toNat x) v hdead;have e3:(List.replicate n.toNat z).flatten=(List.replicate n.toNat x).flatMap (BQ t):=by
       rw [e2,List.flatMap,List.map_replicate]
      rw [e3,<-beq_eq hsz];rw [FP,Fg] at h;refine Mf hΓ hi rest q p2 (HQ (hF.ext p1) (by simp only [AE];exact ⟨_,p3,by simp only [KU,List.length_replicate]⟩)) (hG.ext p1) h (by rw [List.length_set];omega) (fun d0 h0 h1=>?_) hk;rw [List.length_set,List.getElem?_set_ne (by omega)];exact hd d0 h0 (by omega)
     ·cases hev
    ·cases hev
   ·exact h.elim
  ·rename_i d k z hg hG0 ho;split at h
   ·rename_i cs hq hz;have hq:=beq_eq hq;subst hq;simp only [BC,hg,hG0,ho,Al];have hdead:=hd (q+1) (by omega) (Nat.le_refl _);simp only [AF];refine ⟨by omega,hql,hdead,fun v=>?_⟩;obtain ⟨H',p1,p2,p3⟩:=st.qn k (Hq hz) v hdead;rw [FP,Fg] at h;refine Mf hΓ hi rest q p2 (HQ (hF.ext p1) (by simp only [AE];exact ⟨_,_,_,p3,rfl,rfl⟩)) (hG.ext p1) h (by rw [List.length_set];omega) (fun d0 h0 h1=>?_) hk;rw [List.length_set,List.getElem?_set_ne (by omega)];exact hd d0 h0 (by omega)
   ·exact h.elim
  ·split at h
   ·rename_i ps F1 hev;rw [EC] at h;have:=HH hΓ hi st [o] 0 (K':=fun A' S'=>BC P K' rest A' S') hF hev h.1 fun A' hA=>Mf hΓ hi rest (q+1) st hA hG h.2 hql hd hk;exact SP [o] this
   ·exact h.elim
end
end Go.Vc
end
