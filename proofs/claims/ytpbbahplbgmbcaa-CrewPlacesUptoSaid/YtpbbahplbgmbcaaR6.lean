/- Part of the proof of crewPlacesUpto_holds: the whole is true of every input. Conditions: none. -/
import Derived.Test.YtpbbahplbgmbcaaR5
set_option linter.all false
section
namespace Go.Vc
theorem look_mem {α:Type}: ∀ {F:List (Nat×α)} {s:Nat} {e:α},lookN F s=some e→(s,e)∈F
 | [],s,e,h=>by simp [lookN] at h
 | (k,x)::F,s,e,h=>by
  simp only [lookN] at h
  split at h
  ·rename_i hb;cases h;rw [beq_eq hb];simp
  ·exact List.mem_cons_of_mem _ (look_mem h)
theorem mentions_mem {d:Nat}: ∀ {gs:List (Nat×Bool)},mentions d gs=false→ ∀q∈gs,q.1≠d
 | [],_,q,hq=>by cases hq
 | (g,b)::gs,h,q,hq=>by
  simp only [mentions] at h
  split at h
  ·cases h
  ·rename_i hb
   rcases List.mem_cons.1 hq with rfl | hq
   ·intro e;simp only at e;subst e;simp at hb
   ·exact mentions_mem h q hq
theorem look_drop {d:Nat}: ∀ {F:RF} {s:Nat} {gs:List (Nat×Bool)} {P:Prop} {x:TV},lookN (dropM d F) s=some (gs,P,x)→(lookN F s=some (gs,P,x)∧mentions d gs=false)∨(gs=[]∧P=True∧x= .junk)
 | [],s,gs,P,x,h=>by simp [dropM,lookN] at h
 | (t,g,q,z)::F,s,gs,P,x,h=>by
  simp only [dropM] at h
  split at h
  ·simp only [lookN] at h
   split at h
   ·cases h;exact .inr ⟨rfl,rfl,rfl⟩
   ·rename_i hb
    rcases look_drop h with ⟨h1,h2⟩ | h1
    ·exact .inl ⟨by simp only [lookN,hb];exact h1,h2⟩
    ·exact .inr h1
  ·rename_i hm
   simp only [lookN] at h ⊢
   split at h
   ·cases h;exact .inl ⟨by simp,hm⟩
   ·exact look_drop h
theorem get_cons {A:Frame} {d s:Nat} {z:AVal}:Frame.get ((d,z)::A) s=if d=s then z else A.get s:=by
 simp only [Frame.get]
 by_cases e:d=s
 ·subst e;simp
 ·rw [if_neg e]
  cases h:Nat.beq d s with
  | true=>exact (e (beq_eq h)).elim
  | false=>rfl
theorem holds_put {A:Frame} {d:Nat} {z:AVal} {gs:List (Nat×Bool)} (h: ∀q∈gs,q.1≠d):holds ((d,z)::A) gs↔holds A gs:=by
 unfold holds
 refine forall_congr' fun q=>forall_congr' fun hq=>?_
 rw [get_cons,if_neg (fun e=>h q hq e.symm)]
theorem junkOk {H:HF} {A:Frame} {s:Nat}:EntOk H A s [] True .junk:=⟨fun _=>by simp [SimV],fun h=>(h holds_nil).elim,⟨fun _=>trivial,fun _=>holds_nil⟩⟩
theorem put_sim {H:HF} {F:RF} {A:Frame} (hF:SimF H F A) {d:Option Nat} {gs:List (Nat×Bool)} {P:Prop} {x:TV} {z:AVal} (h1:holds A gs→SimV H x z) (h2: ¬holds A gs→z= .tup []) (h3:holds A gs↔P):SimF H (putT F d gs P x) (putF A d z):=by
 cases d with
 | none=>exact hF
 | some d=>
  have rest: ∀s gs' P' x',d≠s→lookN (dropM d F) s=some (gs',P',x')→EntOk H ((d,z)::A) s gs' P' x':=fun s gs' P' x' hne h=>by
   rcases look_drop h with ⟨g1,g2⟩ | ⟨rfl,rfl,rfl⟩
   ·have e:=hF _ _ _ _ g1
    have hp:=holds_put (A:=A) (z:=z) (mentions_mem g2)
    exact ⟨fun q=>by rw [get_cons,if_neg hne];exact e.on (hp.1 q),fun q=>by rw [get_cons,if_neg hne];exact e.off fun q'=>q (hp.2 q'),hp.trans e.iff⟩
   ·exact junkOk
  intro s gs' P' x' hx
  simp only [putT] at hx
  split at hx
  ·simp only [lookN] at hx
   split at hx
   ·cases hx;exact junkOk
   ·rename_i hb
    exact rest s _ _ _ (fun e=>by subst e;simp at hb) hx
  ·rename_i hm
   simp only [lookN] at hx
   split at hx
   ·rename_i hb
    cases hx
    have e:=beq_eq hb
    subst e
    have hp:=holds_put (A:=A) (z:=z) (mentions_mem hm)
    exact ⟨fun q=>by simp only [putF];rw [get_cons,if_pos rfl];exact h1 (hp.1 q),fun q=>by simp only [putF];rw [get_cons,if_pos rfl];exact h2 fun q'=>q (hp.2 q'),hp.trans h3⟩
   ·rename_i hb
    exact rest s _ _ _ (fun e=>by subst e;simp at hb) hx
theorem put_plain {H:HF} {F:RF} {A:Frame} (hF:SimF H F A) {d:Option Nat} {x:TV} {z:AVal} (h:SimV H x z):SimF H (putT F d [] True x) (putF A d z):=
 put_sim hF (fun _=>h) (fun h=>(h holds_nil).elim) ⟨fun _=>trivial,fun _=>holds_nil⟩
theorem gd_split {H:HF} {isG:Bool} {x y:TV} (h:gdV isG x=some y) {z:AVal} (hs:SimV H x z) {K:AVal→Prop} (hk: ∀u,SimV H y u→K u):splitG isG z K:=by
 cases isG
 ·simp only [gdV,Option.some.injEq] at h
  subst h
  exact hk _ hs
 ·simp only [gdV] at h
  split at h<;>cases h
  rename_i p hp
  simp only [splitG]
  cases x<;>simp only [asP] at hp<;>cases hp<;>simp only [SimV] at hs
  ·subst hs;exact ⟨fun _=>hk _ (by simp [SimV]),fun e=>by cases e⟩
  ·subst hs;exact ⟨fun e=>by (cases e),fun _=>hk _ (by simp [SimV])⟩
  ·subst hs;exact ⟨fun e=>hk _ (by simp [SimV,e]),fun e=>hk _ (by simp [SimV,e])⟩
  ·obtain ⟨b,rfl,hb⟩:=hs
   exact ⟨fun e=>hk _ (by simp only [SimV];exact .inl ⟨trivial,hb.1 e⟩),fun e=>hk _ (by simp only [SimV];exact .inr ⟨trivial,fun q=>by rw [hb.2 q] at e;cases e⟩)⟩
  ·rcases hs with ⟨rfl,hq⟩ | ⟨rfl,hq⟩
   ·exact hk _ (by simp only [SimV];exact .inl ⟨trivial,hq⟩)
   ·exact hk _ (by simp only [SimV];exact .inr ⟨trivial,hq⟩)
theorem cond_iff {A:Frame} {g:Nat} {gs:List (Nat×Bool)} {q p:Prop} (hq:holds A gs↔q) (w:Bool) (hg:holds A gs→A.get g= .tt∧p∨A.get g= .ff∧ ¬p) (hn: ¬holds A gs→A.get g= .tup []):
  holds A ((g,w)::gs)↔condG gs q p w:=by
 have split:holds A ((g,w)::gs)↔A.get g=(if w then .tt else .ff)∧holds A gs:=by
  simp [holds]
 have base:holds A gs→((A.get g=if w then .tt else .ff)↔if w then p else ¬p):=fun h=>by
  rcases hg h with ⟨e,hp⟩ | ⟨e,hp⟩<;>rw [e]<;>cases w<;>simp [hp]
 have e1:holds A ((g,w)::gs)↔q∧(if w then p else ¬p):=by
  rw [split,←hq]
  exact ⟨fun ⟨a,b⟩=>⟨b,(base b).1 a⟩,fun ⟨a,b⟩=>⟨(base a).2 b,a⟩⟩
 rw [e1]
 cases gs with
 | nil=>
  have:q:=hq.1 holds_nil
  cases w<;>simp [condG,this]
 | cons=>cases w<;>simp [condG]
section
variable {P : Program} {Γ : List (Nat × Ct)} {call : Nat → List TV → List RF → List TOb → (TV → List RF → List TOb → Prop) → Prop}
structure CallOk (P:Program) (call:Nat→List TV→List RF→List TOb→(TV→List RF→List TOb→Prop)→Prop):Prop where
 out: ∀ {f:Nat} {xs:List TV} {G:List RF} {TS:List TOb} {K:TV→List RF→List TOb→Prop},call f xs G TS K→ ∀ {H:HF} {S:Store} {AG:List Frame} {ys:List AVal},St3 H TS S→SimG H G AG→SimL H xs ys→
  ACalls P f ys S fun r S'=> ∃H' G' TS' x,K x G' TS'∧St3 H' TS' S'∧SimG H' G' AG∧SimV H' x r
theorem fnA_inv {H:HF} {f:Nat} {cap:List TV} {y:AVal} (h:SimV H (.fn f cap) y): ∃xs,y= .fn (.func f) [] xs∧SimL H cap xs:=by simpa only [SimV] using h
theorem vcOp_of_D {F:Frame} {S:Store} {K:AVal→Store→Prop} {so:SOp} (hq: ∀z,SimV (fun _=>none) .junk z) (h:vcOpD P F S K so) (hn:so.quiet=true):vcOp P F S K so:=by
 obtain ⟨x,h1,h2⟩:=quiet_det hn h
 exact h2 K h1
theorem evP_quiet {ht:Option Ty} {F:RF} {path:List (Nat×Bool)} {TS:List TOb} {so:SOp} {r:List Prop×TV} (h:evP Γ ht F path TS so=some r):so.quiet=true:=by
 cases so<;>simp only [evP] at h<;>(try (cases h;done))<;>(try rfl)
 case bslice ro len k z parts=>
  split at h
  ·rfl
  ·cases h
theorem step_mk {K:Frame→Store→Prop} {m:Nat} {o:GOp} {rest:List GOp} {A:Frame} {S:Store} (hg:o.guard=none)
  (h0:m=0→vcOp P A S (fun x S'=>splitG o.isG x fun x=>vcOpsD P K 0 rest (putF A o.dst x) S') o.op)
  (h1:m≠0→vcOpD P A S (fun x S'=>splitG o.isG x fun x=>vcOpsD P K (m-1) rest (putF A o.dst x) S') o.op):vcOpsD P K m (o::rest) A S:=by
 cases m with
 | zero=>simp only [vcOpsD,vcOps,hg];simpa [vcOpsD] using h0 rfl
 | succ m=>simp only [vcOpsD,hg];simpa using h1 (by simp)
theorem step_skip {K:Frame→Store→Prop} {m:Nat} {o:GOp} {rest:List GOp} {A:Frame} {S:Store} {g:Nat} {w:Bool} (hg:o.guard=some (g,w)) (hv:A.get g= .tup []∨A.get g=(if w then .ff else .tt))
  (h:vcOpsD P K (m-1) rest (putF A o.dst (.tup [])) S):vcOpsD P K m (o::rest) A S:=by
 cases m with
 | zero=>
  simp only [vcOpsD,vcOps,hg,getK_iff]
  rcases hv with e | e<;>rw [e]
  ·simpa [vcOpsD] using h
  ·cases w<;>simpa [vcOpsD] using h
 | succ m=>
  simp only [vcOpsD,hg,getK_iff]
  rcases hv with e | e<;>rw [e]
  ·simpa using h
  ·cases w<;>simpa using h
theorem step_on {K:Frame→Store→Prop} {m:Nat} {o:GOp} {rest:List GOp} {A:Frame} {S:Store} {g:Nat} {w:Bool} (hg:o.guard=some (g,w)) (hv:A.get g=(if w then .tt else .ff))
  (hq:o.op.quiet=true) (h:vcOpD P A S (fun x S'=>splitG o.isG x fun x=>vcOpsD P K (m-1) rest (putF A o.dst x) S') o.op):vcOpsD P K m (o::rest) A S:=by
 cases m with
 | zero=>
  simp only [vcOpsD,vcOps,hg,getK_iff]
  have:=vcOp_of_D (fun _=>by simp [SimV]) h hq
  rw [hv]
  cases w<;>simpa [vcOpsD] using this
 | succ m=>
  simp only [vcOpsD,hg,getK_iff]
  rw [hv]
  cases w<;>simpa using h
theorem step_run {K:Frame→Store→Prop} {o:GOp} {rest:List GOp} {A:Frame} {S:Store} {g:Nat} {w:Bool} (hg:o.guard=some (g,w)) (hv:A.get g=(if w then .tt else .ff))
  (h:vcOp P A S (fun x S'=>splitG o.isG x fun x=>vcOpsD P K 0 rest (putF A o.dst x) S') o.op):vcOpsD P K 0 (o::rest) A S:=by
 simp only [vcOpsD,vcOps,hg,getK_iff]
 rw [hv]
 cases w<;>simpa [vcOpsD] using h
theorem tOps_sound (hΓ:Cons P Γ) (hC:CallOk P call) (hi:Hi) {K:TK}: ∀(ops:List GOp) (m:Nat) {F:RF} {G:List RF} {TS:List TOb} {H:HF} {A:Frame} {AG:List Frame} {S:Store} {K':Frame→Store→Prop},
  St3 H TS S→SimF H F A→SimG H G AG→tOps Γ call hi K m ops F G TS→
  (∀A' S' H' F' G' TS',St3 H' TS' S'→SimF H' F' A'→SimG H' G' AG→K F' G' TS'→K' A' S')→vcOpsD P K' m ops A S
 | [],m,F,G,TS,H,A,AG,S,K',st,hF,hG,h,hk=>by
  simp only [tOps] at h
  cases m<;>simp only [vcOpsD,vcOps]<;>exact hk _ _ _ _ _ _ st hF hG h
 | o::rest,m,F,G,TS,H,A,AG,S,K',st,hF,hG,h,hk=>by
  unfold tOps at h
  split at h
  ·rename_i g w hgd
   split at h
   ·rename_i gs q p hl
    split at h
    ·rename_i ps y hev
     split at h
     ·rename_i y' hy
      rw [conj_iff,under_iff] at h
      obtain ⟨hps,h⟩:=h
      have ent:=hF _ _ _ _ hl
      have hgv:holds A gs→A.get g= .tt∧p∨A.get g= .ff∧ ¬p:=fun hh=>by have:=ent.on hh;simpa only [SimV] using this
      have hci:=cond_iff (w:=w) ent.iff hgv ent.off
      by_cases hh:holds A ((g,w)::gs)
      ·refine step_on hgd (by simpa using hh (g,w) (by simp)) (evP_quiet hev) (evP_sound hΓ st hF hh hev (hps (hci.1 hh)) fun z hz=>gd_split hy hz fun u hu=>?_)
       exact tOps_sound hΓ hC hi rest (m-1) st (put_sim hF (fun _=>hu) (fun q=>(q hh).elim) hci) hG h hk
      ·refine step_skip hgd ?_ (tOps_sound hΓ hC hi rest (m-1) st (put_sim hF (fun q=>(hh q).elim) (fun _=>rfl) hci) hG h hk)
       by_cases hg0:holds A gs
       ·have:A.get g≠(if w then .tt else .ff):=fun e=>hh fun q hq=>by
         rcases List.mem_cons.1 hq with rfl | hq
         ·exact e
         ·exact hg0 q hq
        rcases hgv hg0 with ⟨e,_⟩ | ⟨e,_⟩<;>rw [e] at this ⊢ <;>cases w<;>simp at this ⊢
       ·exact .inl (ent.off hg0)
     ·exact h.elim
    ·have ent:=hF _ _ _ _ hl
     have hgv:holds A gs→A.get g= .tt∧p∨A.get g= .ff∧ ¬p:=fun hh=>by have:=ent.on hh;simpa only [SimV] using this
     have hci:=cond_iff (w:=w) ent.iff hgv ent.off
     have skip: ¬holds A ((g,w)::gs)→tOps Γ call hi K 0 rest (putT F o.dst ((g,w)::gs) (condG gs q p w) (dumV o.dst rest)) G TS→vcOpsD P K' 0 (o::rest) A S:=fun hh h=>by
      refine step_skip hgd ?_ (tOps_sound hΓ hC hi rest 0 st (put_sim hF (fun q=>(hh q).elim) (fun _=>rfl) hci) hG h hk)
      by_cases hg0:holds A gs
      ·have:A.get g≠(if w then .tt else .ff):=fun e=>hh fun q hq=>by
        rcases List.mem_cons.1 hq with rfl | hq
        ·exact e
        ·exact hg0 q hq
       rcases hgv hg0 with ⟨e,_⟩ | ⟨e,_⟩<;>rw [e] at this ⊢ <;>cases w<;>simp at this ⊢
      ·exact .inl (ent.off hg0)
     have after:holds A ((g,w)::gs)→ ∀ {r:AVal} {S':Store},(∃H' G' TS' x,(match G' with | F'::G'=>tOps Γ call hi K 0 rest (putT F' o.dst ((g,w)::gs) (condG gs q p w) x) G' TS' | []=>False)∧St3 H' TS' S'∧SimG H' G' (A::AG)∧SimV H' x r)→splitG false r fun x=>vcOpsD P K' 0 rest (putF A o.dst x) S':=fun hh {r S'} ⟨H',G',TS',x,q1,q2,q3,q4⟩=>by
      cases q3 with
      | cons f1 f2=>exact tOps_sound hΓ hC hi rest 0 q2 (put_sim f1 (fun _=>q4) (fun q=>(q hh).elim) hci) f2 q1 hk
     split at h
     ·rename_i f args hG0 he
      split at h
      ·rename_i xs hx
       by_cases hh:holds A ((g,w)::gs)
       ·refine step_run hgd (by simpa using hh (g,w) (by simp)) ?_
        rw [hG0,he]
        have hs:=rdPs_sim hF hh hx
        simp only [vcOp,rdsK_iff]
        exact ACallsMono (hC.out (h.1 (hci.1 hh)) st (.cons hF hG) hs) fun r S' q=>after hh q
       ·exact skip hh (h.2 fun c=>hh (hci.2 c))
      ·exact h.elim
     ·rename_i x args hG0 he
      split at h
      ·rename_i f cap xs hx hxs
       by_cases hh:holds A ((g,w)::gs)
       ·refine step_run hgd (by simpa using hh (g,w) (by simp)) ?_
        rw [hG0,he]
        have hs:=rdPs_sim hF hh hxs
        obtain ⟨ys,e,hc⟩:=fnA_inv (rdP_sim hF hh hx)
        simp only [vcOp,rdK_iff,rdsK_iff]
        rw [e]
        exact ⟨trivial,ACallsMono (hC.out (h.1 (hci.1 hh)) st (.cons hF hG) (hs.append hc)) fun r S' q=>after hh q⟩
       ·exact skip hh (h.2 fun c=>hh (hci.2 c))
      ·exact h.elim
     ·exact h.elim
   ·exact h.elim
  ·rename_i hgd
   split at h
   ·rename_i ps y hev
    split at h
    ·rename_i y' hy
     rw [conj_iff] at h
     obtain ⟨hps,h⟩:=h
     have key:vcOpD P A S (fun x S'=>splitG o.isG x fun x=>vcOpsD P K' (m-1) rest (putF A o.dst x) S') o.op:=
      evP_sound hΓ st hF holds_nil hev hps fun z hz=>gd_split hy hz fun u hu=>tOps_sound hΓ hC hi rest (m-1) st (put_plain hF hu) hG h hk
     refine step_mk hgd (fun e=>?_) (fun _=>key)
     subst e
     exact vcOp_of_D (fun _=>by simp [SimV]) key (evP_quiet hev)
    ·exact h.elim
   ·split at h
    ·rename_i hG0
     split at h
     ·rename_i ps y F1 G1 TS1 hev
      rw [conj_iff] at h
      obtain ⟨hps,h⟩:=h
      refine step_mk hgd (fun _=>?_) (fun e=>(e rfl).elim)
      rw [hG0]
      exact evE_sound hΓ st hF hG hev hps fun z S' H' q1 q2 q3 q4=>tOps_sound hΓ hC hi rest 0 q1 (put_plain q2 q4) q3 h hk
     ·refine step_mk hgd (fun _=>?_) (fun e=>(e rfl).elim)
      rw [hG0]
      have after: ∀ {r:AVal} {S':Store},(∃H' G' TS' x,(match G' with | F'::G'=>tOps Γ call hi K 0 rest (putT F' o.dst [] True x) G' TS' | []=>False)∧St3 H' TS' S'∧SimG H' G' (A::AG)∧SimV H' x r)→splitG false r fun x=>vcOpsD P K' 0 rest (putF A o.dst x) S':=fun {r S'} ⟨H',G',TS',x,q1,q2,q3,q4⟩=>by
       cases q3 with
       | cons f1 f2=>exact tOps_sound hΓ hC hi rest 0 q2 (put_plain f1 q4) f2 q1 hk
      split at h
      ·rename_i f args he
       rw [he]
       split at h
       ·rename_i xs hx
        have hs:=rdPs_sim hF holds_nil hx
        simp only [vcOp,rdsK_iff]
        exact ACallsMono (hC.out h st (.cons hF hG) hs) fun r S' q=>after q
       ·exact h.elim
      ·rename_i x args he
       rw [he]
       split at h
       ·rename_i f cap xs hx hxs
        have hs:=rdPs_sim hF holds_nil hxs
        obtain ⟨ys,e,hc⟩:=fnA_inv (rdP_sim hF holds_nil hx)
        simp only [vcOp,rdK_iff,rdsK_iff]
        rw [e]
        exact ⟨trivial,ACallsMono (hC.out h st (.cons hF hG) (hs.append hc)) fun r S' q=>after q⟩
       ·exact h.elim
      ·rename_i neg x he
       rw [he]
       simp only [splitG]
       have goes: ∀ {b:Bool} {p:Prop},(b=true↔p)→tOps Γ call hi K 0 rest (putT F o.dst [] True (match (generalizing:=false) neg with | true=>.pr (¬p) | false=>.pr p)) G TS→vcOpsD P K' 0 rest (putF A o.dst (.bool (b != neg))) S:=fun {b p} hb hh=>by
        refine tOps_sound hΓ hC hi rest 0 st (put_plain hF ?_) hG hh hk
        cases neg<;>simp only [SimV]
        ·exact ⟨b,by simp,hb⟩
        ·refine ⟨!b,by simp,?_⟩
         rw [←hb];simp
       split at h
       ·rename_i hx
        have e:=rdP_sim hF holds_nil hx
        simp only [SimV] at e
        simp only [vcOp,rdK_iff,e]
        refine tOps_sound hΓ hC hi rest 0 st (put_plain hF ?_) hG h hk
        cases neg<;>simp [SimV]
       ·rename_i y _ hx
        have e:=rdP_sim hF holds_nil hx
        split at h
        ·rename_i n hn
         have nils:rd A x= .nils→n=0→vcOp P A S (fun x S'=>vcOpsD P K' 0 rest (putF A o.dst x) S') (.isnil neg x):=fun e0 h0=>by
          simp only [vcOp,rdK_iff,e0]
          have:=goes (b:=true) (p:=True) (by simp) (h True fun _=>h0)
          simpa using this
         unfold nilLen at hn
         split at hn
         ·cases hn
          simp only [SimV] at e
          simp only [vcOp,rdK_iff,e]
          exact fun b hb=>goes (p:=b=true) Iff.rfl (h (b=true) fun hb'=>by have:=hb hb';omega)
         ·rename_i l
          split at hn<;>cases hn
          rename_i t ls ho
          simp only [SimV] at e
          obtain ⟨hd,e1,e2⟩:=e
          obtain ⟨loc,q1,q2⟩:=row_get st ho
          rw [q1] at e1;cases e1
          cases loc with
          | none=>
           simp only [RowAt] at q2
           exact nils e2 (by rw [q2];rfl)
          | some pv=>
           simp only [slA] at e2
           simp only [vcOp,rdK_iff,e2]
           exact fun b hb=>goes (p:=b=true) Iff.rfl (h (b=true) fun hb'=>by have:=hb hb';omega)
         ·rename_i l off len
          cases hn
          simp only [SimV] at e
          obtain ⟨hd,e1,r1,r2,r3,e2⟩:=e
          cases hloc:hd.loc with
          | none=>
           have:=st.noloc e1 hloc
           rw [hloc] at e2
           exact nils e2 (by omega)
          | some pv=>
           rw [hloc] at e2
           simp only [slA] at e2
           simp only [vcOp,rdK_iff,e2]
           exact fun b hb=>goes (p:=b=true) Iff.rfl (h (b=true) fun hb'=>by have:=hb hb';omega)
         ·cases hn
        ·exact h.elim
       ·exact h.elim
      ·exact h.elim
    ·exact h.elim
theorem vcOps_app {K:Frame→Store→Prop}: ∀(l1:List GOp) {l2:List GOp} {A:Frame} {S:Store},vcOps P (fun A' S'=>vcOps P K l2 A' S') l1 A S→vcOps P K (l1++l2) A S
 | [],l2,A,S,h=>h
 | o::l1,l2,A,S,h=>by
  simp only [List.cons_append,vcOps] at h ⊢
  have hop:vcOp P A S (fun x S'=>splitG o.isG x fun x=>vcOps P (fun A' S'=>vcOps P K l2 A' S') l1 (putF A o.dst x) S') o.op→vcOp P A S (fun x S'=>splitG o.isG x fun x=>vcOps P K (l1++l2) (putF A o.dst x) S') o.op:=fun h=>
   vcO_mono (q:=false) (show vcO P false A S (fun x S'=>splitG o.isG x fun x=>vcOps P (fun A' S'=>vcOps P K l2 A' S') l1 (putF A o.dst x) S') o.op from h) fun x S' h=>splitG_mono h fun x h=>vcOps_app l1 h
  cases hg:o.guard with
  | none=>rw [hg] at h;exact hop h
  | some gw=>
   obtain ⟨g,w⟩:=gw
   rw [hg] at h
   simp only [getK_iff] at h ⊢
   generalize A.get g=c at*
   cases c<;>cases w<;>simp only at h ⊢ <;>first | exact h.elim | exact hop h | exact vcOps_app l1 h
theorem vcOpsD_app {K:Frame→Store→Prop}: ∀(l1:List GOp) {l2:List GOp} {A:Frame} {S:Store},vcOpsD P (fun A' S'=>vcOps P K l2 A' S') l1.length l1 A S→vcOpsD P K l1.length (l1++l2) A S
 | [],l2,A,S,h=>by simpa [vcOpsD,vcOps] using h
 | o::l1,l2,A,S,h=>by
  simp only [List.cons_append,List.length_cons,vcOpsD] at h ⊢
  have hop:vcOpD P A S (fun x S'=>splitG o.isG x fun x=>vcOpsD P (fun A' S'=>vcOps P K l2 A' S') l1.length l1 (putF A o.dst x) S') o.op→vcOpD P A S (fun x S'=>splitG o.isG x fun x=>vcOpsD P K l1.length (l1++l2) (putF A o.dst x) S') o.op:=fun h=>
   vcO_mono (q:=true) (show vcO P true A S (fun x S'=>splitG o.isG x fun x=>vcOpsD P (fun A' S'=>vcOps P K l2 A' S') l1.length l1 (putF A o.dst x) S') o.op from h) fun x S' h=>splitG_mono h fun x h=>vcOpsD_app l1 h
  cases hg:o.guard with
  | none=>rw [hg] at h;exact hop h
  | some gw=>
   obtain ⟨g,w⟩:=gw
   rw [hg] at h
   simp only [getK_iff] at h ⊢
   generalize A.get g=c at*
   cases c<;>cases w<;>simp only at h ⊢ <;>first | exact h.elim | exact hop h | exact vcOpsD_app l1 h
theorem St3.pushAtG {H:HF} {TS:List TOb} {S:Store} (st:St3 H TS S) {o:TOb} {b:Ob} {p v k n:Nat} (hp:S[p]?=some .dead) (ho: ∀H',HLe H H'→H' TS.length=some ⟨some (p,v),k,n,[]⟩→ObS H' (S.set p b) TS.length o):
  ∃H',HLe H H'∧St3 H' (TS++[o]) (S.set p b)∧H' TS.length=some ⟨some (p,v),k,n,[]⟩:=by
 have hlt:p<S.length:=(List.getElem?_eq_some_iff.1 hp).1
 have free: ∀l h q w,H l=some h→h.loc=some (q,w)→q≠p:=fun l h q w e1 e2 e=>by
  subst e
  have hl:l<TS.length:=by
   rcases Nat.lt_or_ge l TS.length with c | c
   ·exact c
   ·rw [st.out l c] at e1;cases e1
  have:=st.ob l _ (List.getElem?_eq_getElem hl)
  generalize TS[l]=o at this
  cases o with
  | dead=>simp only [ObS] at this;rw [this] at e1;cases e1
  | cells k cs=>
   obtain ⟨p',v',xs,h1,h2,_⟩:=this
   rw [h1] at e1;cases e1;cases e2
   rw [hp] at h2;cases h2
  | row t ls=>
   obtain ⟨loc,h1,h2⟩:=this
   rw [h1] at e1;cases e1
   simp only at e2;subst e2
   simp only [RowAt] at h2
   rw [hp] at h2;cases h2
  | drow t ls=>
   obtain ⟨p',v',sub,h1,h2,_⟩:=this
   rw [h1] at e1;cases e1;cases e2
   rw [hp] at h2;cases h2
 have freeS: ∀(l:Nat) (h:Hd) (i q w n:Nat),H l=some h→h.sub[i]?=some (some (q,w),n)→q≠p:=fun l h i q w n e1 e2 e=>by
  subst e
  have hl:l<TS.length:=by
   rcases Nat.lt_or_ge l TS.length with c | c
   ·exact c
   ·rw [st.out l c] at e1;cases e1
  have:=st.ob l _ (List.getElem?_eq_getElem hl)
  generalize TS[l]=o at this
  cases o with
  | dead=>simp only [ObS] at this;rw [this] at e1;cases e1
  | cells k cs=>
   obtain ⟨p',v',xs,h1,h2,_⟩:=this
   rw [h1] at e1;cases e1;simp at e2
  | row t ls=>
   obtain ⟨loc,h1,h2⟩:=this
   rw [h1] at e1;cases e1;simp at e2
  | drow t ls=>
   obtain ⟨p',v',sub,h1,h2,h3⟩:=this
   rw [h1] at e1;cases e1
   have hi:i<ls.length:=by rw [←h3.len];exact (List.getElem?_eq_some_iff.1 e2).1
   have:=(h3.at_ i _ _ (List.getElem?_eq_getElem hi) e2).2
   simp only [RowAt] at this
   rw [hp] at this;cases this
 have keep: ∀l h q w,H l=some h→h.loc=some (q,w)→(S.set p b)[q]?=S[q]?:=fun l h q w e1 e2=>by
  rw [List.getElem?_set_ne (fun e=>free l h q w e1 e2 e.symm)]
 have hl:HLe H (fun l=>if l=TS.length then some ⟨some (p,v),k,n,[]⟩ else H l):=fun l h e=>by
  have:l≠TS.length:=fun q=>by rw [q,st.out _ (Nat.le_refl _)] at e;cases e
  simp [this,e]
 refine ⟨fun l=>if l=TS.length then some ⟨some (p,v),k,n,[]⟩ else H l,hl,⟨fun l o' h=>?_,fun l h=>?_,fun l l' h h' q w w' e1 e2 e3 e4=>?_,fun l i h q w n e1 e2=>?_⟩,by simp⟩
 ·rcases Nat.lt_or_ge l TS.length with q | q
  ·rw [List.getElem?_append_left q] at h
   have:=st.ob l o' h
   cases o' with
   | dead=>simp only [ObS] at*;rw [if_neg (by omega)];exact this
   | cells k cs=>
    obtain ⟨p',v',xs,h1,h2,h3⟩:=this
    exact ⟨p',v',xs,hl _ _ h1,by rw [keep l _ _ _ h1 rfl];exact h2,h3.ext hl⟩
   | row t' ls'=>
    obtain ⟨loc,h1,h2⟩:=this
    refine ⟨loc,hl _ _ h1,?_⟩
    cases loc with
    | none=>exact h2
    | some q'=>simp only [RowAt] at*;rw [keep l _ _ _ h1 rfl];exact h2
   | drow t' ls'=>
    obtain ⟨p',v',sub,h1,h2,h3⟩:=this
    exact ⟨p',v',sub,hl _ _ h1,by rw [keep l _ _ _ h1 rfl];exact h2,h3.ext fun p2 x ⟨j,v2,n2,hj⟩ hx=>by rw [List.getElem?_set_ne (fun e=>freeS l _ j p2 v2 n2 h1 hj e.symm)];exact hx⟩
  ·rw [List.getElem?_append_right q] at h
   have:l=TS.length:=by
    rcases Nat.lt_or_ge (l-TS.length) 1 with q | q
    ·omega
    ·rw [List.getElem?_eq_none (by simpa using q)] at h;cases h
   subst this
   simp at h
   subst h
   exact ho _ hl (by simp)
 ·simp at h
  rw [if_neg (by omega)]
  exact st.out l (by omega)
 ·split at e1<;>split at e2
  ·rename_i a b;rw [a,b]
  ·cases e1
   cases e3
   exact (free _ _ _ _ e2 e4 rfl).elim
  ·cases e2
   cases e4
   exact (free _ _ _ _ e1 e3 rfl).elim
  ·exact st.inj _ _ _ _ _ _ _ e1 e2 e3 e4
 ·split at e1
  ·cases e1;simp at e2
  ·obtain ⟨g1,g2,g3⟩:=st.sub l i h q w n e1 e2
   refine ⟨by rw [List.length_set];exact g1,fun l' h' v' q1 q2=>?_,fun l' i' h' v' n' q1 q2=>?_⟩
   ·split at q1
    ·cases q1;cases q2;exact freeS l h i _ w n e1 e2 rfl
    ·exact g2 _ _ _ q1 q2
   ·split at q1
    ·cases q1;simp at q2
    ·exact g3 _ _ _ _ _ q1 q2
theorem evOps_sound (hΓ:Cons P Γ) (hi:Hi) {TS:List TOb} {H:HF} {S:Store} (st:St3 H TS S): ∀(ops:List GOp) (m:Nat) {F F':RF} {ps:List Prop} {A:Frame} {K':Frame→Store→Prop},
  SimF H F A→evOps Γ hi TS ops F=some (ps,F')→AllP ps→(∀A',SimF H F' A'→K' A' S)→vcOpsD P K' m ops A S
 | [],m,F,F',ps,A,K',hF,h,hps,hk=>by
  simp only [evOps,Option.some.injEq,Prod.mk.injEq] at h
  obtain ⟨_,rfl⟩:=h
  cases m<;>simp only [vcOpsD,vcOps]<;>exact hk _ hF
 | o::rest,m,F,F',ps,A,K',hF,h,hps,hk=>by
  have app: ∀ {a b:List Prop},AllP (a++b)→AllP a∧AllP b:=fun {a b} h=>⟨fun p hp=>h p (by simp [hp]),fun p hp=>h p (by simp [hp])⟩
  unfold evOps at h
  split at h
  ·rename_i g w hgd
   split at h
   ·rename_i gs q p hl
    split at h
    ·rename_i ps1 y hev
     split at h
     ·rename_i y' hy
      split at h<;>cases h
      rename_i qs hr
      obtain ⟨hp1,hp2⟩:=app hps
      rw [under_iff] at hp1
      have ent:=hF _ _ _ _ hl
      have hgv:holds A gs→A.get g= .tt∧p∨A.get g= .ff∧ ¬p:=fun hh=>by have:=ent.on hh;simpa only [SimV] using this
      have hci:=cond_iff (w:=w) ent.iff hgv ent.off
      by_cases hh:holds A ((g,w)::gs)
      ·refine step_on hgd (by simpa using hh (g,w) (by simp)) (evP_quiet hev) (evP_sound hΓ st hF hh hev (hp1 (hci.1 hh)) fun z hz=>gd_split hy hz fun u hu=>?_)
       exact evOps_sound hΓ hi st rest (m-1) (put_sim hF (fun _=>hu) (fun q=>(q hh).elim) hci) hr hp2 hk
      ·refine step_skip hgd ?_ (evOps_sound hΓ hi st rest (m-1) (put_sim hF (fun q=>(hh q).elim) (fun _=>rfl) hci) hr hp2 hk)
       by_cases hg0:holds A gs
       ·have:A.get g≠(if w then .tt else .ff):=fun e=>hh fun q hq=>by
         rcases List.mem_cons.1 hq with rfl | hq
         ·exact e
         ·exact hg0 q hq
        rcases hgv hg0 with ⟨e,_⟩ | ⟨e,_⟩<;>rw [e] at this ⊢ <;>cases w<;>simp at this ⊢
       ·exact .inl (ent.off hg0)
     ·cases h
    ·cases h
   ·cases h
  ·rename_i hgd
   split at h
   ·rename_i ps1 y hev
    split at h
    ·rename_i y' hy
     split at h<;>cases h
     rename_i qs hr
     obtain ⟨hp1,hp2⟩:=app hps
     have key:vcOpD P A S (fun x S'=>splitG o.isG x fun x=>vcOpsD P K' (m-1) rest (putF A o.dst x) S') o.op:=
      evP_sound hΓ st hF holds_nil hev hp1 fun z hz=>gd_split hy hz fun u hu=>evOps_sound hΓ hi st rest (m-1) (put_plain hF hu) hr hp2 hk
     refine step_mk hgd (fun e=>?_) (fun _=>key)
     subst e
     exact vcOp_of_D (fun _=>by simp [SimV]) key (evP_quiet hev)
    ·cases h
   ·cases h
theorem St3.pushAt {H:HF} {TS:List TOb} {S:Store} (st:St3 H TS S) (t:Ty) (ls:List (T t)) (v:Nat) {p:Nat} (hp:S[p]?=some .dead):
  ∃H',HLe H H'∧St3 H' (TS++[.row t ls]) (S.set p (.row v (szT t) (ls.flatMap (encT t))))∧H' TS.length=some ⟨some (p,v),szT t,ls.length,[]⟩:=
 st.pushAtG hp fun H' _ h=>⟨_,h,by simp only [RowAt];rw [List.getElem?_set_self (List.getElem?_eq_some_iff.1 hp).1]⟩
theorem St3.cellsAt {H:HF} {TS:List TOb} {S:Store} (st:St3 H TS S) (k:Nat) {cs:List TV} {xs:List AVal} (hs:SimL H cs xs) (v:Nat) {p:Nat} (hp:S[p]?=some .dead):
  ∃H',HLe H H'∧St3 H' (TS++[.cells k cs]) (S.set p (.row v k xs))∧H' TS.length=some ⟨some (p,v),k,cs.length,[]⟩:=
 st.pushAtG hp fun H' hl h=>⟨_,_,_,h,by rw [List.getElem?_set_self (List.getElem?_eq_some_iff.1 hp).1],hs.ext hl⟩
theorem tRes_sound (hΓ:Cons P Γ) (hi:Hi) {K:List GOp→TK}: ∀(ops:List GOp) (q:Nat) {F:RF} {G:List RF} {TS:List TOb} {H:HF} {A:Frame} {AG:List Frame} {S:Store} {K':Frame→Store→Prop},
  St3 H TS S→SimF H F A→SimG H G AG→tRes Γ hi K q ops F G TS→q≤S.length→(∀d,0<d→d≤q→S[S.length-d]?=some .dead)→
  (∀rest A' S' H' F' G' TS',St3 H' TS' S'→SimF H' F' A'→SimG H' G' AG→K rest F' G' TS'→vcOps P K' rest A' S')→vcOps P K' ops A S
 | ops,0,F,G,TS,H,A,AG,S,K',st,hF,hG,h,_,_,hk=>by cases ops<;>exact hk _ _ _ _ _ _ _ st hF hG h
 | [],q+1,F,G,TS,H,A,AG,S,K',st,hF,hG,h,_,_,hk=>h.elim
 | o::rest,q+1,F,G,TS,H,A,AG,S,K',st,hF,hG,h,hql,hd,hk=>by
  unfold tRes at h
  split at h
  ·rename_i d k b z len cap hg hG0 ho
   split at h
   ·rename_i ps y F1 G1 TS1 hq hev
    have hq:=beq_eq hq
    subst hq
    rw [conj_iff] at h
    obtain ⟨hps,h⟩:=h
    simp only [vcOps,hg,hG0,ho,splitG]
    unfold withE2 at hev
    split at hev
    ·rename_i a c hx hz
     have h2:=rdP_sim hF holds_nil hx
     have h3:=rdP_sim hF holds_nil hz
     generalize (match o.dst with | some d=>lookN hi.ty d | none=>none)=ht at hev
     unfold evMk at hev
     split at hev
     ·rename_i t cs k1 n k2 m _ hz' hi1 hi2
      split at hev<;>cases hev
      rename_i x _ hd' hsz hkk
      have hkk:=kEq_eq hkk
      subst hkk
      have g1:=hps.cons
      have g2:=g1.2.cons
      have g3:=g2.2.cons
      have q1:=g1.1
      have q2:=g2.1
      have q3:=g3.1
      have hdead:=hd (q+1) (by omega) (Nat.le_refl _)
      simp only [vcOp,rdK_iff,asI_sim hi1 h2,asI_sim hi2 h3,wIdx]
      refine ⟨n.toNat,by omega,by rw [q1],q3,by omega,hql,hdead,fun v=>?_⟩
      obtain ⟨e1,e2⟩:=decL_sim (H:=H) 1 hd' (ofL_sim hz')
      simp only [List.flatMap_cons,List.flatMap_nil,List.append_nil] at e2
      obtain ⟨H',p1,p2,p3⟩:=st.pushAt t (List.replicate n.toNat x) v hdead
      have e3:(List.replicate n.toNat z).flatten=(List.replicate n.toNat x).flatMap (encT t):=by
       rw [e2,List.flatMap,List.map_replicate]
      rw [e3,←beq_eq hsz]
      rw [pushO_eq,lenT_eq] at h
      refine tRes_sound hΓ hi rest q p2 (put_plain (hF.ext p1) (by simp only [SimV];exact ⟨_,p3,by simp only [slA,List.length_replicate]⟩)) (hG.ext p1) h (by rw [List.length_set];omega) (fun d0 h0 h1=>?_) hk
      rw [List.length_set,List.getElem?_set_ne (by omega)]
      exact hd d0 h0 (by omega)
     ·cases hev
    ·cases hev
   ·exact h.elim
  ·rename_i d k z hg hG0 ho
   split at h
   ·rename_i cs hq hz
    have hq:=beq_eq hq
    subst hq
    simp only [vcOps,hg,hG0,ho,splitG]
    have hdead:=hd (q+1) (by omega) (Nat.le_refl _)
    simp only [vcOp]
    refine ⟨by omega,hql,hdead,fun v=>?_⟩
    obtain ⟨H',p1,p2,p3⟩:=st.cellsAt k (ofL_sim hz) v hdead
    rw [pushO_eq,lenT_eq] at h
    refine tRes_sound hΓ hi rest q p2 (put_plain (hF.ext p1) (by simp only [SimV];exact ⟨_,_,_,p3,rfl,rfl⟩)) (hG.ext p1) h (by rw [List.length_set];omega) (fun d0 h0 h1=>?_) hk
    rw [List.length_set,List.getElem?_set_ne (by omega)]
    exact hd d0 h0 (by omega)
   ·exact h.elim
  ·split at h
   ·rename_i ps F1 hev
    rw [conj_iff] at h
    have:=evOps_sound hΓ hi st [o] 0 (K':=fun A' S'=>vcOps P K' rest A' S') hF hev h.1 fun A' hA=>tRes_sound hΓ hi rest (q+1) st hA hG h.2 hql hd hk
    exact vcOps_app [o] this
   ·exact h.elim
end
end Go.Vc
end
