/- Part of the proof of topEngine_holds: the whole is true of every input. Conditions: none. -/
import Derived.Calls
import Derived.Alone
import Derived.Laws.World
import Derived.Laws.Cells
import Derived.KernelRfl
import Derived.Lib.Bytealg
import Derived.Laws.StructEq
import Derived.Laws.Append
import Derived.Laws.Entries
import Derived.Laws.Slices
import Derived.Laws.Small
import Derived.Laws.Bits
import Derived.Laws.Strings
import Derived.OrdersIn
import Derived.Sort.LoopGhostIn
import Derived.RangeFuncIn
import Derived.RangeFuncRecord
import Derived.RangeFuncSeq
set_option linter.all false
section
section
namespace Go.Vc
inductive AA where
 | Ci
 | tt
 | ff
 | bool (b:Bool)
 | int (k:IntKind) (n:Int)
 | str (s:List UInt8)
 | Bp
 | ptr (l v off:Nat)
 | Fm (cs:List AA)
 | AM
 | sl (l v off len:Nat)
 | Em (len:Nat) (cs:List AA)
 | agg (cs:List AA)
 | DG (cs:List AA)
 | fn (f:Fn) (first cap:List AA)
 | H8
 | map (l v:Nat)
 | H9
 | iface (t:TypeId) (x:AA)
 | MN
 | Zs (v:Value)
 deriving Inhabited
inductive Bk where
 | nil
 | real (b base cap k:Nat)
 | WZ (b:Nat)
abbrev Env:=Nat->Option Bk
mutual
def Rel (E:Env) (fz:Nat->Prop) (w:World):AA->Value->Prop
 | .Ci,_=>True
 | .tt,v=>v= .bool true
 | .ff,v=>v= .bool false
 | .bool b,v=>v= .bool b
 | .int k n,v=>v= .int k n
 | .str s,v=>v= .string ⟨s.toArray⟩
 | .Bp,v=>v= .pointer none
 | .ptr _ x off,v=> ∃b base cap k,E x=some (.real b base cap k)/\v= .pointer (some ⟨b,base+off,none⟩)
 | .Fm cs,v=> ∃b off,fz b/\v= .pointer (some ⟨b,off,none⟩)/\CR E fz w b off cs
 | .AM,v=>v= .slice none 0 0
 | .sl _ x off len,v=>(len=0/\ ∃a,v= .slice a 0 0)\/
   ∃b base cap k c,E x=some (.real b base cap k)/\len<=c/\off+c*k<=cap/\v= .slice (some ⟨b,base+off,none⟩) len c
 | .Em len cs,v=>(len=0/\ ∃a c,v= .slice a 0 c)\/
   ∃b off c,fz b/\len<=c/\v= .slice (some ⟨b,off,none⟩) len c/\CR E fz w b off cs
 | .agg cs,v=> ∃vs:List Value,v= .agg vs.toArray/\AZ E fz w cs vs/\ ∀c∈vs,c.oneCell'=true
 | .DG cs,v=> ∃vs:List Value,v= .tuple vs.toArray/\AZ E fz w cs vs
 | .fn f xs ys,v=> ∃vs us:List Value,v= .func f vs.toArray us.toArray/\AZ E fz w xs vs/\AZ E fz w ys us
 | .H8,v=>v= .nilFunc
 | .map _ x,v=> ∃b,E x=some (.WZ b)/\v= .map (some b)
 | .H9,v=>v= .map none
 | .iface t x,v=> ∃u,v= .iface t u/\Rel E fz w x u
 | .MN,v=>v= .nilIface
 | .Zs u,v=>v=u
def AZ (E:Env) (fz:Nat->Prop) (w:World):List AA->List Value->Prop
 | [],vs=>vs=[]
 | x::xs,vs=> ∃v us,vs=v::us/\Rel E fz w x v/\AZ E fz w xs us
def CR (E:Env) (fz:Nat->Prop) (w:World) (b:Nat):Nat->List AA->Prop
 | _,[]=>True
 | off,x::xs=>(∃c,w.cell? ⟨b,off,none⟩=some c/\c.oneCell'=true/\Rel E fz w x c)/\CR E fz w b (off+1) xs
end
theorem cell_of_heap {w w':World} {b o:Nat} (h:w'.heap[b]?=w.heap[b]?):w'.cell? ⟨b,o,none⟩=w.cell? ⟨b,o,none⟩:=by
 unfold World.cell?;simp only [h]
section
variable {E E' : Env} {fz fz' : Nat -> Prop} {w w' : World}
mutual
theorem Rel.mono (hE: ∀v x,E v=some x->E' v=some x) (hf: ∀b,fz b->fz' b) (hw: ∀b,fz b->w'.heap[b]?=w.heap[b]?):
  ∀(x:AA) {v:Value},Rel E fz w x v->Rel E' fz' w' x v
 | .Ci,_,_=>by simp [Rel]
 | .tt,_,h=>by simpa [Rel] using h
 | .ff,_,h=>by simpa [Rel] using h
 | .bool _,_,h=>by simpa [Rel] using h
 | .int _ _,_,h=>by simpa [Rel] using h
 | .str _,_,h=>by simpa [Rel] using h
 | .Bp,_,h=>by simpa [Rel] using h
 | .ptr _ _ _,_,h=>by
  simp only [Rel] at*;obtain ⟨b,base,cap,k,h1,h2⟩:=h;exact ⟨b,base,cap,k,hE _ _ h1,h2⟩
 | .Fm cs,_,h=>by
  simp only [Rel] at*;obtain ⟨b,off,h1,h2,h3⟩:=h;exact ⟨b,off,hf _ h1,h2,CR.mono hE hf hw cs (hw b h1) h3⟩
 | .AM,_,h=>by simpa [Rel] using h
 | .sl _ _ _ _,_,h=>by
  simp only [Rel] at*;rcases h with h | ⟨b,base,cap,k,c,h1,h2⟩
  ·exact .inl h
  ·exact .inr ⟨b,base,cap,k,c,hE _ _ h1,h2⟩
 | .Em _ cs,_,h=>by
  simp only [Rel] at*;rcases h with h | ⟨b,off,c,h1,h2,h3,h4⟩
  ·exact .inl h
  ·exact .inr ⟨b,off,c,hf _ h1,h2,h3,CR.mono hE hf hw cs (hw b h1) h4⟩
 | .agg cs,_,h=>by
  simp only [Rel] at*;obtain ⟨vs,h1,h2,h3⟩:=h;exact ⟨vs,h1,AZ.mono hE hf hw cs h2,h3⟩
 | .DG cs,_,h=>by
  simp only [Rel] at*;obtain ⟨vs,h1,h2⟩:=h;exact ⟨vs,h1,AZ.mono hE hf hw cs h2⟩
 | .fn _ xs ys,_,h=>by
  simp only [Rel] at*;obtain ⟨vs,us,h1,h2,h3⟩:=h;exact ⟨vs,us,h1,AZ.mono hE hf hw xs h2,AZ.mono hE hf hw ys h3⟩
 | .H8,_,h=>by simpa [Rel] using h
 | .map _ _,_,h=>by
  simp only [Rel] at*;obtain ⟨b,h1,h2⟩:=h;exact ⟨b,hE _ _ h1,h2⟩
 | .H9,_,h=>by simpa [Rel] using h
 | .iface _ x,_,h=>by
  simp only [Rel] at*;obtain ⟨u,h1,h2⟩:=h;exact ⟨u,h1,Rel.mono hE hf hw x h2⟩
 | .MN,_,h=>by simpa [Rel] using h
 | .Zs _,_,h=>by simpa [Rel] using h
theorem AZ.mono (hE: ∀v x,E v=some x->E' v=some x) (hf: ∀b,fz b->fz' b) (hw: ∀b,fz b->w'.heap[b]?=w.heap[b]?):
  ∀(xs:List AA) {vs:List Value},AZ E fz w xs vs->AZ E' fz' w' xs vs
 | [],_,h=>by simpa [AZ] using h
 | x::xs,_,h=>by
  simp only [AZ] at*;obtain ⟨v,us,h1,h2,h3⟩:=h;exact ⟨v,us,h1,Rel.mono hE hf hw x h2,AZ.mono hE hf hw xs h3⟩
theorem CR.mono (hE: ∀v x,E v=some x->E' v=some x) (hf: ∀b,fz b->fz' b) (hw: ∀b,fz b->w'.heap[b]?=w.heap[b]?) {b:Nat}:
  ∀(xs:List AA) {off:Nat},w'.heap[b]?=w.heap[b]?->CR E fz w b off xs->CR E' fz' w' b off xs
 | [],_,_,_=>by simp [CR]
 | x::xs,off,hb,h=>by
  simp only [CR] at*;obtain ⟨⟨c,h1,h2,h3⟩,h4⟩:=h;exact ⟨⟨c,by rw [cell_of_heap hb];exact h1,h2,Rel.mono hE hf hw x h3⟩,CR.mono hE hf hw xs hb h4⟩
end
end
section
variable {E : Env} {fz : Nat -> Prop} {w : World}
theorem AZ.length: ∀ {xs:List AA} {vs:List Value},AZ E fz w xs vs->vs.length=xs.length
 | [],_,h=>by simp only [AZ] at h;simp [h]
 | x::xs,_,h=>by
  simp only [AZ] at h;obtain ⟨v,us,rfl,_,h3⟩:=h;simp [AZ.length h3]
theorem AZ.get: ∀ {xs:List AA} {vs:List Value},AZ E fz w xs vs-> ∀ {i:Nat} {x:AA},xs[i]?=some x-> ∃v,vs[i]?=some v/\Rel E fz w x v
 | [],_,_,i,x,hx=>by simp at hx
 | y::xs,_,h,i,x,hx=>by
  simp only [AZ] at h;obtain ⟨v,us,rfl,h2,h3⟩:=h;cases i with
  | zero=>simp at hx;subst hx;exact ⟨v,by simp,h2⟩
  | succ i=>simp at hx;simpa using AZ.get h3 hx
theorem AZ.mk: ∀ {xs:List AA} {vs:List Value},vs.length=xs.length->(∀(i:Nat) x v,xs[i]?=some x->vs[i]?=some v->Rel E fz w x v)->AZ E fz w xs vs
 | [],vs,h,_=>by simp only [AZ];exact List.length_eq_zero_iff.1 h
 | x::xs,[],h,_=>by simp at h
 | x::xs,v::vs,h,hr=>by
  simp only [AZ];refine ⟨v,vs,rfl,hr 0 x v rfl rfl,AZ.mk (by simpa using h) fun i x v hx hv=>hr (i+1) x v (by simpa using hx) (by simpa using hv)⟩
theorem AZ.append {xs ys:List AA} {vs us:List Value} (h:AZ E fz w xs vs) (h':AZ E fz w ys us):AZ E fz w (xs++ys) (vs++us):=by
 have hl:=h.length;refine AZ.mk (by simp [h.length,h'.length]) fun i x v hx hv=>?_;by_cases hi:i<xs.length
 ·rw [List.getElem?_append_left hi] at hx;rw [List.getElem?_append_left (by omega)] at hv;obtain ⟨v',h1,h2⟩:=h.get hx;rw [hv] at h1;cases h1;exact h2
 ·rw [List.getElem?_append_right (by omega)] at hx;rw [List.getElem?_append_right (by omega),hl] at hv;obtain ⟨v',h1,h2⟩:=h'.get hx;rw [hv] at h1;cases h1;exact h2
theorem AZ.drop {xs:List AA} {vs:List Value} (n:Nat) (h:AZ E fz w xs vs):AZ E fz w (xs.drop n) (vs.drop n):=by
 refine AZ.mk (by simp [h.length]) fun i x v hx hv=>?_;rw [List.getElem?_drop] at hx hv;obtain ⟨v',h1,h2⟩:=h.get hx;rw [hv] at h1;cases h1;exact h2
theorem AZ.take {xs:List AA} {vs:List Value} (n:Nat) (h:AZ E fz w xs vs):AZ E fz w (xs.take n) (vs.take n):=by
 refine AZ.mk (by simp [h.length]) fun i x v hx hv=>?_;rw [List.getElem?_take] at hx hv;split at hx
 ·rename_i hi;rw [if_pos hi] at hv;obtain ⟨v',h1,h2⟩:=h.get hx;rw [hv] at h1;cases h1;exact h2
 ·cases hx
theorem CR.get {b:Nat}: ∀ {xs:List AA} {off:Nat},CR E fz w b off xs-> ∀ {i:Nat} {x:AA},xs[i]?=some x->
  ∃c,w.cell? ⟨b,off+i,none⟩=some c/\c.oneCell'=true/\Rel E fz w x c
 | [],_,_,i,x,hx=>by simp at hx
 | y::xs,off,h,i,x,hx=>by
  simp only [CR] at h;cases i with
  | zero=>simp at hx;subst hx;exact h.1
  | succ i=>
   simp at hx;have:=CR.get h.2 hx;rwa [show off+1+i=off+(i+1) by omega] at this
theorem CR.mk {b:Nat}: ∀ {xs:List AA} {off:Nat},(∀(i:Nat) x,xs[i]?=some x-> ∃c,w.cell? ⟨b,off+i,none⟩=some c/\c.oneCell'=true/\Rel E fz w x c)->
  CR E fz w b off xs
 | [],_,_=>by simp [CR]
 | x::xs,off,h=>by
  simp only [CR];refine ⟨h 0 x rfl,CR.mk fun i y hy=>?_⟩;have:=h (i+1) y (by simpa using hy);rwa [show off+(i+1)=off+1+i by omega] at this
theorem CR.drop {b off:Nat} {xs:List AA} (n:Nat) (h:CR E fz w b off xs):CR E fz w b (off+n) (xs.drop n):=
 CR.mk fun i x hx=>by
  rw [List.getElem?_drop] at hx;have:=h.get hx;rwa [show off+(n+i)=off+n+i by omega] at this
theorem CR.take {b off:Nat} {xs:List AA} (n:Nat) (h:CR E fz w b off xs):CR E fz w b off (xs.take n):=
 CR.mk fun i x hx=>by
  rw [List.getElem?_take] at hx;split at hx
  ·exact h.get hx
  ·cases hx
theorem CR.append {b off:Nat} {xs ys:List AA} (h:CR E fz w b off xs) (h':CR E fz w b (off+xs.length) ys):CR E fz w b off (xs++ys):=
 CR.mk fun i x hx=>by
  by_cases hi:i<xs.length
  ·rw [List.getElem?_append_left hi] at hx;exact h.get hx
  ·rw [List.getElem?_append_right (by omega)] at hx;have:=h'.get hx;rwa [show off+xs.length+(i-xs.length)=off+i by omega] at this
theorem CR.read {b off:Nat} {xs:List AA} (h:CR E fz w b off xs): ∃vs:List Value,AZ E fz w xs vs/\(∀c∈vs,c.oneCell'=true)/\
  ∀(j:Nat) v,vs[j]?=some v->w.cell? ⟨b,off+j,none⟩=some v:=by
 induction xs generalizing off with
 | nil=>exact ⟨[],by simp [AZ],by simp,by simp⟩
 | cons x xs ih=>
  simp only [CR] at h;obtain ⟨⟨c,h1,h2,h3⟩,h4⟩:=h;obtain ⟨vs,g1,g2,g3⟩:=ih h4;refine ⟨c::vs,by simp only [AZ];exact ⟨c,vs,rfl,h3,g1⟩,by simpa [h2] using g2,fun j v hv=>?_⟩;cases j with
  | zero=>simp at hv;subst hv;simpa using h1
  | succ j=>
   have:=g3 j v (by simpa using hv);rwa [show off+1+j=off+(j+1) by omega] at this
end
end Go.Vc
end
section
namespace Go.Vc
abbrev Frame:=List (Nat×AA)
def Frame.get:Frame->Nat->AA
 | [],_=>.Ci
 | (k,x)::F,n=>match Nat.beq k n with | true=>x | false=>Frame.get F n
inductive Ob where
 | dead
 | row (v k:Nat) (cs:List AA)
 | Cw (v:Nat) (es:List (AA×AA))
 | GP (b:Nat) (L:Loop) (F:Frame)
 | Ep (v mv since last:Nat) (seen:List Nat)
 deriving Inhabited
abbrev AB:=List Ob
def AR (E:Env):Ob->Option Nat
 | .dead=>none
 | .row v _ _=>match E v with | some (.real b _ _ _)=>some b | _=>none
 | .Cw v _=>match E v with | some (.WZ b)=>some b | _=>none
 | .GP b _ _=>some b
 | .Ep v _ _ _ _=>match E v with | some (.real b _ _ _)=>some b | _=>none
def DH (E:Env) (S:AB) (l b:Nat):Prop:= ∃o,S[l]?=some o/\AR E o=some b
def Own (E:Env) (S:AB) (b:Nat):Prop:= ∃l,DH E S l b
inductive Kl (E:Env) (fz:Nat->Prop) (w:World):List (AA×AA)->List MapEntry->Prop
 | nil:Kl E fz w [] []
 | cons {k v:AA} {m:MapEntry} {es:List (AA×AA)} {ms:List MapEntry} (hk:Rel E fz w k m.key) (hv:Rel E fz w v m.val) (h:Kl E fz w es ms):
   Kl E fz w ((k,v)::es) (m::ms)
theorem Kl.mono {E E':Env} {fz fz':Nat->Prop} {w w':World} (hE: ∀v x,E v=some x->E' v=some x) (hf: ∀b,fz b->fz' b) (hw: ∀b,fz b->w'.heap[b]?=w.heap[b]?)
  {es:List (AA×AA)} {ms:List MapEntry} (h:Kl E fz w es ms):Kl E' fz' w' es ms:=by
 induction h with
 | nil=>exact .nil
 | cons hk hv _ ih=>exact .cons (hk.mono hE hf hw) (hv.mono hE hf hw) ih
def P5 (E:Env) (fz:Nat->Prop) (w:World):Ob->Prop
 | .dead=>True
 | .row v k cs=>(E v=some .nil/\cs=[])\/ ∃b base cap arr T lo hi,E v=some (.real b base cap k)/\w.heap[b]?=some (.cells arr T (lo,hi))/\
   base+cap<=arr.size/\cs.length<=cap/\(lo=hi\/(k=1/\arr.size<=lo))/\CR E fz w b base cs/\ ¬fz b
 | .Cw v es=> ∃b entries clock,E v=some (.WZ b)/\w.heap[b]?=some (.map entries clock)/\(Kl E fz w es entries.toList/\clock=entries.size/\ ∀(i:Nat) m,entries[i]?=some m->m.born=i)/\ ¬fz b
 | .Ep v mv since last seen=> ∃b m,E v=some (.real b 0 0 0)/\E mv=some (.WZ m)/\w.heap[b]?=some (.mapIter (some m) since seen.toArray last)/\since<=last/\ ¬fz b
 | .GP b L F=>w.heap[b]?=some (.loop L)/\L.state= .ready/\L.pending=none/\(∀n,Rel E fz w (F.get n) (L.tmps.getD n undef))/\ ¬fz b
structure St (E:Env) (fz:Nat->Prop) (S:AB) (w:World):Prop where
 ok: ∀(l:Nat) o,S[l]?=some o->P5 E fz w o
 sep: ∀l l' b,DH E S l b->DH E S l' b->l=l'
 Fx: ∀b,fz b->b<w.heap.size
 fresh: ∃n,∀v,n<=v->E v=none
def Dm:Prop:=False
abbrev Tp (w w':World):Prop:=w'.tape=w.tape/\(Dm->w.drawn<=w'.drawn)
theorem Tp.of {w w':World} (h:w'.tape=w.tape) (h':w.drawn<=w'.drawn):Tp w w':=⟨h,fun _=>h'⟩
theorem Tp.refl {w:World}:Tp w w:=⟨rfl,fun _=>Nat.le_refl _⟩
theorem Tp.trans {w w1 w2:World} (h:Tp w w1) (h':Tp w1 w2):Tp w w2:=⟨h'.1.trans h.1,fun d=>Nat.le_trans (h.2 d) (h'.2 d)⟩
structure Ext (E:Env) (fz:Nat->Prop) (S:AB) (w:World) (E':Env) (fz':Nat->Prop) (S':AB) (w':World):Prop where
 env: ∀v x,E v=some x->E' v=some x
 WI: ∀b,fz b->fz' b
 Gi: ∀b,fz' b->fz b\/Own E S b\/w.heap.size<=b
 AW: ∀b,b<w.heap.size-> ¬Own E S b->w'.heap[b]?=w.heap[b]?
 own: ∀b,Own E' S' b->Own E S b\/w.heap.size<=b
 size:w.heap.size<=w'.heap.size
 os:w'.os=w.os
 output:w'.output=w.output
 tape:Tp w w'
theorem Ext.refl {E:Env} {fz:Nat->Prop} {S:AB} {w:World}:Ext E fz S w E fz S w:=
 ⟨fun _ _ h=>h,fun _ h=>h,fun _ h=>.inl h,fun _ _ _=>rfl,fun _ h=>.inl h,Nat.le_refl _,rfl,rfl,Tp.refl⟩
theorem Ext.trans {E E1 E2:Env} {fz fz1 fz2:Nat->Prop} {S S1 S2:AB} {w w1 w2:World} (h:Ext E fz S w E1 fz1 S1 w1) (h':Ext E1 fz1 S1 w1 E2 fz2 S2 w2):
  Ext E fz S w E2 fz2 S2 w2 where
 env v x hx:=h'.env v x (h.env v x hx)
 WI b hb:=h'.WI b (h.WI b hb)
 Gi b hb:=by
  rcases h'.Gi b hb with h1 | h1 | h1
  ·exact h.Gi b h1
  ·exact .inr (h.own b h1)
  ·exact .inr (.inr (Nat.le_trans h.size h1))
 AW b hb hn:=by
  rw [h'.AW b (Nat.lt_of_lt_of_le hb h.size) (fun ho=>?_),h.AW b hb hn];rcases h.own b ho with h1 | h1
  ·exact hn h1
  ·omega
 own b hb:=by
  rcases h'.own b hb with h1 | h1
  ·exact h.own b h1
  ·exact .inr (Nat.le_trans h.size h1)
 size:=Nat.le_trans h.size h'.size
 os:=h'.os.trans h.os
 output:=h'.output.trans h.output
 tape:=h.tape.trans h'.tape
theorem P5.lt {E:Env} {fz:Nat->Prop} {w:World} {o:Ob} {b:Nat} (h:P5 E fz w o) (hb:AR E o=some b):b<w.heap.size/\ ¬fz b:=by
 have lt: ∀ {x:Obj},w.heap[b]?=some x->b<w.heap.size:=fun {x} hx=>by
  rcases Nat.lt_or_ge b w.heap.size with h | h
  ·exact h
  ·simp [Array.getElem?_eq_none h] at hx
 cases o with
 | dead=>simp [AR] at hb
 | row v k cs=>
  rcases h with ⟨h1,_⟩ | ⟨b',base,cap,arr,T,lo,hi,h1,h2,_,_,_,_,h3⟩
  ·simp [AR,h1] at hb
  ·simp [AR,h1] at hb;subst hb;exact ⟨lt h2,h3⟩
 | Cw v es=>
  obtain ⟨b',en,cl,h1,h2,_,h3⟩:=h;simp [AR,h1] at hb;subst hb;exact ⟨lt h2,h3⟩
 | GP b' L F=>
  obtain ⟨h1,_,_,_,h3⟩:=h;simp [AR] at hb;subst hb;exact ⟨lt h1,h3⟩
 | Ep v mv since last seen=>
  obtain ⟨b',m,h1,_,h2,_,h3⟩:=h;simp [AR,h1] at hb;subst hb;exact ⟨lt h2,h3⟩
theorem P5.block {E E':Env} {fz:Nat->Prop} {w:World} {o:Ob} (h:P5 E fz w o) (hE: ∀v x,E v=some x->E' v=some x):AR E' o=AR E o:=by
 cases o with
 | dead=>rfl
 | row v k cs=>
  rcases h with ⟨h1,_⟩ | ⟨b',base,cap,arr,T,lo,hi,h1,_⟩
  ·simp [AR,h1,hE _ _ h1]
  ·simp [AR,h1,hE _ _ h1]
 | Cw v es=>
  obtain ⟨b',en,cl,h1,_⟩:=h;simp [AR,h1,hE _ _ h1]
 | GP b' L F=>rfl
 | Ep v mv since last seen=>
  obtain ⟨b',m,h1,_⟩:=h;simp [AR,h1,hE _ _ h1]
theorem P5.mono {E E':Env} {fz fz':Nat->Prop} {w w':World} {o:Ob} (h:P5 E fz w o) (hE: ∀v x,E v=some x->E' v=some x) (hf: ∀b,fz b->fz' b)
  (hw: ∀b,fz b->w'.heap[b]?=w.heap[b]?) (hb: ∀b,AR E o=some b->w'.heap[b]?=w.heap[b]?/\ ¬fz' b):P5 E' fz' w' o:=by
 cases o with
 | dead=>trivial
 | row v k cs=>
  rcases h with ⟨h1,h0⟩ | ⟨b,base,cap,arr,T,lo,hi,h1,h2,h3,h4,h5,h6,h7⟩
  ·exact .inl ⟨hE _ _ h1,h0⟩
  ·have hbb:=hb b (by simp [AR,h1]);exact .inr ⟨b,base,cap,arr,T,lo,hi,hE _ _ h1,by rw [hbb.1];exact h2,h3,h4,h5,CR.mono hE hf hw cs hbb.1 h6,hbb.2⟩
 | Cw v es=>
  obtain ⟨b,en,cl,h1,h2,h3,h4⟩:=h;have hbb:=hb b (by simp [AR,h1]);exact ⟨b,en,cl,hE _ _ h1,by rw [hbb.1];exact h2,⟨h3.1.mono hE hf hw,h3.2⟩,hbb.2⟩
 | Ep v mv since last seen=>
  obtain ⟨b,m,h1,h2,h3,h4,h5⟩:=h;have hbb:=hb b (by simp [AR,h1]);exact ⟨b,m,hE _ _ h1,hE _ _ h2,by rw [hbb.1];exact h3,h4,hbb.2⟩
 | GP b L F=>
  obtain ⟨h1,h2,h3,h4,h5⟩:=h;have hbb:=hb b rfl;exact ⟨by rw [hbb.1];exact h1,h2,h3,fun n=>Rel.mono hE hf hw _ (h4 n),hbb.2⟩
section
variable {E E' : Env} {fz fz' : Nat -> Prop} {S S' : AB} {w w' : World}
theorem St.EU (st:St E fz S w) {l b:Nat} (h:DH E S l b):b<w.heap.size/\ ¬fz b:=by
 obtain ⟨o,h1,h2⟩:=h;exact (st.ok l o h1).lt h2
theorem St.Yq (st:St E fz S w) (h:Ext E fz S w E' fz' S' w'): ∀b,fz b->w'.heap[b]?=w.heap[b]?:=
 fun b hb=>h.AW b (st.Fx b hb) fun ⟨_,ho⟩=>(st.EU ho).2 hb
theorem St.rel (st:St E fz S w) (h:Ext E fz S w E' fz' S' w') {x:AA} {v:Value} (hr:Rel E fz w x v):Rel E' fz' w' x v:=
 hr.mono h.env h.WI (st.Yq h)
theorem St.dv (st:St E fz S w) (l:Nat) (o:Ob) (hE: ∀v x,E v=some x->E' v=some x) (hn: ∃n,∀v,n<=v->E' v=none)
  (hS: ∀l':Nat,l'≠l->S'[l']?=S[l']?) (hl:S'[l]?=some o) (hsz:w.heap.size<=w'.heap.size)
  (hw: ∀b,b<w.heap.size-> ¬DH E S l b->w'.heap[b]?=w.heap[b]?)
  (hb: ∀b,AR E' o=some b->DH E S l b\/w.heap.size<=b) (ho:P5 E' fz w' o)
  (h1:w'.os=w.os) (h2:w'.output=w.output) (h3:Tp w w'):St E' fz S' w'/\Ext E fz S w E' fz S' w':=by
 have AW: ∀b,fz b->w'.heap[b]?=w.heap[b]?:=fun b hb=>hw b (st.Fx b hb) fun ho=>(st.EU ho).2 hb;have back: ∀(l' b:Nat),l'≠l->DH E' S' l' b->DH E S l' b:=fun l' b hne ⟨o',g1,g2⟩=>by
  rw [hS l' hne] at g1;exact ⟨o',g1,by rw [<-(st.ok l' o' g1).block hE];exact g2⟩
 refine ⟨⟨fun l' o' hl'=>?_,fun l' l'' b g1 g2=>?_,fun b hb=>Nat.lt_of_lt_of_le (st.Fx b hb) hsz,hn⟩,
  ⟨hE,fun _ h=>h,fun _ h=>.inl h,fun b hb hno=>hw b hb fun hh=>hno ⟨l,hh⟩,fun b ⟨l',g⟩=>?_,hsz,h1,h2,h3⟩⟩
 ·by_cases hne:l'=l
  ·subst hne;rw [hl] at hl';cases hl';exact ho
  ·rw [hS l' hne] at hl';refine (st.ok l' o' hl').mono hE (fun _ h=>h) AW fun b hb'=>⟨hw b (st.EU ⟨o',hl',hb'⟩).1 fun hh=>hne (st.sep _ _ _ ⟨o',hl',hb'⟩ hh),(st.EU ⟨o',hl',hb'⟩).2⟩
 ·have fromL: ∀(b l'':Nat),l''≠l->DH E' S' l b->DH E' S' l'' b->False:=fun b l'' hne g1 g2=>by
   obtain ⟨o',q1,q2⟩:=g1;rw [hl] at q1;cases q1;have g2':=back l'' b hne g2;rcases hb b q2 with hh | hh
   ·exact hne (st.sep _ _ _ g2' hh)
   ·have:=(st.EU g2').1;omega
  by_cases e1:l'=l
  ·by_cases e2:l''=l
   ·rw [e1,e2]
   ·subst e1;exact (fromL b l'' e2 g1 g2).elim
  ·by_cases e2:l''=l
   ·subst e2;exact (fromL b l' e1 g2 g1).elim
   ·exact st.sep _ _ _ (back l' b e1 g1) (back l'' b e2 g2)
 ·by_cases hne:l'=l
  ·subst hne;obtain ⟨o',q1,q2⟩:=g;rw [hl] at q1;cases q1;rcases hb b q2 with hh | hh
   ·exact .inl ⟨_,hh⟩
   ·exact .inr hh
  ·exact .inl ⟨l',back l' b hne g⟩
theorem St.same (st:St E fz S w) (hh:w'.heap=w.heap) (h1:w'.os=w.os) (h2:w'.output=w.output) (h3:Tp w w'):St E fz S w'/\Ext E fz S w E fz S w':=by
 have ht: ∀b:Nat,w'.heap[b]?=w.heap[b]?:=fun b=>by rw [hh]
 refine ⟨⟨fun l o hl=>(st.ok l o hl).mono (fun _ _ h=>h) (fun _ h=>h) (fun b _=>ht b) fun b hb=>⟨ht b,(st.EU ⟨o,hl,hb⟩).2⟩,st.sep,fun b hb=>by rw [hh];exact st.Fx b hb,st.fresh⟩,
  ⟨fun _ _ h=>h,fun _ h=>h,fun _ h=>.inl h,fun b _ _=>ht b,fun _ h=>.inl h,by rw [hh];exact Nat.le_refl _,h1,h2,h3⟩⟩
end
end Go.Vc
end
section
namespace Go.Vc
inductive AL where
 | t (n:Nat)
 | c (x:AA)
 deriving Inhabited
def Uk:Frame->Nat->(AA->Prop)->Prop
 | [],_,K=>K .Ci
 | (k,x)::F,n,K=>match Nat.beq k n with | true=>K x | false=>Uk F n K
def rd (F:Frame):AL->AA
 | .t n=>F.get n
 | .c x=>x
def F9 (F:Frame) (x:AL) (K:AA->Prop):Prop:=match x with | .t n=>Uk F n K | .c x=>K x
def M4 (F:Frame) (xs:List AL) (K:List AA->Prop):Prop:=
 match xs with | []=>K [] | x::xs=>F9 F x fun v=>M4 F xs fun vs=>K (v::vs)
def gz (x:AA) (K:IntKind->Int->Prop):Prop:=match x with | .int k n=>K k n | _=>False
def jh (x:AA) (K:Bool->Prop):Prop:=match x with | .bool b=>K b | .tt=>K true | .ff=>K false | _=>False
def LA (x:AA) (K:Nat->Prop):Prop:=match x with | .int _ n=> ∃j:Nat,n=(j:Int)/\K j | _=>False
def Gc (x:AA) (K:List AA->Prop):Prop:=
 match x with | .agg cs=>K cs | .DG _=>False | .Ci=>False | .Zs _=>False | x=>K [x]
def takeN:Nat->List AA->Option (List AA)
 | 0,_=>some []
 | n+1,x::xs=>match takeN n xs with | some ys=>some (x::ys) | none=>none
 | _+1,[]=>none
def over:List AA->List AA->List AA
 | [],_=>[]
 | cs,[]=>cs
 | _::cs,y::ys=>y::over cs ys
def setCells:List AA->Nat->List AA->List AA
 | cs,0,ys=>over cs ys
 | [],_+1,_=>[]
 | c::cs,n+1,ys=>c::setCells cs n ys
def LB (S:AB) (l:Nat) (o:Ob) (K:AB->Prop):Prop:=
 match S,l with
 | [],_=>False
 | _::S,0=>K (o::S)
 | a::S,l+1=>LB S l o (fun S'=>K (a::S'))
def df (S:AB) (l:Nat) (K:Ob->Prop):Prop:=
 match S,l with
 | [],_=>False
 | o::_,0=>K o
 | _::S,l+1=>df S l K
def Xg:List AA->List AA->(List AA->Prop)->Prop
 | [],_,K=>K []
 | c::cs,[],K=>K (c::cs)
 | _::cs,y::ys,K=>Xg cs ys fun zs=>K (y::zs)
def IQ:List AA->Nat->List AA->(List AA->Prop)->Prop
 | cs,0,ys,K=>Xg cs ys K
 | [],_+1,_,K=>K []
 | c::cs,n+1,ys,K=>IQ cs n ys fun zs=>K (c::zs)
def OW (k:Nat) (cs:List AA) (off:Nat) (ys:List AA) (K:List AA->Prop):Prop:=
 match k with | 0=>IQ cs off ys K | _+1=>K (setCells cs off ys)
def QL:Nat->List AA->(List AA->Prop)->Prop
 | 0,cs,K=>K cs
 | n+1,_::cs,K=>QL n cs K
 | _+1,[],K=>K []
def RI:Nat->List AA->(List AA->Prop)->Prop
 | 0,_,K=>K []
 | n+1,x::xs,K=>RI n xs fun ys=>K (x::ys)
 | _+1,[],_=>False
def K5 (ag:Bool) (xs:List AA) (K:AA->Prop):Prop:=
 match ag with | true=>K (.agg xs) | false=>match xs with | [x]=>K x | _=>False
def JK (S:AB) (l v:Nat) (K:Nat->List AA->Prop):Prop:=
 df S l fun o=>match o with | .row v' k cs=>v=v'/\K k cs | _=>False
def dh (S:AB) (l v:Nat) (K:List (AA×AA)->Prop):Prop:=
 df S l fun o=>match o with | .Cw v' es=>v=v'/\K es | _=>False
def dg (S:AB) (l v:Nat) (K:Nat->Nat->Nat->List Nat->Prop):Prop:=
 df S l fun o=>match o with | .Ep v' mv since last seen=>v=v'/\K mv since last seen | _=>False
inductive M6 where | str | int (k:IntKind) | bool
 deriving Inhabited
def IA:M6->AA->Bool
 | .str,.str _=>true
 | .int k,.int k' _=>decide (k=k')
 | .bool,.bool _=>true
 | _,_=>false
def Kd:AA->AA->Bool
 | .str a,.str b=>a == b
 | .int _ a,.int _ b=>a == b
 | .bool a,.bool b=>a == b
 | _,_=>false
def HN (y:AA):List (AA×AA)->Option (Nat×AA)
 | []=>none
 | (k,v)::r=>match Kd y k with | true=>some (0,v) | false=>match HN y r with | some (i,x)=>some (i+1,x) | none=>none
def HA (y x:AA) (es:List (AA×AA)):List (AA×AA):=match HN y es with | some (i,_)=>es.set i (y,x) | none=>es++[(y,x)]
def S4 (ok:Bool) (x:AA) (b:Bool):AA:=match ok with | true=>.DG [x,.bool b] | false=>x
def ID (S:AB) (n:Nat) (ag:Bool) (x:AA) (K:AA->Prop):Prop:=
 match x with
 | .Fm cs=>RI n cs fun xs=>K5 ag xs K
 | .ptr l v off=>JK S l v fun k cs=>match k with
  | 0=>QL off cs fun ds=>RI n ds fun xs=>K5 ag xs K
  | _+1=> ∃xs,takeN n (cs.drop off)=some xs/\K5 ag xs K
 | _=>False
def JO (F:Frame) (cs:List AA) (K:List AA->Prop):List (Nat×Nat×AL)->Prop
 | []=>K cs
 | (off,n,x)::rest=>F9 F x fun x=>Gc x fun ys=>ys.length=n/\off+n<=cs.length/\IQ cs off ys fun cs'=>JO F cs' K rest
def AH (n:Int):Prop:= -9223372036854775808<=n/\n<=9223372036854775807
def dx (k:IntKind) (n:Int) (K:AA->Prop):Prop:=
 match k with | .i64=>AH n/\K (.int .i64 n) | k=>K (.int k (k.wrap n))
def IJ (op:BinOp) (k:IntKind) (a b:Int) (K:AA->Prop):Prop:=
 match op with
 | .add=>dx k (a+b) K
 | .sub=>dx k (a-b) K
 | .mul=>dx k (a*b) K
 | .quo=>b≠0/\dx k (a.tdiv b) K
 | .rem=>b≠0/\K (.int k (a.tmod b))
 | .eql=>K (.bool (decide (a=b)))
 | .neq=>K (.bool (!decide (a=b)))
 | .lss=>K (.bool (decide (a<b)))
 | .leq=>K (.bool (decide (a<=b)))
 | .gtr=>K (.bool (decide (b<a)))
 | .geq=>K (.bool (decide (b<=a)))
 | .and=>K (.int k (k.wrap ((BitVec.ofInt k.bits a) &&& (BitVec.ofInt k.bits b)).toNat))
 | .or=>K (.int k (k.wrap ((BitVec.ofInt k.bits a) ||| (BitVec.ofInt k.bits b)).toNat))
 | .xor=>K (.int k (k.wrap ((BitVec.ofInt k.bits a) ^^^ (BitVec.ofInt k.bits b)).toNat))
 | _=>False
def Me (op:BinOp) (a b:List UInt8) (K:AA->Prop):Prop:=
 match op with
 | .add=>AH (a.length+b.length)/\K (.str (a++b))
 | .eql=>K (.bool (decide (a=b)))
 | .neq=>K (.bool (!decide (a=b)))
 | .lss=>K (.bool (Op.bytesLess a b))
 | .leq=>K (.bool (Op.bytesLess a b || decide (a=b)))
 | .gtr=>K (.bool (!(Op.bytesLess a b || decide (a=b))))
 | .geq=>K (.bool (!Op.bytesLess a b))
 | _=>False
inductive FK where
 | int
 | str
 | bool
 deriving Inhabited
def A8:List FK->List AA->List AA->(Bool->Prop)->Prop
 | [],[],[],K=>K true
 | .int::ks,.int k a::xs,.int k' b::ys,K=>k=k'/\A8 ks xs ys fun r=>K (decide (a=b) && r)
 | .str::ks,.str a::xs,.str b::ys,K=>A8 ks xs ys fun r=>K (decide (a=b) && r)
 | .bool::ks,.bool a::xs,.bool b::ys,K=>A8 ks xs ys fun r=>K (decide (a=b) && r)
 | _,_,_,_=>False
def W6 (op:BinOp) (r:Bool) (K:AA->Prop):Prop:=
 match op with | .eql=>K (.bool r) | .neq=>K (.bool (!r)) | _=>False
inductive jm where
 | none
 | bool
 | ptr
 | agg (ks:List FK)
 | func
 | map
 deriving Inhabited
def GS (q:jm) (op:BinOp) (x y:AA) (K:AA->Prop):Prop:=
 match x,y with
 | .int k a,.int k' b=>
  match op with
  | .shl=>0<=b/\dx k (a*2 ^ (min b.toNat k.bits)) K
  | .shr=>0<=b/\K (.int k (a.fdiv (2 ^ (min b.toNat k.bits))))
  | op=>k=k'/\IJ op k a b K
 | .str a,.str b=>Me op a b K
 | .bool a,.bool b=>match q with | .bool=>W6 op (decide (a=b)) K | _=>False
 | .agg xs,.agg ys=>match q with | .agg ks=>A8 ks xs ys fun r=>W6 op r K | _=>False
 | .Bp,.Bp=>match q with | .ptr=>W6 op true K | _=>False
 | .ptr _ _ _,.Bp=>match q with | .ptr=>W6 op false K | _=>False
 | .Bp,.ptr _ _ _=>match q with | .ptr=>W6 op false K | _=>False
 | .Fm _,.Bp=>match q with | .ptr=>W6 op false K | _=>False
 | .Bp,.Fm _=>match q with | .ptr=>W6 op false K | _=>False
 | .H8,.H8=>match q with | .func=>W6 op true K | _=>False
 | .fn _ _ _,.H8=>match q with | .func=>W6 op false K | _=>False
 | .H9,.H9=>match q with | .map=>W6 op true K | _=>False
 | .map _ _,.H9=>match q with | .map=>W6 op false K | _=>False
 | _,_=>False
def BL (cs:List AA) (off n:Nat):List AA:=(cs.drop off).take n
def Cy (P:Program) (f:FuncId):Bool:=match P.funcs[f]? with | some fn=>fn.body.isSome && fn.name != "runtime.NumGoroutine" | none=>false
def M8 (P:Program) (f:FuncId) (args:Array Value) (w:World) (R:Ending->World->Prop):Prop:=
 (Cy P f=true/\Calls P f args w R)\/ ∃v w',(callFunc f args).run P w= .ok (.value v) w'/\R (.returned v) w'
theorem M8.mono {P:Program} {f:FuncId} {args:Array Value} {w:World} {R R':Ending->World->Prop} (h:M8 P f args w R) (hr: ∀e w',R e w'->R' e w'):M8 P f args w R':=
 match h with
 | .inl ⟨a,h⟩=>.inl ⟨a,h.mono hr⟩
 | .inr ⟨v,w',h1,h2⟩=>.inr ⟨v,w',h1,hr _ _ h2⟩
structure AU (P:Program) (f:FuncId) (args:List AA) (S:AB) (R:AA->AB->Prop):Prop where
 out: ∀E fz w vals,St E fz S w->AZ E fz w args vals->
  M8 P f vals.toArray w fun e w'=> ∃r S' v E' fz',e= .returned v/\Ext E fz S w E' fz' S' w'/\St E' fz' S' w'/\Rel E' fz' w' r v/\R r S'
structure Kn (P:Program) (l:Nat) (args:List AA) (S:AB) (R:AA->AB->Prop):Prop where
 out: ∀E fz w vals,St E fz S w->AZ E fz w args vals->
  YieldAt Fence.wide 0 P l vals.toArray w fun e w'=> ∃r S' v E' fz',e= .returned v/\Ext E fz S w E' fz' S' w'/\St E' fz' S' w'/\Rel E' fz' w' r v/\R r S'
inductive d_ where
 | nw
 | u0
 deriving Inhabited
def jf (k:d_) (xs:List AA) (K:AA->Prop):Prop:=
 match k,xs with
 | .nw,[.str s,.int .u8 c]=>K (.int .i64 (Lib.indexByte s c.toNat.toUInt8))
 | .u0,[.str s,.int .u8 c]=>K (.int .i64 (Lib.countByte s c.toNat.toUInt8:Nat))
 | _,_=>False
inductive Dw where
 | C8 (x:AL)
 | DU (k:Nat)
 | pick (c a b:AL)
 | alloc (k:Nat) (z:List AA)
 | box (k:Nat) (x:AL)
 | build (z:List AA) (parts:List (Nat×Nat×AL))
 | A7 (ro:Bool) (len k:Nat) (z:List AA) (parts:List (Nat×Nat×AL))
 | load (n:Nat) (ag:Bool) (x:AL)
 | store (n:Nat) (x v:AL)
 | E5 (x:AL)
 | bin (q:jm) (op:BinOp) (x y:AL)
 | N1 (x:AL)
 | not (x:AL)
 | neg (x:AL)
 | conv (k:IntKind) (x:AL)
 | Gy (k bytes:Nat) (z:List AA) (len cap:AL)
 | slice (k:Nat) (x:AL) (lo hi:Option AL)
 | DJ (off:Nat) (x:AL)
 | field (off n:Nat) (ag:Bool) (x:AL)
 | D_ (k:Nat) (arr:Option Nat) (x i:AL)
 | index (k:Nat) (arr:Option Nat) (ag:Bool) (x i:AL)
 | len (str:Bool) (x:AL)
 | append (k bytes:Nat) (s x:AL)
 | eE (k bytes:Nat) (s x:AL)
 | min (xs:List AL)
 | max (xs:List AL)
 | GV (f:Fn) (first cap:List AL)
 | extract (x:AL) (i:Nat)
 | ext (k:d_) (args:List AL)
 | call (f:FuncId) (args:List AL)
 | Fo (x:AL) (args:List AL)
 | PD (f:FuncId) (args:List AL)
 | NF (d k:Nat) (f:FuncId) (args:List AL)
 | bad
 | GO (neg:Bool) (x:AL)
 | peq (neg:Bool) (x y:AL)
 | L8 (n:Nat) (x:AL)
 | Mr (d k bytes:Nat) (z:List AA) (len cap:AL)
 | clear (k:Nat) (z:List AA) (x:AL)
 | qN (x:AL)
 | qW (x:AL)
 | mark (x:AL)
 | again (t n:Nat) (ag:Bool) (x:AL)
 | Mk (d k:Nat) (z:List AA)
 | JG (d:Nat)
 | Kw (d k:Nat) (f:FuncId) (args zs:List AL)
 | VJ (t:TypeId) (x:AL)
 | slice3 (k:Nat) (x h m:AL)
 | Mq
 | Ke (q:M6) (ok:Bool) (z:AA) (m k:AL)
 | ZD (q:M6) (m k x:AL)
 | lC (q:M6) (z:AA) (m k:AL)
 | lF (m i x:AL)
 | K6 (x:AL)
 | S5 (x:AL)
 | NZ (x:AL)
 deriving Inhabited
def M5 (S:AB) (k:Nat) (x:AA) (K:Nat->List AA->Prop):Prop:=
 match x with
 | .AM=>K 0 []
 | .Em n cs=>n*k<=cs.length/\K n (cs.take (n*k))
 | .sl l v off n=>JK S l v fun _ cs=>off+n*k<=cs.length/\K n (BL cs off (n*k))
 | .str s=>k=1/\K s.length (s.map fun c=>.int .u8 c.toNat)
 | _=>False
def Wk (F:Frame) (x:Option AL) (K:Nat->Prop):Prop:=match x with | none=>K 0 | some r=>F9 F r fun x=>LA x K
def X9 (F:Frame) (n:Nat) (x:Option AL) (K:Nat->Prop):Prop:=match x with | none=>K n | some r=>F9 F r fun x=>LA x K
def TP (a:AA) (K:AA->Prop):List AA->Prop
 | []=>K a
 | b::rest=>match a,b with | .int k x,.int k' y=>k=k'/\TP (.int k (Min.min x y)) K rest | _,_=>False
def TO (a:AA) (K:AA->Prop):List AA->Prop
 | []=>K a
 | b::rest=>match a,b with | .int k x,.int k' y=>k=k'/\TO (.int k (Max.max x y)) K rest | _,_=>False
def Hz (S:AB) (o:Ob) (K:Nat->AB->Prop):Prop:=
 match S with
 | []=>K 0 [o]
 | a::S=>Hz S o fun n S'=>K (n+1) (a::S')
def byteCells (ys:List AA) (K:List UInt8->Prop):Prop:= ∃ns:List Int,ys=ns.map (AA.int .u8)/\K (ns.map fun n=>UInt8.ofNat n.toNat)
def Mh (S:AB) (x:AA) (K:List UInt8->Prop):Prop:=
 match x with
 | .AM=>K []
 | .Em n cs=>n<=cs.length/\byteCells (cs.take n) K
 | .sl l v off n=>JK S l v fun _ cs=>off+n<=cs.length/\byteCells (BL cs off n) K
 | _=>False
def AF (P:Program) (F:Frame) (S:AB) (K:AA->AB->Prop):Dw->Prop
 | .C8 x=>F9 F x fun x=>K x S
 | .DU k=> ∀v,Hz S (.row v k []) fun l S'=>K (.sl l v 0 0) S'
 | .pick c a b=>F9 F c fun c=>match c with
  | .tt=>F9 F a fun x=>K x S
  | .ff=>F9 F b fun x=>K x S
  | .bool c=>(c=true->F9 F a fun x=>K x S)/\(c=false->F9 F b fun x=>K x S)
  | _=>False
 | .alloc k z=> ∀v,Hz S (.row v k z) fun l S'=>K (.ptr l v 0) S'
 | .box k x=>F9 F x fun x=>Gc x fun cs=> ∀v,Hz S (.row v k cs) fun l S'=>K (.ptr l v 0) S'
 | .build z parts=>JO F z (fun cs=>K (.agg cs) S) parts
 | .A7 ro len k z parts=>JO F z (fun cs=>match ro with
  | true=>K (.Em len cs) S
  | false=> ∀v,Hz S (.row v k cs) fun l S'=>K (.sl l v 0 len) S') parts
 | .load n ag x=>F9 F x fun x=>ID S n ag x fun r=>K r S
 | .store n x v=>F9 F x fun x=>match x with
  | .ptr l ver off=>JK S l ver fun k cs=>F9 F v fun v=>Gc v fun ys=>ys.length=n/\off+n<=cs.length/\
    OW k cs off ys fun cs'=>LB S l (.row ver k cs') fun S'=>K .Ci S'
  | _=>False
 | .E5 x=>F9 F x fun x=>match x with
  | .ptr l v off=>K (.ptr l v off) S
  | .Fm cs=>K (.Fm cs) S
  | .fn (.func f) a b=>K (.fn (.func f) a b) S
  | .map l v=>K (.map l v) S
  | _=>False
 | .bin q op x y=>F9 F x fun x=>F9 F y fun y=>GS q op x y fun r=>K r S
 | .N1 x=>F9 F x fun x=>match x with | .str s=>K (.str s) S | _=>False
 | .not x=>F9 F x fun x=>jh x fun b=>K (.bool (!b)) S
 | .neg x=>F9 F x fun x=>gz x fun k n=>dx k (0-n) fun r=>K r S
 | .conv k x=>F9 F x fun x=>gz x fun _ n=>dx k n fun r=>K r S
 | .Gy k bytes z len cap=>F9 F len fun x=>F9 F cap fun y=>LA x fun n=>(y=x\/ ∃kc,∃c:Nat,y= .int kc (c:Int)/\n<=c/\bytes*c<=140737488355328)/\bytes*n<=140737488355328/\
   ∀v,Hz S (.row v k (List.replicate n z).flatten) fun l S'=>K (.sl l v 0 n) S'
 | .slice k x lo hi=>F9 F x fun x=>match k with
  | 0=>match x with
   | .str s=>X9 F s.length hi fun h=>Wk F lo fun j=>j<=h/\h<=s.length/\K (.str ((s.take h).drop j)) S
   | _=>False
  | k+1=>match x with
   | .Em n cs=>X9 F n hi fun h=>Wk F lo fun j=>j<=h/\h<=n/\n*(k+1)<=cs.length/\K (.Em (h-j) (BL cs (j*(k+1)) ((h-j)*(k+1)))) S
   | .sl l v off n=>X9 F n hi fun h=>Wk F lo fun j=>j<=h/\h<=n/\JK S l v fun k' _=>k'=k+1/\K (.sl l v (off+j*(k+1)) (h-j)) S
   | .AM=>X9 F 0 hi fun h=>Wk F lo fun j=>j=0/\h=0/\K .AM S
   | _=>False
 | .DJ off x=>F9 F x fun x=>match x with
  | .ptr l v o=>K (.ptr l v (o+off)) S
  | .Fm cs=>QL off cs fun cs'=>K (.Fm cs') S
  | _=>False
 | .field off n ag x=>F9 F x fun x=>match x with
  | .agg cs=>QL off cs fun ds=>RI n ds fun xs=>K5 ag xs fun r=>K r S
  | _=>False
 | .D_ k arr x i=>F9 F x fun x=>F9 F i fun i=>LA i fun j=>match x,arr with
  | .Em n cs,none=>j<n/\ ∃xs,takeN k (cs.drop (j*k))=some xs/\K (.Fm xs) S
  | .sl l v off n,none=>j<n/\JK S l v fun k' _=>(k'=k\/k'=0)/\K (.ptr l v (off+j*k)) S
  | .ptr l v off,some n=>j<n/\K (.ptr l v (off+j*k)) S
  | .Fm cs,some n=>j<n/\K (.Fm (cs.drop (j*k))) S
  | _,_=>False
 | .index k arr ag x i=>F9 F x fun x=>F9 F i fun i=>LA i fun j=>match x,arr with
  | .str s,none=> ∃c,s[j]?=some c/\K (.int .u8 (c.toNat:Int)) S
  | .agg cs,some n=>j<n/\ ∃xs,takeN k (cs.drop (j*k))=some xs/\K5 ag xs fun r=>K r S
  | _,_=>False
 | .len str x=>F9 F x fun x=>match str with
  | true=>match x with
   | .str s=>K (.int .i64 (s.length:Int)) S
   | _=>False
  | false=>match x with
   | .Em n _=>K (.int .i64 (n:Int)) S
   | .sl _ _ _ n=>K (.int .i64 (n:Int)) S
   | .AM=>K (.int .i64 ((0:Nat):Int)) S
   | _=>False
 | .append k bytes s x=>F9 F s fun s=>F9 F x fun x=>M5 S k x fun n ys=>match s with
  | .AM=>n*bytes<=140737488355328/\ ∀v,Hz S (.row v k ys) fun l S'=>K (.sl l v 0 n) S'
  | .sl l ver off len=>JK S l ver fun k' cs=>k'=k/\off+len*k<=cs.length/\(len+n)*bytes<=140737488355328/\
    ∀v,LB S l (.row v k (BL cs off (len*k)++ys)) fun S'=>K (.sl l v 0 (len+n)) S'
  | _=>False
 | .eE k bytes s x=>F9 F s fun s=>F9 F x fun x=>M5 S k x fun n ys=>0<n/\match s with
  | .AM=>n*bytes<=140737488355328/\ ∀v,Hz S (.row v k ys) fun l S'=>K (.sl l v 0 n) S'
  | .sl l ver off len=>JK S l ver fun k' cs=>k'=k/\off+len*k<=cs.length/\(len+n)*bytes<=140737488355328/\
    (LB S l (.row ver k (cs.take (off+len*k)++ys)) fun S'=>K (.sl l ver off (len+n)) S')/\ ∀v,Hz S (.row v k (BL cs off (len*k)++ys)) fun l' S'=>K (.sl l' v 0 (len+n)) S'
  | _=>False
 | .min xs=>M4 F xs fun vs=>match vs with | []=>False | x::rest=>TP x (fun r=>K r S) rest
 | .max xs=>M4 F xs fun vs=>match vs with | []=>False | x::rest=>TO x (fun r=>K r S) rest
 | .GV f first cap=>M4 F first fun xs=>M4 F cap fun ys=>K (.fn f xs ys) S
 | .extract x i=>F9 F x fun x=>match x with | .DG xs=>QL i xs fun ds=>(match ds with | y::_=>K y S | []=>False) | _=>False
 | .ext k args=>M4 F args fun xs=>jf k xs fun r=>K r S
 | .call f args=>M4 F args fun xs=>AU P f xs S K
 | .NF d k f args=>M4 F args fun xs=> ∃n cs,AU P f xs S (fun r S'=> ∃v,r= .sl S.length v 0 n/\S'=S++[.row v k cs])/\0<d/\d<=S.length/\S[S.length-d]?=some .dead/\
   ∀v,K (.sl (S.length-d) v 0 n) (S.set (S.length-d) (.row v k cs))
 | .PD f args=>M4 F args fun xs=> ∃r0,AU P f xs [] (fun r _=>r=r0)/\K r0 S
 | .Fo x args=>F9 F x fun x=>match x with | .fn (.func f) [] cap=>True/\M4 F args fun xs=>AU P f (xs++cap) S K | .fn (.yield l) [] []=>True/\M4 F args fun xs=>Kn P l xs S K | _=>False
 | .bad=>False
 | .peq neg x y=>F9 F x fun x=>F9 F y fun y=>match x,y with
  | .ptr l v off,.ptr l' v' off'=>JK S l v fun k _=>k=0/\JK S l' v' fun k' _=>k'=0/\K (.bool (decide (l=l'/\off=off') != neg)) S
  | .ptr _ _ _,.Bp=>K (.bool neg) S
  | .Bp,.ptr _ _ _=>K (.bool neg) S
  | .Fm _,.Bp=>K (.bool neg) S
  | .Bp,.Fm _=>K (.bool neg) S
  | .Bp,.Bp=>K (.bool (!neg)) S
  | _,_=>False
 | .L8 n x=>F9 F x fun x=>match x with
  | .ptr l v off=>JK S l v fun k cs=>k=0/\off+n<=cs.length/\K (.sl l v off n) S
  | _=>False
 | .GO neg x=>F9 F x fun x=>match x with
  | .AM=>K (.bool (!neg)) S
  | .Em n _=> ∀b:Bool,(b=true->n=0)->K (.bool (b != neg)) S
  | .sl _ _ _ n=> ∀b:Bool,(b=true->n=0)->K (.bool (b != neg)) S
  | _=>False
 | .Mr d k bytes z len cap=>F9 F len fun x=>F9 F cap fun y=>LA x fun n=>y=x/\bytes*n<=140737488355328/\0<d/\d<=S.length/\S[S.length-d]?=some .dead/\
   ∀v,K (.sl (S.length-d) v 0 n) (S.set (S.length-d) (.row v k (List.replicate n z).flatten))
 | .Mk d k z=>0<d/\d<=S.length/\S[S.length-d]?=some .dead/\ ∀v,K (.ptr (S.length-d) v 0) (S.set (S.length-d) (.row v k z))
 | .JG d=>0<d/\d<=S.length/\S[S.length-d]?=some .dead/\ ∀v,K (.map (S.length-d) v) (S.set (S.length-d) (.Cw v []))
 | .Kw d k f args zs=>M4 F args fun xs=>M4 F zs fun cs=>AU P f xs [] (fun r S'=> ∃v,r= .ptr 0 v 0/\S'=[.row v k cs])/\0<d/\d<=S.length/\S[S.length-d]?=some .dead/\
   ∀v,K (.ptr (S.length-d) v 0) (S.set (S.length-d) (.row v k cs))
 | .VJ t x=>F9 F x fun x=>K (.iface t x) S
 | .slice3 k x h m=>F9 F x fun x=>F9 F h fun y=>F9 F m fun z=>LA y fun n=>z=y/\match x with
  | .sl l v off len=>n<=len/\JK S l v fun k' _=>k'=k/\K (.sl l v off n) S
  | .AM=>n=0/\K .AM S
  | _=>False
 | .clear k z x=>F9 F x fun x=>match x with
  | .AM=>K .Ci S
  | .sl l v off n=>JK S l v fun k' cs=>k'=k/\off+n*k<=cs.length/\LB S l (.row v k (setCells cs off (List.replicate n z).flatten)) fun S'=>K .Ci S'
  | _=>False
 | .qN x=>F9 F x fun x=>match x with
  | .str s=> ∀v,Hz S (.row v 1 (s.map fun c=>.int .u8 c.toNat)) fun l S'=>K (.sl l v 0 s.length) S'
  | _=>False
 | .qW x=>F9 F x fun x=>Mh S x fun bs=>K (.str bs) S
 | .mark x=>F9 F x fun x=>match x with | .sl l v off n=>0<n/\JK S l v fun k _=>k=1/\K (.sl l v off n) S | _=>False
 | .again t n ag x=>F9 F x fun x=>F9 F (.t t) fun y=>ID S n ag x fun r=>r=y/\K .Ci S
 | .Mq=> ∀v,Hz S (.Cw v []) fun l S'=>K (.map l v) S'
 | .Ke q ok z m k=>F9 F m fun x=>F9 F k fun y=>IA q y=true/\match x with
  | .H9=>K (S4 ok z false) S
  | .map l v=>dh S l v fun es=>(∀e∈es,IA q e.1=true)/\K (match HN y es with | some (_,u)=>S4 ok u true | none=>S4 ok z false) S
  | _=>False
 | .ZD q m k x=>F9 F m fun m=>F9 F k fun y=>F9 F x fun u=>IA q y=true/\match m with
  | .map l v=>dh S l v fun es=>(∀e∈es,IA q e.1=true)/\LB S l (.Cw v (HA y u es)) fun S'=>K .Ci S'
  | _=>False
 | .lC q z m k=>F9 F m fun m=>F9 F k fun y=>IA q y=true/\match m with
  | .map l v=>dh S l v fun es=>(∀e∈es,IA q e.1=true)/\match HN y es with
   | some (i,u)=>LB S l (.Cw v (es.set i (y,u))) fun S'=>K (.DG [u,.int .i64 (i:Int)]) S'
   | none=>LB S l (.Cw v (es++[(y,z)])) fun S'=>K (.DG [z,.int .i64 (es.length:Int)]) S'
  | _=>False
 | .K6 x=>F9 F x fun x=>match x with
  | .map l v=>dh S l v fun es=> ∀v',Hz S (.Ep v' v es.length es.length []) fun l' S'=>K (.ptr l' v' 0) S'
  | _=>False
 | .S5 x=>F9 F x fun x=>match x with
  | .ptr l v 0=>dg S l v fun mv since last seen=> ∃(lm:Nat) (es:List (AA×AA)),S[lm]?=some (Ob.Cw mv es)/\es.length=since/\((∀i:Nat,i<es.length->i∈seen)->K (.DG [.bool false]) S)/\
    ∀(i:Nat) (e:AA×AA),es[i]?=some e->i ∉ seen->LB S l (.Ep v mv since es.length (seen++[i])) fun S'=>K (.DG [.bool true,e.1,e.2]) S'
  | _=>False
 | .NZ x=>F9 F x fun x=>match x with
  | .ptr l v 0=>dg S l v fun mv since last seen=> ∃(lm:Nat) (es:List (AA×AA)) (i:Nat) (e:AA×AA),S[lm]?=some (Ob.Cw mv es)/\last=es.length/\seen.getLast?=some i/\es[i]?=some e/\K (.DG [e.1,e.2]) S
  | _=>False
 | .lF m i x=>F9 F m fun m=>F9 F i fun y=>F9 F x fun u=>LA y fun j=>match m with
  | .map l v=>dh S l v fun es=>match es[j]? with
   | some e=>LB S l (.Cw v (es.set j (e.1,u))) fun S'=>K .Ci S'
   | none=>False
  | _=>False
structure Cs where
 dst:Option Nat
 op:Dw
 guard:Option (Nat×Bool)
 G9:Bool
 Kx:List (Nat×Nat×Bool×AL)
 deriving Inhabited
def NA (k:Nat×Nat×Bool×AL):Cs:=⟨none,.again k.1 k.2.1 k.2.2.1 k.2.2.2,none,false,[]⟩
def DZ:List Cs->List Cs
 | []=>[]
 | o::l=>o::(o.Kx.map NA++DZ l)
def vO (o:Cs):Bool:=match o.op with | .again _ _ _ _=>false | _=>true
def pO:List Cs->List Cs
 | []=>[]
 | o::l=>match vO o with | true=>o::pO l | false=>pO l
def AK (F:Frame) (d:Option Nat) (x:AA):Frame:=match d with | some d=>(d,x)::F | none=>F
def Al (G9:Bool) (x:AA) (K:AA->Prop):Prop:=
 match G9 with
 | false=>K x
 | true=>match x with
  | .bool b=>(b=true->K .tt)/\(b=false->K .ff)
  | .tt=>K .tt
  | .ff=>K .ff
  | _=>False
def BC (P:Program) (K:Frame->AB->Prop):List Cs->Frame->AB->Prop
 | [],F,S=>K F S
 | o::rest,F,S=>
  match o.guard with
  | none=>AF P F S (fun x S'=>Al o.G9 x fun x=>BC P K rest (AK F o.dst x) S') o.op
  | some (g,want)=>Uk F g fun c=>match c with
   | .tt=>match want with
    | true=>AF P F S (fun x S'=>Al o.G9 x fun x=>BC P K rest (AK F o.dst x) S') o.op
    | false=>BC P K rest (AK F o.dst (.DG [])) S
   | .ff=>match want with
    | false=>AF P F S (fun x S'=>Al o.G9 x fun x=>BC P K rest (AK F o.dst x) S') o.op
    | true=>BC P K rest (AK F o.dst (.DG [])) S
   | .DG _=>BC P K rest (AK F o.dst (.DG [])) S
   | _=>False
def Dw.quiet:Dw->Bool
 | .C8 _ | .pick _ _ _ | .build _ _ | .load _ _ _ | .E5 _ | .bin _ _ _ _ | .N1 _ | .not _ | .neg _ | .conv _ _ | .slice _ _ _ _ | .DJ _ _ | .field _ _ _ _
 | .D_ _ _ _ _ | .index _ _ _ _ _ | .len _ _ | .min _ | .max _ | .GV _ _ _ | .extract _ _ | .ext _ _ | .call _ _ | .Fo _ _ | .qW _ | .again _ _ _ _ | .VJ _ _ | .slice3 _ _ _ _ | .Ke _ _ _ _ _ | .PD _ _=>true
 | .A7 ro _ _ _ _=>ro
 | _=>false
def C2 (P:Program) (F:Frame) (S:AB) (K:AA->AB->Prop):Dw->Prop
 | .call f args=>M4 F args fun xs=> ∃r0,AU P f xs S (fun r S'=>r=r0/\S'=S)/\K r0 S
 | .Fo x args=>F9 F x fun x=>match x with
  | .fn (.func f) [] cap=>True/\M4 F args fun xs=> ∃r0,AU P f (xs++cap) S (fun r S'=>r=r0/\S'=S)/\K r0 S
  | _=>False
 | so=>AF P F S K so
def Ah (P:Program) (K:Frame->AB->Prop):Nat->List Cs->Frame->AB->Prop
 | 0,l,F,S=>BC P K l F S
 | _+1,[],F,S=>K F S
 | m+1,o::rest,F,S=>
  match o.guard with
  | none=>C2 P F S (fun x S'=>Al o.G9 x fun x=>Ah P K m rest (AK F o.dst x) S') o.op
  | some (g,want)=>Uk F g fun c=>match c with
   | .tt=>match want with
    | true=>C2 P F S (fun x S'=>Al o.G9 x fun x=>Ah P K m rest (AK F o.dst x) S') o.op
    | false=>Ah P K m rest (AK F o.dst (.DG [])) S
   | .ff=>match want with
    | false=>C2 P F S (fun x S'=>Al o.G9 x fun x=>Ah P K m rest (AK F o.dst x) S') o.op
    | true=>Ah P K m rest (AK F o.dst (.DG [])) S
   | .DG _=>Ah P K m rest (AK F o.dst (.DG [])) S
   | _=>False
def kP (P:Program) (f:FuncId):Option d_:=
 match P.funcs[f]? with
 | some fn=>(match fn.body.isNone && (Extern.findNext fn).isNone with
  | true=>if fn.name == "internal/bytealg.IndexByteString" then some .nw else if fn.name == "internal/bytealg.CountString" then some .u0 else none
  | false=>none)
 | none=>none
inductive BU where
 | normal
 | exit (id:Nat)
 | ret
 deriving DecidableEq
inductive Ak where
 | skip
 | ops (l:List Cs) (draw:Option (Nat×Nat×List Nat)) (AW:List Nat)
 | seq (a b:Ak)
 | join (AW W:List Nat) (n:Nat) (a b:Ak)
 | cond (x:AL) (a b:Ak)
 | block (id:Nat) (a:Ak)
 | loop (AW W:List Nat) (n:Nat) (a:Ak)
 | exit (id:Nat)
 | ret
 deriving Inhabited
def J0 (AW:List Nat) (F:Frame) (K:Frame->Prop):Prop:=
 match AW with
 | []=>K []
 | t::AW=>Uk F t fun x=>J0 AW F fun F'=>K ((t,x)::F')
def jt:(n:Nat)->(List AA->Prop)->Prop
 | 0,f=>f []
 | n+1,f=> ∀x,jt n fun l=>f (x::l)
def Sj (W:List Nat) (F:Frame) (K:List AA->Prop):Prop:=
 match W with | []=>K [] | t::W=>Uk F t fun x=>Sj W F fun xs=>K (x::xs)
def Ei:List Nat->List AA->Frame->Frame
 | t::W,x::xs,F=>(t,x)::Ei W xs F
 | _,_,F=>F
def BU.Dj (N:Frame->AB->Prop) (Q:BU->Frame->AB->Prop):BU->Frame->AB->Prop
 | .normal,F,S=>N F S
 | e,F,S=>Q e F S
def BU.Gz (id:Nat) (Q:BU->Frame->AB->Prop):BU->Frame->AB->Prop
 | .exit id',F,S=>match Nat.beq id' id with | true=>Q .normal F S | false=>Q (.exit id') F S
 | e,F,S=>Q e F S
def vc (P:Program):Ak->(BU->Frame->AB->Prop)->Frame->AB->Prop
 | .skip,Q,F,S=>Q .normal F S
 | .ops l none AW,Q,F,S=>BC P (fun F' S'=>J0 AW F' fun F''=>Q .normal F'' S') l F S
 | .ops l (some d) AW,Q,F,S=>Ah P (fun F' S'=>J0 AW F' fun F''=>Q .normal F'' S') d.1 l F (S++List.replicate d.2.1 .dead)
 | .seq a b,Q,F,S=>vc P a (BU.Dj (vc P b Q) Q) F S
 | .join AW W n a b,Q,F,S=> ∀K:List AA->AB->Prop,
   (J0 AW F fun F0=>jt W.length fun xs=> ∀os,vc P b Q (Ei W xs F0) os->K xs os)->
   vc P a (BU.Dj (fun F' S'=>Sj W F' fun xs=>K xs S') Q) F S
 | .cond x a b,Q,F,S=>F9 F x fun c=>match c with
  | .tt=>vc P a Q F S
  | .ff=>vc P b Q F S
  | .bool c=>(c=true->vc P a Q F S)/\(c=false->vc P b Q F S)
  | _=>False
 | .block id a,Q,F,S=>vc P a (BU.Gz id Q) F S
 | .loop AW W n a,Q,F,S=> ∃I:Nat->List AA->AB->Prop,
   (Sj W F fun xs=> ∃k,I k xs S)/\
   J0 AW F fun F0=>jt W.length fun xs=> ∀k os,I k xs os->
    vc P a (BU.Dj (fun F' S'=>Sj W F' fun ys=> ∃k',k'<k/\I k' ys S') Q) (Ei W xs F0) os
 | .exit id,Q,F,S=>Q (.exit id) F S
 | .ret,Q,F,S=>Q .ret F S
inductive Kk where
 | tmp (t:Nat)
 | cell (t n:Nat) (ag:Bool)
 deriving Inhabited
def I5 (F:Frame) (S:AB) (K:List AA->Prop):List Kk->Prop
 | []=>K []
 | .tmp t::rs=>Uk F t fun x=>I5 F S (fun xs=>K (x::xs)) rs
 | .cell t n ag::rs=>Uk F t fun p=>ID S n ag p fun x=>I5 F S (fun xs=>K (x::xs)) rs
def R9 (xs:List AA) (K:AA->Prop):Prop:=match xs with | [x]=>K x | xs=>K (.DG xs)
def TY:Nat->List AA->Frame
 | _,[]=>[]
 | i,x::xs=>(i,x)::TY (i+1) xs
def jg (P:Program) (c:Ak) (res:List Kk) (args:List AA) (S:AB) (R:AA->AB->Prop):Prop:=
 vc P c (fun e F' S'=>match e with
  | .normal=>I5 F' S' (fun xs=>R9 xs fun r=>R r S') res
  | .ret=>I5 F' S' (fun xs=>R9 xs fun r=>R r S') res
  | _=>False) (TY 0 args) S
end Go.Vc
end
section
namespace Go.Vc
def mn:Value->Option AA
 | .bool b=>some (.bool b)
 | .int k n=>some (.int k n)
 | .string s=>some (.str s.data.toList)
 | .pointer none=>some .Bp
 | .slice none 0 0=>some .AM
 | .map none=>some .H9
 | .nilFunc=>some .H8
 | .nilIface=>some .MN
 | _=>none
def YF:List Value->Option (List AA)
 | []=>some []
 | v::vs=>match mn v,YF vs with | some x,some xs=>some (x::xs) | _,_=>none
def jr:Value->Option AA
 | .agg cs=>match YF cs.toList with | some xs=>some (.agg xs) | none=>none
 | v=>mn v
def Ac:Operand->Option AL
 | .tmp t=>some (.t t)
 | .const v=>match jr v with | some x=>some (.c x) | none=>none
 | .func f=>some (.c (.fn (.func f) [] []))
 | .global _=>none
def FY:List Operand->Option (List AL)
 | []=>some []
 | x::xs=>match Ac x,FY xs with | some y,some ys=>some (y::ys) | _,_=>none
section
variable {E : Env} {fz : Nat -> Prop} {w : World}
theorem Zw {v:Value} {x:AA} (h:mn v=some x):Rel E fz w x v/\v.oneCell'=true:=by
 unfold mn at h;split at h<;>cases h<;>simp [Rel,Value.oneCell']
theorem Jm: ∀ {vs:List Value} {xs:List AA},YF vs=some xs->AZ E fz w xs vs/\ ∀c∈vs,c.oneCell'=true
 | [],_,h=>by simp [YF] at h;subst h;simp [AZ]
 | v::vs,_,h=>by
  simp only [YF] at h;split at h
  ·rename_i x xs h1 h2;cases h;have:=Jm h2;have h3:=Zw (E:=E) (fz:=fz) (w:=w) h1;refine ⟨by simp only [AZ];exact ⟨v,vs,rfl,h3.1,this.1⟩,fun c hc=>?_⟩;rcases List.mem_cons.1 hc with rfl | hc
   ·exact h3.2
   ·exact this.2 c hc
  ·cases h
theorem P8 {v:Value} {x:AA} (h:jr v=some x):Rel E fz w x v:=by
 unfold jr at h;split at h
 ·rename_i cs;split at h
  ·rename_i xs hx;cases h;have:=Jm (E:=E) (fz:=fz) (w:=w) hx;simp only [Rel];exact ⟨cs.toList,by simp,this.1,this.2⟩
  ·cases h
 ·exact (Zw h).1
end
theorem Bc {n:Nat} {K:AA->Prop}: ∀ {F:Frame},Uk F n K↔K (F.get n)
 | []=>by simp [Uk,Frame.get]
 | (k,x)::F=>by
  simp only [Uk,Frame.get];cases Nat.beq k n
  ·exact Bc
  ·exact Iff.rfl
theorem AD {F:Frame} {x:AL} {K:AA->Prop}:F9 F x K↔K (rd F x):=by
 cases x with
 | t n=>exact Bc
 | c x=>exact Iff.rfl
theorem Ap {F:Frame} {xs:List AL} {K:List AA->Prop}:M4 F xs K↔K (xs.map (rd F)):=by
 induction xs generalizing K with
 | nil=>exact Iff.rfl
 | cons x xs ih=>simp only [M4,AD,ih,List.map_cons]
theorem CT {n:Nat} {cs:List AA} {K:List AA->Prop}:QL n cs K↔K (cs.drop n):=by
 induction n generalizing cs with
 | zero=>simp [QL]
 | succ n ih=>cases cs with
  | nil=>simp [QL]
  | cons c cs=>simp [QL,ih]
theorem DW {n:Nat} {cs:List AA} {K:List AA->Prop}:RI n cs K↔ ∃xs,takeN n cs=some xs/\K xs:=by
 induction n generalizing cs K with
 | zero=>simp [RI,takeN]
 | succ n ih=>cases cs with
  | nil=>simp [RI,takeN]
  | cons c cs=>
   simp only [RI,takeN,ih];cases takeN n cs<;>simp
theorem Lr {n:Nat} {cs xs:List AA} (h:takeN n cs=some xs):xs=cs.take n/\n<=cs.length:=by
 induction n generalizing cs xs with
 | zero=>simp [takeN] at h;simp [<-h]
 | succ n ih=>cases cs with
  | nil=>simp [takeN] at h
  | cons c cs=>
   simp only [takeN] at h;split at h
   ·rename_i ys hy;cases h;have:=ih hy;simp [this.1,this.2]
   ·cases h
theorem lS {cs ys:List AA} {K:List AA->Prop}:Xg cs ys K↔K (over cs ys):=by
 induction cs generalizing ys K with
 | nil=>simp [Xg,over]
 | cons c cs ih=>cases ys with
  | nil=>simp [Xg,over]
  | cons y ys=>simp [Xg,over,ih]
theorem FV {cs:List AA} {n:Nat} {ys:List AA} {K:List AA->Prop}:IQ cs n ys K↔K (setCells cs n ys):=by
 induction n generalizing cs K with
 | zero=>cases cs<;>simp [IQ,setCells,lS]
 | succ n ih=>cases cs with
  | nil=>simp [IQ,setCells]
  | cons c cs=>simp [IQ,setCells,ih]
theorem FA {k:Nat} {cs:List AA} {n:Nat} {ys:List AA} {K:List AA->Prop}:OW k cs n ys K↔K (setCells cs n ys):=by
 cases k<;>simp [OW,FV]
theorem V1 {S:AB} {l:Nat} {K:Ob->Prop}:df S l K↔ ∃o,S[l]?=some o/\K o:=by
 induction S generalizing l with
 | nil=>simp [df]
 | cons a S ih=>cases l with
  | zero=>simp [df]
  | succ l=>simp [df,ih]
theorem CQ {S:AB} {l:Nat} {o:Ob} {K:AB->Prop}:LB S l o K↔l<S.length/\K (S.set l o):=by
 induction S generalizing l K with
 | nil=>simp [LB]
 | cons a S ih=>cases l with
  | zero=>simp [LB]
  | succ l=>simp [LB,ih]
theorem Av {S:AB} {o:Ob} {K:Nat->AB->Prop}:Hz S o K↔K S.length (S++[o]):=by
 induction S generalizing K with
 | nil=>simp [Hz]
 | cons a S ih=>simp [Hz,ih]
theorem AN {S:AB} {l v:Nat} {K:Nat->List AA->Prop}:JK S l v K↔ ∃k cs,S[l]?=some (.row v k cs)/\K k cs:=by
 simp only [JK,V1];constructor
 ·rintro ⟨o,h1,h2⟩;cases o with
  | row v' k cs=>obtain ⟨rfl,h⟩:=h2;exact ⟨k,cs,h1,h⟩
  | dead=>exact h2.elim
  | Cw v es=>exact h2.elim
  | GP b L F=>exact h2.elim
  | Ep v mv since last seen=>exact h2.elim
 ·rintro ⟨k,cs,h1,h2⟩;exact ⟨_,h1,rfl,h2⟩
theorem Co {S:AB} {l v:Nat} {K:List (AA×AA)->Prop}:dh S l v K↔ ∃es,S[l]?=some (.Cw v es)/\K es:=by
 simp only [dh,V1];constructor
 ·rintro ⟨o,h1,h2⟩;cases o with
  | Cw v' es=>obtain ⟨rfl,h⟩:=h2;exact ⟨es,h1,h⟩
  | dead=>exact h2.elim
  | row v k cs=>exact h2.elim
  | GP b L F=>exact h2.elim
  | Ep v mv since last seen=>exact h2.elim
 ·rintro ⟨es,h1,h2⟩;exact ⟨_,h1,rfl,h2⟩
theorem IY {S:AB} {l v:Nat} {K:Nat->Nat->Nat->List Nat->Prop}:dg S l v K↔ ∃mv since last seen,S[l]?=some (.Ep v mv since last seen)/\K mv since last seen:=by
 simp only [dg,V1];constructor
 ·rintro ⟨o,h1,h2⟩;cases o with
  | Ep v' mv since last seen=>obtain ⟨rfl,h⟩:=h2;exact ⟨mv,since,last,seen,h1,h⟩
  | dead=>exact h2.elim
  | row v k cs=>exact h2.elim
  | GP b L F=>exact h2.elim
  | Cw v es=>exact h2.elim
 ·rintro ⟨mv,since,last,seen,h1,h2⟩;exact ⟨_,h1,rfl,h2⟩
theorem Ho {ag:Bool} {xs:List AA} {K:AA->Prop}:K5 ag xs K↔(ag=true/\K (.agg xs))\/(ag=false/\ ∃x,xs=[x]/\K x):=by
 cases ag
 ·match xs with
  | []=>simp [K5]
  | [x]=>simp [K5]
  | x::y::zs=>simp [K5]
 ·simp [K5]
def B3 (E:Env) (fz:Nat->Prop) (w:World) (F:Frame) (tmps:Array Value):Prop:= ∀n,Rel E fz w (F.get n) (tmps.getD n undef)
def B_ (K:AA->AB->Prop) (E:Env) (fz:Nat->Prop) (S:AB) (w:World) (v:Value) (w':World):Prop:=
 ∃x S' E' fz',K x S'/\Ext E fz S w E' fz' S' w'/\St E' fz' S' w'/\Rel E' fz' w' x v
def wf (rr:Option Nat):Fence:={Fence.wide with round:=rr}
theorem qG {rr:Option Nat} {n:Nat} {P:Program} {f:FuncId} {args:Array Value} {w:World} {R:Ending->World->Prop} (h:Calls P f args w R):CallsIn (wf rr) n P f args w R:=callsIn_wide.2 h
def Aj (P:Program) (r:Result Next) (Φ:Value->World->Prop):Prop:=
 match r with
 | .ok (.value v) w'=>Φ v w'
 | .ok .skip w'=>Φ undef w'
 | .ok (.enter f args) w'=>Calls P f args w' fun e w''=> ∃v,e= .returned v/\Φ v w''
 | .ok (.round l f tmps assign body) w'=>RoundIn Fence.wide 0 P l f tmps assign body w' fun e w''=> ∃v,e= .returned v/\Φ v w''
 | _=>False
theorem qH {rr:Option Nat} {P:Program} {l:Nat} {f:FuncId} {tmps:Array Value} {assign body:Code} {w:World} {R:Ending->World->Prop} (h:RoundIn Fence.wide 0 P l f tmps assign body w R):RoundIn (wf rr) 0 P l f tmps assign body w R:=h
theorem V8 {rr:Option Nat} {P:Program} {o:Oper} {a:Act} {w:World} {next:Act->World->Prop} {Q:Exit->Act->World->Prop} {Φ:Value->World->Prop} (hd: ∀c,o.op≠ .defer c)
  (h:Aj P ((execOp a.eval o).run P w) Φ) (hn: ∀v w',Φ v w'->next (a.put o.dst v) w'):o.wpIn (wf rr) 0 P a w next Q:=by
 refine ⟨fun _ _=>trivial,?_⟩;rw [Oper.semAt_eq _ _ _ hd];generalize (execOp a.eval o).run P w=r at*;cases r with
 | halt x w'=>exact h.elim
 | ok n w'=>
  cases n<;>simp only [Aj] at h
  case value v=>rw [Oper.uponIn_value];exact hn _ _ h
  case skip=>rw [Oper.uponIn_skip];exact hn _ _ h
  case enter f args=>
   rw [Oper.uponIn_enter];exact ⟨fun q=>(by cases q),qG (h.mono fun e w'' ⟨v,he,hv⟩=>by subst he;exact hn _ _ hv)⟩
  case round l f tmps assign body=>
   rw [Oper.uponIn_round];refine ⟨fun q=>(by cases q),qH (RoundIn.mono h fun e w'' ⟨v,he,hv⟩=>by subst he;exact hn _ _ hv)⟩
theorem B_.same {K:AA->AB->Prop} {E:Env} {fz:Nat->Prop} {S:AB} {w:World} {x:AA} {v:Value} (st:St E fz S w) (hk:K x S) (hr:Rel E fz w x v):B_ K E fz S w v w:=
 ⟨x,S,E,fz,hk,.refl,st,hr⟩
section
variable {E : Env} {fz : Nat -> Prop} {w : World} {F : Frame} {a : Act}
theorem Ab (hF:B3 E fz w F a.tmps) {x:Operand} {r:AL} (h:Ac x=some r):Rel E fz w (rd F r) (a.eval x):=by
 cases x with
 | tmp t=>simp [Ac] at h;subst h;exact hF t
 | const v=>
  simp only [Ac] at h;split at h
  ·rename_i y hy;cases h;exact P8 hy
  ·cases h
 | func f=>simp [Ac] at h;subst h;simp only [rd,Rel,Act.eval];exact ⟨[],[],rfl,by simp [AZ],by simp [AZ]⟩
 | global g=>simp [Ac] at h
theorem Eu (hF:B3 E fz w F a.tmps): ∀ {xs:List Operand} {rs:List AL},FY xs=some rs->AZ E fz w (rs.map (rd F)) (xs.map a.eval)
 | [],_,h=>by simp [FY] at h;subst h;simp [AZ]
 | x::xs,_,h=>by
  simp only [FY] at h;split at h
  ·rename_i y ys h1 h2;cases h;simp only [List.map_cons,AZ];exact ⟨_,_,rfl,Ab hF h1,Eu hF h2⟩
  ·cases h
end
end Go.Vc
end
section
namespace Go.Vc
theorem Hc (b o n:Nat):(⟨b,o,none⟩:Addr).add n=⟨b,o+n,none⟩:=Addr.add_lit b o n
theorem CL {w:World} {b o:Nat} {arr:Array Value} {T:TypeId} {fr:Nat×Nat} (h:w.heap[b]?=some (.cells arr T fr)):w.cell? ⟨b,o,none⟩=arr[o]?:=by
 simp [World.cell?,h]
theorem GF {w:World} {b o:Nat} {arr:Array Value} {T:TypeId} {lo hi:Nat} (h:w.heap[b]?=some (.cells arr T (lo,hi))):
  w.frozen? ⟨b,o,none⟩=(lo<=o && o<hi):=by
 simp [World.frozen?,h]
theorem Tb {w:World} {b o:Nat} {v:Value} {arr:Array Value} {T:TypeId} {fr:Nat×Nat} (h:w.heap[b]?=some (.cells arr T fr)):
  (w.setCell ⟨b,o,none⟩ v).heap[b]?=some (.cells (arr.setIfInBounds o v) T fr):=by
 simp [World.setCell,Array.getElem?_modify,h]
theorem Tc {w:World} {b o b':Nat} {v:Value} (h:b'≠b):(w.setCell ⟨b,o,none⟩ v).heap[b']?=w.heap[b']?:=by
 simp [World.setCell,Array.getElem?_modify,Ne.symm h]
theorem Ht {P:Program} {b st:Nat} {T:TypeId} {lo hi:Nat}: ∀(vs:List Value) (i:Nat) (w:World) (arr:Array Value),
  w.heap[b]?=some (.cells arr T (lo,hi))->st+i+vs.length<=arr.size->(∀j,j<vs.length-> ¬(lo<=st+i+j/\st+i+j<hi))->(∀c∈vs,c.oneCell'=true)->
  ∃w' arr',(storeCells ⟨b,st,none⟩ vs i).run P w= .ok () w'/\w'.heap[b]?=some (.cells arr' T (lo,hi))/\arr'.size=arr.size/\
   (∀j,arr'[j]?=if st+i<=j/\j<st+i+vs.length then vs[j-(st+i)]? else arr[j]?)/\(∀b':Nat,b'≠b->w'.heap[b']?=w.heap[b']?)/\
   w'.heap.size=w.heap.size/\w'.os=w.os/\w'.output=w.output/\Tp w w'
 | [],i,w,arr,h,_,_,_=>by
  refine ⟨w,arr,by simp [storeCells],h,rfl,fun j=>?_,fun _ _=>rfl,rfl,rfl,rfl,Tp.refl⟩;rw [if_neg (by simp only [List.length_nil];omega)]
 | v::vs,i,w,arr,h,hl,hf,h1=>by
  have hv:=h1 v (by simp);have hf0:=hf 0 (by simp);simp only [List.length_cons] at hl;have hc:w.cell? ⟨b,st+i,none⟩=some (arr[st+i]'(by omega)):=by rw [CL h,Array.getElem?_eq_getElem]
  have hfr:w.frozen? ⟨b,st+i,none⟩=false:=by
   rw [GF h];have:=hf0;simp only [Nat.add_zero] at this;by_cases g:lo<=st+i
   ·have g2: ¬st+i<hi:=fun g2=>this ⟨g,g2⟩;simp [g2]
   ·simp [g]
  obtain ⟨w',arr',g1,g2,g3,g4,g5,g6,g7,g8,g9⟩:=Ht (P:=P) (b:=b) (st:=st) vs (i+1) (w.setCell ⟨b,st+i,none⟩ v) (arr.setIfInBounds (st+i) v)
   (Tb h) (by simp;omega) (fun j hj=>by have:=hf (j+1) (by simp;omega);rwa [show st+i+(j+1)=st+(i+1)+j by omega] at this) (fun c hc=>h1 c (by simp [hc]))
  refine ⟨w',arr',?_,g2,by simpa using g3,fun j=>?_,fun b' hb'=>by rw [g5 b' hb',Tc hb'],by simpa using g6,g7,g8,g9⟩
  ·simp only [storeCells,Sem.run_bind,Hc,run_store P w _ v _ hv,hc,hfr,Bool.false_eq_true,if_false,Result.andThen_ok];exact g1
  ·rw [g4];simp only [List.length_cons,Array.getElem?_setIfInBounds];by_cases e:j=st+i
   ·subst e;rw [if_neg (by omega),if_pos rfl,if_pos (by omega),if_pos (by omega)];simp
   ·by_cases e2:st+i<=j/\j<st+i+(vs.length+1)
    ·rw [if_pos (by omega),if_pos e2,show j-(st+i)=(j-(st+(i+1)))+1 by omega];simp
    ·rw [if_neg (by omega),if_neg (fun h=>e h.symm),if_neg e2]
section
variable {P : Program} {E : Env} {fz : Nat -> Prop} {S : AB} {w : World}
theorem Nn {b off:Nat} {cs:List AA} (h:CR E fz w b off cs): ∃vs:List Value,AZ E fz w cs vs/\(∀c∈vs,c.oneCell'=true)/\
  (loadCells ⟨b,off,none⟩ cs.length).run P w= .ok vs.toArray w/\(∀(j:Nat) v,vs[j]?=some v->w.cell? ⟨b,off+j,none⟩=some v):=by
 obtain ⟨vs,h1,h2,h3⟩:=h.read;refine ⟨vs,h1,h2,?_,h3⟩;have:=run_loadCells_list (P:=P) w ⟨b,off,none⟩ vs (fun j v hv=>by rw [Hc];exact h3 j v hv);rwa [h1.length] at this
theorem cE (lo hi:Nat) (st:St E fz S w) {cs:List AA} {vs rest:List Value} {T:TypeId} (k:Nat) (hr:AZ E fz w cs vs) (h1: ∀c∈vs,c.oneCell'=true)
  {w':World} (hm:lo=hi\/(k=1/\(vs++rest).length<=lo)) (hw:w'.heap=w.heap.push (.cells (vs++rest).toArray T (lo,hi))) (g1:w'.os=w.os) (g2:w'.output=w.output) (g3:Tp w w'):
  ∃ver E',E' ver=some (.real w.heap.size 0 (vs++rest).length k)/\St E' fz (S++[.row ver k cs]) w'/\Ext E fz S w E' fz (S++[.row ver k cs]) w':=by
 obtain ⟨n,hn⟩:=st.fresh;have hE: ∀v x,E v=some x->(fun v=>if v=n then some (Bk.real w.heap.size 0 (vs++rest).length k) else E v) v=some x:=fun v x hx=>by
  have:v≠n:=fun e=>by subst e;rw [hn v (Nat.le_refl _)] at hx;cases hx
  simp [this,hx]
 have hlt: ∀b:Nat,b<w.heap.size->w'.heap[b]?=w.heap[b]?:=fun b hb=>by
  rw [hw,Array.getElem?_push,if_neg (by omega)]
 have hnew:w'.heap[w.heap.size]?=some (.cells (vs++rest).toArray T (lo,hi)):=by rw [hw];simp
 refine ⟨n,fun v=>if v=n then some (.real w.heap.size 0 (vs++rest).length k) else E v,by simp,
  st.dv S.length (.row n k cs) hE ⟨n+1,fun v hv=>by simp [hn v (by omega),show v≠n by omega]⟩ (fun l' hl'=>?_) (by simp) (by rw [hw];simp) (fun b hb _=>hlt b hb) (fun b hb=>.inr ?_) ?_ g1 g2 g3⟩
 ·rw [List.getElem?_append];split
  ·rfl
  ·rename_i hh;rw [List.getElem?_eq_none (by simp;omega),List.getElem?_eq_none (by omega)]
 ·simp [AR] at hb;omega
 ·refine .inr ⟨w.heap.size,0,(vs++rest).length,(vs++rest).toArray,T,lo,hi,by simp,hnew,by simp,?_,by simpa using hm,?_,fun hf=>?_⟩
  ·have:=hr.length;simp;omega
  ·refine CR.mk fun i x hx=>?_;obtain ⟨v,hv,hrel⟩:=hr.get hx;have hil:i<vs.length:=by
    rcases Nat.lt_or_ge i vs.length with h | h
    ·exact h
    ·simp [List.getElem?_eq_none h] at hv
   refine ⟨v,?_,h1 v (List.mem_of_getElem? hv),hrel.mono hE (fun _ h=>h) (fun b hb=>hlt b (st.Fx b hb))⟩;rw [CL hnew];simp [List.getElem?_append_left hil,hv]
  ·have:=st.Fx _ hf;omega
theorem Kf (st:St E fz S w) {cs:List AA} {vs rest:List Value} {T:TypeId} (k:Nat) (hr:AZ E fz w cs vs) (h1: ∀c∈vs,c.oneCell'=true)
  {w':World} (hw:w'.heap=w.heap.push (.cells (vs++rest).toArray T (0,0))) (g1:w'.os=w.os) (g2:w'.output=w.output) (g3:Tp w w'):
  ∃ver E',E' ver=some (.real w.heap.size 0 (vs++rest).length k)/\St E' fz (S++[.row ver k cs]) w'/\Ext E fz S w E' fz (S++[.row ver k cs]) w':=
 cE 0 0 st k hr h1 (.inl rfl) hw g1 g2 g3
theorem ZE (st:St E fz S w) (k:Nat): ∃ver E',E' ver=some .nil/\St E' fz (S++[.row ver k []]) w/\Ext E fz S w E' fz (S++[.row ver k []]) w:=by
 obtain ⟨n,hn⟩:=st.fresh;have hE: ∀v x,E v=some x->(fun v=>if v=n then some Bk.nil else E v) v=some x:=fun v x hx=>by
  have:v≠n:=fun e=>by subst e;rw [hn v (Nat.le_refl _)] at hx;cases hx
  simp [this,hx]
 refine ⟨n,fun v=>if v=n then some .nil else E v,by simp,
  st.dv S.length (.row n k []) hE ⟨n+1,fun v hv=>by simp [hn v (by omega),show v≠n by omega]⟩ (fun l' hl'=>?_) (by simp) (Nat.le_refl _) (fun _ _ _=>rfl) (fun b hb=>?_) ?_ rfl rfl Tp.refl⟩
 ·rw [List.getElem?_append];split
  ·rfl
  ·rename_i hh;rw [List.getElem?_eq_none (by simp;omega),List.getElem?_eq_none (by omega)]
 ·simp [AR] at hb
 ·exact .inl ⟨by simp,rfl⟩
theorem cK: ∀(cs ys:List AA) (i:Nat),ys.length<=cs.length->(over cs ys)[i]?=if i<ys.length then ys[i]? else cs[i]?
 | [],[],i,_=>by simp [over]
 | [],y::ys,i,h=>by simp at h
 | c::cs,[],i,_=>by simp [over]
 | c::cs,y::ys,i,h=>by
  cases i with
  | zero=>simp [over]
  | succ i=>
   have:=cK cs ys i (by simpa using h);simp only [over,List.getElem?_cons_succ,List.length_cons,this];simp
theorem S9: ∀(cs ys:List AA),(over cs ys).length=cs.length
 | [],ys=>by simp [over]
 | c::cs,[]=>by simp [over]
 | c::cs,y::ys=>by simp [over,S9 cs ys]
theorem MY: ∀(cs:List AA) (n:Nat) (ys:List AA) (i:Nat),n+ys.length<=cs.length->(setCells cs n ys)[i]?=if n<=i/\i<n+ys.length then ys[i-n]? else cs[i]?
 | cs,0,ys,i,h=>by
  have e:setCells cs 0 ys=over cs ys:=by cases cs<;>rfl
  rw [e,cK cs ys i (by omega)];simp
 | [],n+1,ys,i,h=>by simp at h
 | c::cs,n+1,ys,i,h=>by
  cases i with
  | zero=>simp [setCells]
  | succ i=>
   have:=MY cs n ys i (by simp at h;omega);simp only [setCells,List.getElem?_cons_succ,this];rw [show i+1-(n+1)=i-n by omega];by_cases hh:n<=i/\i<n+ys.length
   ·rw [if_pos hh,if_pos (by omega)]
   ·rw [if_neg hh,if_neg (by omega)]
theorem G0: ∀(cs:List AA) (n:Nat) (ys:List AA),(setCells cs n ys).length=cs.length
 | cs,0,ys=>by
  have e:setCells cs 0 ys=over cs ys:=by cases cs<;>rfl
  rw [e,S9]
 | [],n+1,ys=>by simp [setCells]
 | c::cs,n+1,ys=>by simp [setCells,G0 cs n ys]
theorem Xl (st:St E fz S w) {l ver k off:Nat} {cs ys:List AA} {us:List Value} (hl:S[l]?=some (.row ver k cs)) (hfit:off+ys.length<=cs.length) (hne:ys≠[])
  (hr:AZ E fz w ys us) (h1: ∀c∈us,c.oneCell'=true) {b base cap kk:Nat} (hE:E ver=some (.real b base cap kk)):
  ∃w',(storeCells ⟨b,base+off,none⟩ us 0).run P w= .ok () w'/\St E fz (S.set l (.row ver k (setCells cs off ys))) w'/\Ext E fz S w E fz (S.set l (.row ver k (setCells cs off ys))) w':=by
 have hlt:l<S.length:=by
  rcases Nat.lt_or_ge l S.length with h | h
  ·exact h
  ·simp [List.getElem?_eq_none h] at hl
 have hlen:=hr.length;have hpos:0<ys.length:=List.length_pos_iff.2 hne;rcases st.ok l _ hl with ⟨g1,g2⟩ | ⟨b',base',cap',arr,T,lo,hi,g1,g2,g3,g4,g5,g6,g7⟩
 ·subst g2;simp only [List.length_nil] at hfit;omega
 ·rw [hE] at g1;cases g1;obtain ⟨w',arr',q1,q2,q3,q4,q5,q6,q7,q8,q9⟩:=Ht (P:=P) (b:=b) (st:=base+off) us 0 w arr g2 (by omega)
   (fun j hj h=>by rcases g5 with g5 | g5<;>omega) h1
  refine ⟨w',q1,st.dv l (.row ver k (setCells cs off ys)) (fun _ _ h=>h) st.fresh (fun l' hl'=>by rw [List.getElem?_set_ne (Ne.symm hl')]) (by rw [List.getElem?_set_self hlt]) (by omega) (fun bb _ hno=>q5 bb fun e=>hno ?_) (fun bb hb=>.inl ?_) ?_ q7 q8 q9⟩
  ·subst e;exact ⟨_,hl,by simp [AR,hE]⟩
  ·simp [AR,hE] at hb;subst hb;exact ⟨_,hl,by simp [AR,hE]⟩
  ·refine .inr ⟨b,base,cap,arr',T,lo,hi,hE,q2,by omega,by rw [G0];omega,by rw [q3];exact g5,?_,g7⟩;have hk: ∀bb,fz bb->w'.heap[bb]?=w.heap[bb]?:=fun bb hb=>q5 bb fun e=>g7 (e▸hb);refine CR.mk fun i x hx=>?_;rw [MY cs off ys i hfit] at hx;rw [CL q2,q4];split at hx
   ·rename_i hh;obtain ⟨v,hv,hrel⟩:=hr.get hx;rw [if_pos (by omega),show base+i-(base+off+0)=i-off by omega];exact ⟨v,hv,h1 v (List.mem_of_getElem? hv),hrel.mono (fun _ _ h=>h) (fun _ h=>h) hk⟩
   ·rename_i hh;rw [if_neg (by omega)];obtain ⟨c,hc,hone,hrel⟩:=g6.get hx;rw [CL g2] at hc;exact ⟨c,hc,hone,hrel.mono (fun _ _ h=>h) (fun _ h=>h) hk⟩
end
end Go.Vc
end
section
namespace Go.Vc
def B2 (P:Program) (t:TypeId):Option Nat:=match P.info? t with | some i=>some i.size | none=>none
def SL (P:Program) (t:TypeId):Option Nat:=match P.info? t with | some i=>some i.bytes | none=>none
def G8:TypeDesc->Bool | .struct _=>true | .array _ _=>true | _=>false
def HS (P:Program) (t:TypeId):Option (List AA):=
 match P.info? t with | some i=>(match i.zero with | some z=>YF z.cells.toList | none=>none) | none=>none
def wN (P:Program) (t:TypeId):Nat:=match P.underlying t with | some (.array _ e)=>(B2 P e).getD 0 | _=>0
def RO (x:Option Operand):Option (Option AL):=match x with | none=>some none | some x=>match Ac x with | some r=>some (some r) | none=>none
def F_ (P:Program) (fs:Array Field):List (Nat×Operand)->Option (List (Nat×Nat×AL))
 | []=>some []
 | (i,x)::rest=>
  match fs[i]?,Ac x,F_ P fs rest with
  | some f,some r,some ps=>(match B2 P f.type with | some n=>some ((f.offset,n,r)::ps) | none=>none)
  | _,_,_=>none
def HD (n:Nat):List (Nat×Operand)->Option (List (Nat×Nat×AL))
 | []=>some []
 | (i,x)::rest=>match Ac x,HD n rest with | some r,some ps=>some ((i*n,n,r)::ps) | _,_=>none
def G6 (P:Program):Nat->List Field->Option (List FK)
 | _,[]=>some []
 | off,f::fs=>if f.name != "_" && f.offset == off then (match P.underlying f.type,G6 P (off+1) fs with
  | some (.int _),some ks=>some (.int::ks)
  | some .string,some ks=>some (.str::ks)
  | some .bool,some ks=>some (.bool::ks)
  | _,_=>none) else none
def Fw (P:Program):Nat->List Field->Option (List FK)
 | _,[]=>some []
 | off,f::fs=>(match G6 P off [f] with
  | some ks1=>(match Fw P (off+ks1.length) fs with | some ks=>some (ks1++ks) | none=>none)
  | none=>if f.name != "_" && f.offset == off then (match P.underlying f.type with
   | some (.struct gs)=>(match G6 P 0 gs.toList,B2 P f.type with
    | some ks1,some n=>if n == ks1.length && !P.stoodInHeld f.type then (match Fw P (off+ks1.length) fs with | some ks=>some (ks1++ks) | none=>none) else none
    | _,_=>none)
   | _=>none) else none)
def rB (P:Program) (t:TypeId):Option jm:=
 match P.underlying t with
 | some .bool=>some .bool
 | some (.int _)=>some .none
 | some .string=>some .none
 | some (.pointer e)=>(match B2 P e with | some (_+1)=>some .ptr | _=>none)
 | some (.struct fs)=>(match Fw P 0 fs.toList with | some ks=>if !P.stoodInHeld t && !P.eqGuardType P.depth t then some (.agg ks) else none | none=>none)
 | some (.func _ _ _)=>some .func
 | some (.map _ _)=>some .map
 | _=>none
def bY (P:Program) (t:TypeId):Option M6:=match P.underlying t with | some .string=>some .str | some (.int k)=>some (.int k) | some .bool=>some .bool | _=>none
def Xa (P:Program) (t:TypeId):Option AA:=match P.info? t with | some i=>(match i.zero with | some z=>jr z | none=>none) | none=>none
def iF (P:Program) (t:TypeId) (m k x:Operand):Option Dw:=match P.underlying t,Ac m,Ac k,Ac x with
 | some (.map kt _),some rm,some rk,some rx=>(match bY P kt with | some q=>some (.ZD q rm rk rx) | none=>none)
 | _,_,_,_=>none
def uu (ro:Bool) (k:Nat):Operand->Option Dw
 | .const (.slice none 0 0)=>if ro then some (.DU k) else some (.C8 (.c .AM))
 | x=>match Ac x with | some r=>some (.C8 r) | none=>none
def sk (P:Program) (t:TypeId):Nat:=match P.underlying t with | some (.slice e)=>(B2 P e).getD 0 | _=>0
def nF (P:Program) (op:BinOp) (t:TypeId) (x y:Operand):Option Dw:=
 match P.underlying t,y,Ac x with
 | some (.slice _),.const (.slice none 0 0),some x=>(match op with | .eql=>some (.GO false x) | .neq=>some (.GO true x) | _=>none)
 | _,_,_=>none
def uv (P:Program) (op:BinOp) (t:TypeId) (x y:Operand):Option Dw:=
 match rB P t,x,y with
 | some .ptr,.tmp a,.tmp b=>(match op with | .eql=>some (.peq false (.t a) (.t b)) | .neq=>some (.peq true (.t a) (.t b)) | _=>none)
 | _,_,_=>none
def dt (P:Program) (ro:Bool) (ty:TypeId):Op->Option Dw
 | .move x=>(match Ac x with | some r=>some (.C8 r) | none=>none)
 | .assign x=>uu ro (sk P ty) x
 | .pick c a b=>(match Ac c,Ac a,Ac b with | some c,some a,some b=>some (.pick c a b) | _,_,_=>none)
 | .alloc t=>(match HS P t with | some z=>some (.alloc (wN P t) z) | none=>none)
 | .box t x=>(match Ac x with | some r=>some (.box (wN P t) r) | none=>none)
 | .build t parts=>(match HS P t,P.underlying t with
  | some z,some (.struct fs)=>if fs.toList.all (fun f=>(B2 P f.type).isSome) then (match F_ P fs parts.toList with | some ps=>some (.build z ps) | none=>none) else none
  | some z,some (.array _ e)=>(match B2 P e with
   | some n=>(match HD n parts.toList with | some ps=>some (.build z ps) | none=>none)
   | none=>none)
  | _,_=>none)
 | .buildSlice t len parts=>(match P.underlying t with
  | some (.slice e)=>(match B2 P e,HS P e with
   | some n,some z=>if len*n<=2 ^ 24/\0<n/\z.length=n then (match HD n parts.toList with | some ps=>some (.A7 ro len n (List.replicate len z).flatten ps) | none=>none) else none
   | _,_=>none)
  | _=>none)
 | .load t x=>(match P.info? t,P.underlying t,Ac x with
  | some i,some u,some r=>if G8 u then some (.load i.size true r) else some (.load 1 false r)
  | _,_,_=>none)
 | .store t x v=>(match B2 P t,Ac x,Ac v with | some n,some x,some v=>if n=0 then none else some (.store n x v) | _,_,_=>none)
 | .nilCheck x=>(match Ac x with | some r=>some (.E5 r) | none=>none)
 | .binOp op t x y u=>(match nF P op t x y with | some so=>some so | none=>match uv P op t x y with | some so=>some so | none=>(match rB P t,Ac x,Ac y with | some q,some x,some y=>some (.bin q op x y) | _,_,_=>none))
 | .unOp .not _ x=>(match Ac x with | some r=>some (.not r) | none=>none)
 | .unOp .neg _ x=>(match Ac x with | some r=>some (.neg r) | none=>none)
 | .convert s d x=>(match P.underlying s,P.underlying d,Ac x with
  | some _,some (.int k),some r=>some (.conv k r)
  | some .string,some .string,some r=>some (.N1 r)
  | some .string,some (.slice e),some r=>(match P.underlying e with | some (.int .u8)=>some (.qN r) | _=>none)
  | some (.slice e),some (.slice _),some r=>if s=d then (match P.underlying e with | some (.int .u8)=>some (.mark r) | _=>none) else none
  | some (.slice e),some .string,some r=>(match P.underlying e with | some (.int .u8)=>some (.qW r) | _=>none)
  | _,_,_=>none)
 | .makeSlice t l c=>(match P.underlying t with
  | some (.slice e)=>(match B2 P e,SL P e,HS P e,Ac l,Ac c with
   | some n,some b,some z,some l,some c=>if 0<n/\0<b/\z.length=n then some (.Gy n b z l c) else none
   | _,_,_,_,_=>none)
  | _=>none)
 | .slice t x lo hi none=>(match P.underlying t,Ac x,RO lo,RO hi with
  | some .string,some x,some lo,some hi=>some (.slice 0 x lo hi)
  | some (.slice e),some x,some lo,some hi=>(match B2 P e with | some (n+1)=>some (.slice (n+1) x lo hi) | _=>none)
  | some (.array n e),some x,some none,some none=>(match B2 P e with | some 1=>some (.L8 n x) | _=>none)
  | _,_,_,_=>none)
 | .slice t x none (some h) (some m)=>(match P.underlying t,Ac x,Ac h,Ac m with
  | some (.slice e),some x,some h,some m=>(match B2 P e with | some (n+1)=>some (.slice3 (n+1) x h m) | _=>none)
  | _,_,_,_=>none)
 | .fieldAddr s x f=>(match P.underlying s,Ac x with
  | some (.struct fs),some r=>(match fs[f]? with
   | some fd=>(match B2 P fd.type with | some (n+1)=>some (.DJ fd.offset r) | _=>none)
   | none=>none)
  | _,_=>none)
 | .field t x f=>(match P.underlying t,Ac x with
  | some (.struct fs),some r=>(match fs[f]? with
   | some fd=>(match P.underlying fd.type,B2 P fd.type with
    | some u,some n=>if G8 u then some (.field fd.offset n true r) else some (.field fd.offset 1 false r)
    | _,_=>none)
   | none=>none)
  | _,_=>none)
 | .indexAddr t x i=>(match P.underlying t,Ac x,Ac i with
  | some (.slice e),some x,some i=>(match B2 P e with | some n=>some (.D_ n none x i) | none=>none)
  | some (.array len e),some x,some i=>(match B2 P e with | some n=>some (.D_ n (some len) x i) | none=>none)
  | _,_,_=>none)
 | .index t x i=>(match P.underlying t,Ac x,Ac i with
  | some .string,some x,some i=>some (.index 1 none false x i)
  | some (.array len e),some x,some i=>(match P.underlying e,B2 P e with
   | some u,some n=>if G8 u then some (.index n (some len) true x i) else (if n=1 then some (.index 1 (some len) false x i) else none)
   | _,_=>none)
  | _,_,_=>none)
 | .makeMap t r=>(match P.underlying t with
  | some (.map _ _)=>(match r with | none=>some .Mq | some (.const (.int _ _))=>some .Mq | some _=>none)
  | _=>none)
 | .lookup t m k ok=>(match P.underlying t,Ac m,Ac k with
  | some (.map kt e),some rm,some rk=>(match bY P kt,Xa P e with | some q,some z=>some (.Ke q ok z rm rk) | _,_=>none)
  | _,_,_=>none)
 | .mapUpdate t m k x=>iF P t m k x
 | .insert t m k x=>iF P t m k x
 | .mapEntry t m k=>(match P.underlying t,Ac m,Ac k with
  | some (.map kt e),some rm,some rk=>(match bY P kt,Xa P e with | some q,some z=>some (.lC q z rm rk) | _,_=>none)
  | _,_,_=>none)
 | .range t x=>(match P.underlying t,Ac x with | some (.map _ _),some r=>some (.K6 r) | _,_=>none)
 | .next x b=>(match b,Ac x with | false,some r=>some (.S5 r) | _,_=>none)
 | .entry x=>(match Ac x with | some r=>some (.NZ r) | none=>none)
 | .entryStore _ m i x=>(match Ac m,Ac i,Ac x with | some rm,some ri,some rx=>some (.lF rm ri rx) | _,_,_=>none)
 | .makeInterface t x=>(match P.underlying t,Ac x with | some (.interface _),_=>none | some _,some r=>some (.VJ t r) | _,_=>none)
 | .makeFunc f first cap=>(match FY first.toList,FY cap.toList with | some a,some b=>some (.GV f a b) | _,_=>none)
 | .extract x i=>(match Ac x with | some r=>some (.extract r i) | none=>none)
 | .call c=>(match c.callee,FY c.args.toList with
  | .builtin .len,some [x]=>(match c.argTypes[0]?.bind P.underlying with
   | some .string=>some (.len true x)
   | some (.slice _)=>some (.len false x)
   | _=>none)
  | .builtin .append,some [s,x]=>(match c.argTypes[0]?.bind P.underlying,c.argTypes[1]?.bind P.underlying with
   | some (.slice e),some u=>(match P.info? e with
    | some i=>(match i.zero,u with
     | some z,.slice _=>if 0<i.size/\0<i.bytes/\z.cells.size=i.size then some (.append i.size i.bytes s x) else none
     | some z,.string=>if 0<i.size/\0<i.bytes/\z.cells.size=i.size then some (.append i.size i.bytes s x) else none
     | _,_=>none)
    | none=>none)
   | _,_=>none)
  | .builtin .clear,some [x]=>(match c.argTypes[0]?.bind P.underlying with
   | some (.slice e)=>(match B2 P e,HS P e with | some n,some z=>if 0<n/\z.length=n then some (.clear n z x) else none | _,_=>none)
   | _=>none)
  | .builtin .min,some xs=>some (.min xs)
  | .builtin .max,some xs=>some (.max xs)
  | .value (.func f),some xs=>if Cy P f then some (.call f xs) else (match kP P f with | some k=>some (.ext k xs) | none=>none)
  | .value x,some xs=>(match Ac x with | some r=>some (.Fo r xs) | none=>none)
  | _,_=>none)
 | _=>none
section
variable {P : Program} {E : Env} {fz : Nat -> Prop} {S : AB} {w : World} {F : Frame} {a : Act} {K : AA -> AB -> Prop} {ro : Bool}
theorem Px {x:AA} {v:Value} {K:List AA->Prop} (h:Gc x K) (hr:Rel E fz w x v): ∃cs:List AA,K cs/\AZ E fz w cs v.cells.toList/\ ∀c∈v.cells.toList,c.oneCell'=true:=by
 have one: ∀ {y:AA} {u:Value},Rel E fz w y u->u.oneCell'=true->u.cells= #[u]->K [y]-> ∃cs:List AA,K cs/\AZ E fz w cs u.cells.toList/\ ∀c∈u.cells.toList,c.oneCell'=true:=by
  intro y u h1 h2 h3 h4;refine ⟨[y],h4,?_,?_⟩
  ·rw [h3];simp only [AZ];exact ⟨u,[],rfl,h1,rfl⟩
  ·rw [h3];simpa using h2
 cases x<;>simp only [Gc] at h
 case agg cs=>
  simp only [Rel] at hr;obtain ⟨vs,rfl,h1,h2⟩:=hr;exact ⟨cs,h,by simpa [Value.cells] using h1,by simpa [Value.cells] using h2⟩
 all_goals first | exact h.elim | skip
 all_goals
  have hr':=hr;simp only [Rel] at hr'
 case tt=>subst hr';exact one hr rfl rfl h
 case ff=>subst hr';exact one hr rfl rfl h
 case bool=>subst hr';exact one hr rfl rfl h
 case int=>subst hr';exact one hr rfl rfl h
 case str=>subst hr';exact one hr rfl rfl h
 case Bp=>subst hr';exact one hr rfl rfl h
 case ptr=>obtain ⟨_,_,_,_,_,rfl⟩:=hr';exact one hr rfl rfl h
 case Fm=>obtain ⟨_,_,_,rfl,_⟩:=hr';exact one hr rfl rfl h
 case AM=>subst hr';exact one hr rfl rfl h
 case sl=>rcases hr' with ⟨_,_,rfl⟩ | ⟨_,_,_,_,_,_,_,_,rfl⟩<;>exact one hr rfl rfl h
 case Em=>rcases hr' with ⟨_,_,_,rfl⟩ | ⟨_,_,_,_,_,rfl,_⟩<;>exact one hr rfl rfl h
 case fn=>obtain ⟨_,_,rfl,_,_⟩:=hr';exact one hr rfl rfl h
 case H8=>subst hr';exact one hr rfl rfl h
 case map=>obtain ⟨_,_,rfl⟩:=hr';exact one hr rfl rfl h
 case H9=>subst hr';exact one hr rfl rfl h
 case iface=>obtain ⟨_,rfl,_⟩:=hr';exact one hr rfl rfl h
 case MN=>subst hr';exact one hr rfl rfl h
theorem nv {n:Int} (h:AH n):IntKind.i64.wrap n=n:=by
 unfold AH at h;simp only [IntKind.wrap,IntKind.bits,IntKind.signed,Bool.true_and,decide_eq_true_eq,show (2:Int) ^ 64=18446744073709551616 from rfl,show (2:Int) ^ (64-1)=9223372036854775808 from rfl];split<;>omega
theorem Mi {k:IntKind} {n:Int} {K:AA->Prop} (h:dx k n K): ∃x,K x/\Rel E fz w x (.int k (k.wrap n)):=by
 unfold dx at h;split at h
 ·exact ⟨_,h.2,by simp [Rel,nv h.1]⟩
 ·exact ⟨_,h,by simp [Rel]⟩
theorem Ai (st:St E fz S w) {o:Oper} {v:Value} {x:AA} (h:(execOp a.eval o).run P w= .ok (.value v) w) (hk:K x S) (hr:Rel E fz w x v):
  Aj P ((execOp a.eval o).run P w) (B_ K E fz S w):=by rw [h];exact B_.same st hk hr
theorem R3 (st:St E fz S w) (hF:B3 E fz w F a.tmps) {o:Oper} {x:Operand} {r:AL} (ho:o.op= .move x\/o.op= .assign x) (hx:Ac x=some r)
  (h:AF P F S K (.C8 r)):Aj P ((execOp a.eval o).run P w) (B_ K E fz S w):=by
 simp only [AF,AD] at h;refine Ai st ?_ h (Ab hF hx);rcases ho with ho | ho<;>simp [execOp,ho]
theorem gD (st:St E fz S w) (hF:B3 E fz w F a.tmps) {o:Oper} {c x y:Operand} {rc rx ry:AL} (ho:o.op= .pick c x y) (hc:Ac c=some rc) (hx:Ac x=some rx) (hy:Ac y=some ry)
  (h:AF P F S K (.pick rc rx ry)):Aj P ((execOp a.eval o).run P w) (B_ K E fz S w):=by
 have h1:=Ab hF hc;have h2:=Ab hF hx;have h3:=Ab hF hy;simp only [AF,AD] at h;generalize rd F rc=C at*;cases C<;>simp only [Rel] at h1<;>first | exact h.elim | skip
 case tt=>exact Ai st (by simp [execOp,ho,h1,asBool]) h h2
 case ff=>exact Ai st (by simp [execOp,ho,h1,asBool]) h h3
 case bool b=>
  cases b
  ·exact Ai st (by simp [execOp,ho,h1,asBool]) (h.2 rfl) h3
  ·exact Ai st (by simp [execOp,ho,h1,asBool]) (h.1 rfl) h2
theorem ZF (st:St E fz S w) (hF:B3 E fz w F a.tmps) {o:Oper} {x:Operand} {r:AL} (ho:o.op= .nilCheck x) (hx:Ac x=some r)
  (h:AF P F S K (.E5 r)):Aj P ((execOp a.eval o).run P w) (B_ K E fz S w):=by
 have h1:=Ab hF hx;simp only [AF,AD] at h;generalize rd F r=X at*;cases X<;>first | exact h.elim | skip
 case ptr l v off=>
  have h1':=h1;simp only [Rel] at h1';obtain ⟨_,_,_,_,_,e⟩:=h1';exact Ai st (by simp [execOp,ho,e]) h (e▸h1)
 case Fm cs=>
  have h1':=h1;simp only [Rel] at h1';obtain ⟨_,_,_,e,_⟩:=h1';exact Ai st (by simp [execOp,ho,e]) h (e▸h1)
 case fn f xs ys=>
  have h1':=h1;simp only [Rel] at h1';obtain ⟨vs,us,e,_,_⟩:=h1';cases f<;>first | exact h.elim | skip
  exact Ai st (by simp [execOp,ho,e]) h (e▸h1)
 case map l v=>
  have h1':=h1;simp only [Rel] at h1';obtain ⟨_,_,e⟩:=h1';exact Ai st (by simp [execOp,ho,e]) h (e▸h1)
theorem da (st:St E fz S w) (hF:B3 E fz w F a.tmps) {o:Oper} {x:Operand} {r:AL} {t:TypeId} (hx:Ac x=some r)
  (h:(o.op= .unOp .not t x/\AF P F S K (.not r))\/(o.op= .unOp .neg t x/\AF P F S K (.neg r))):Aj P ((execOp a.eval o).run P w) (B_ K E fz S w):=by
 have h1:=Ab hF hx;rcases h with ⟨ho,h⟩ | ⟨ho,h⟩<;>simp only [AF,AD] at h<;>generalize rd F r=X at*
 ·cases X<;>simp only [jh] at h<;>simp only [Rel] at h1<;>
   exact Ai st (by simp [execOp,ho,h1,Op.unary];rfl) h (by simp [Rel])
 ·cases X<;>simp only [gz] at h;simp only [Rel] at h1;obtain ⟨y,hy,hr⟩:=Mi (E:=E) (fz:=fz) (w:=w) h;exact Ai st (by simp [execOp,ho,h1,Op.unary,Op.intArith];rfl) hy (by simpa using hr)
theorem ep (st:St E fz S w) (hF:B3 E fz w F a.tmps) {o:Oper} {x:Operand} {r:AL} {s d:TypeId} {u:TypeDesc} {k:IntKind} (ho:o.op= .convert s d x) (hs:P.underlying s=some u) (hd:P.underlying d=some (.int k)) (hx:Ac x=some r)
  (h:AF P F S K (.conv k r)):Aj P ((execOp a.eval o).run P w) (B_ K E fz S w):=by
 have h1:=Ab hF hx;simp only [AF,AD] at h;generalize rd F r=X at*;cases X<;>simp only [gz] at h;simp only [Rel] at h1;obtain ⟨y,hy,hr⟩:=Mi (E:=E) (fz:=fz) (w:=w) h;exact Ai st (by simp [execOp,ho,h1,convert,run_underlying hs,run_underlying hd,Conv.intToInt]) hy hr
theorem dR (st:St E fz S w) (hF:B3 E fz w F a.tmps) {o:Oper} {x:Operand} {r:AL} {s d:TypeId} (ho:o.op= .convert s d x) (hs:P.underlying s=some .string) (hd:P.underlying d=some .string) (hx:Ac x=some r)
  (h:AF P F S K (.N1 r)):Aj P ((execOp a.eval o).run P w) (B_ K E fz S w):=by
 have h1:=Ab hF hx;simp only [AF,AD] at h;generalize rd F r=X at*;cases X<;>first | exact h.elim | skip
 have h1':=h1;simp only [Rel] at h1';exact Ai st (by simp [execOp,ho,h1',convert,run_underlying hs,run_underlying hd]) h (h1'▸h1)
theorem fv (st:St E fz S w) (hF:B3 E fz w F a.tmps) {o:Oper} {t:TypeId} {d:TypeDesc} {x:Operand} {r:AL} (ho:o.op= .makeInterface t x) (ht:P.underlying t=some d) (hd: ∀m,d≠ .interface m) (hx:Ac x=some r)
  (h:AF P F S K (.VJ t r)):Aj P ((execOp a.eval o).run P w) (B_ K E fz S w):=by
 simp only [AF,AD] at h;refine Ai st (v:= .iface t (a.eval x)) ?_ h ?_
 ·simp only [execOp,ho,Instr.makeInterface,Sem.run_bind,run_underlying ht,Result.andThen_ok];cases d<;>first | rfl | exact absurd rfl (hd _)
 ·simp only [Rel];exact ⟨_,rfl,Ab hF hx⟩
theorem ZB (st:St E fz S w) (hF:B3 E fz w F a.tmps) {o:Oper} {f:Fn} {x y:Array Operand} {rx ry:List AL} (ho:o.op= .makeFunc f x y) (hx:FY x.toList=some rx) (hy:FY y.toList=some ry)
  (h:AF P F S K (.GV f rx ry)):Aj P ((execOp a.eval o).run P w) (B_ K E fz S w):=by
 simp only [AF,Ap] at h;refine Ai st (v:= .func f (x.map a.eval) (y.map a.eval)) (by simp [execOp,ho,Instr.makeFunc]) h ?_;simp only [Rel];exact ⟨x.toList.map a.eval,y.toList.map a.eval,by simp [<-Array.toList_map],Eu hF hx,Eu hF hy⟩
theorem WH (st:St E fz S w) (hF:B3 E fz w F a.tmps) {o:Oper} {x:Operand} {r:AL} {i:Nat} (ho:o.op= .extract x i) (hx:Ac x=some r)
  (h:AF P F S K (.extract r i)):Aj P ((execOp a.eval o).run P w) (B_ K E fz S w):=by
 have h1:=Ab hF hx;simp only [AF,AD] at h;generalize rd F r=X at*;cases X<;>simp only [CT] at h
 case DG xs=>
  simp only [Rel] at h1;obtain ⟨vs,e,hl⟩:=h1;cases hd:xs.drop i with
  | nil=>rw [hd] at h;exact h.elim
  | cons y ys=>
   rw [hd] at h;have hi:xs[i]?=some y:=by
    have:=congrArg (·[0]?) hd;simpa using this
   obtain ⟨v,hv,hr⟩:=hl.get hi;exact Ai st (by simp [execOp,ho,e,Instr.extract,hv]) h hr
 all_goals exact h.elim
theorem XR (st:St E fz S w) (hF:B3 E fz w F a.tmps) {o:Oper} {c:Call} {r:AL} {t:TypeId} {str:Bool} (ho:o.op= .call c) (hc:c.callee= .builtin .len) (hargs:FY c.args.toList=some [r])
  (ht:c.argTypes[0]?=some t) (hu:(str=true/\P.underlying t=some .string)\/(str=false/\ ∃e,P.underlying t=some (.slice e)))
  (h:AF P F S K (.len str r)):Aj P ((execOp a.eval o).run P w) (B_ K E fz S w):=by
 have h1:=Eu hF hargs;simp only [List.map_cons,List.map_nil,AZ] at h1;obtain ⟨v,us,e1,hr,rfl⟩:=h1;have e2:(c.args.map a.eval)[0]?=some v:=by rw [<-Array.getElem?_toList,Array.toList_map,e1];rfl
 simp only [AF,AD] at h;generalize rd F r=X at*;have go: ∀ {n:Nat},(Builtin.len_ c.argTypes o.type (c.args.map a.eval)).run P w= .ok (goInt n) w->K (.int .i64 (n:Int)) S->Aj P ((execOp a.eval o).run P w) (B_ K E fz S w):=fun {n} hrun hk=>by
  refine Ai st (v:= .int .i64 n) ?_ hk (by simp [Rel]);simp [execOp,ho,resolve,hc,invoke,builtin,hrun,goInt]
 rcases hu with ⟨rfl,hu⟩ | ⟨rfl,e,hu⟩
 ·cases X<;>first | exact h.elim | skip
  rename_i s;simp only [Rel] at hr;subst hr;refine go (n:=s.length) ?_ h;simp [Builtin.len_,ht,e2,run_underlying hu];rfl
 ·have slice: ∀ {ao:Option Addr} {n cap:Nat},v= .slice ao n cap->K (.int .i64 (n:Int)) S->Aj P ((execOp a.eval o).run P w) (B_ K E fz S w):=fun {ao n cap} hv hk=>by
   subst hv;exact go (by simp [Builtin.len_,ht,e2,run_underlying hu]) hk
  cases X<;>first | exact h.elim | skip
  case Em n cs=>
   simp only [Rel] at hr;rcases hr with ⟨rfl,_,_,rfl⟩ | ⟨_,_,_,_,_,rfl,_⟩<;>exact slice rfl h
  case sl l ver off n=>
   simp only [Rel] at hr;rcases hr with ⟨rfl,_,rfl⟩ | ⟨_,_,_,_,_,_,_,_,rfl⟩<;>exact slice rfl h
  case AM=>
   simp only [Rel] at hr;exact slice hr h
end
end Go.Vc
end
section
namespace Go.Vc
section
variable {P : Program} {E : Env} {fz : Nat -> Prop} {S : AB} {w : World} {F : Frame} {a : Act} {K : AA -> AB -> Prop} {ro : Bool}
theorem Wu {f:FuncId} {xs:List AA} {vals:List Value} (st:St E fz S w) (h:AU P f xs S K) (hr:AZ E fz w xs vals):
  M8 P f vals.toArray w fun e w''=> ∃v,e= .returned v/\B_ K E fz S w v w'':=
 (h.out E fz w vals st hr).mono fun e w' ⟨r,S',v,E',fz',he,hx,hs,hrel,hk⟩=>⟨v,he,r,S',E',fz',hk,hx,hs,hrel⟩
theorem MW {f:FuncId} {args:Array Value} (h:Cy P f=true):(callFunc f args).run P w= .ok (.enter f args) w:=by
 unfold Cy at h;cases hf:P.funcs[f]? with
 | none=>rw [hf] at h;cases h
 | some fn=>
  rw [hf] at h;simp only [Bool.and_eq_true,bne_iff_ne,ne_eq] at h;obtain ⟨h1,h2⟩:=h;have h3:fn.body.isNone=false:=by cases hh:fn.body<;>simp_all
  have h4:(fn.name == "runtime.NumGoroutine")=false:=by simpa using h2
  simp only [callFunc,Sem.run_bind,run_program,Result.andThen_ok,hf,h4,h3,Bool.false_eq_true,if_false,Sem.run_pure]
theorem M8.calls {f:FuncId} {args:Array Value} {R:Ending->World->Prop} (h:M8 P f args w R) (ha:Cy P f=true):Calls P f args w R:=by
 rcases h with ⟨_,h⟩ | ⟨v,w',h,_⟩
 ·exact h
 ·rw [MW ha] at h;cases h
theorem eR (st:St E fz S w) (hF:B3 E fz w F a.tmps) {o:Oper} {c:Call} {f:FuncId} {xs:List AL} (ho:o.op= .call c) (hc:c.callee= .value (.func f)) (hargs:FY c.args.toList=some xs)
  (hf:Cy P f=true) (h:AF P F S K (.call f xs)):Aj P ((execOp a.eval o).run P w) (B_ K E fz S w):=by
 have h1:=Eu hF hargs;simp only [AF,Ap] at h;have hrun:(execOp a.eval o).run P w= .ok (.enter f (c.args.map a.eval)) w:=by
  simp [execOp,ho,resolve,hc,Deferred.ofValue,invoke,Act.eval,MW hf]
 rw [hrun];have:=(Wu st h h1).calls hf;simpa [Aj,<-Array.toList_map] using this
theorem kS {fn:Func} (h:fn.name= "internal/bytealg.IndexByteString"):Extern.find fn=some Extern.BytealgIndexByte.indexByte:=by
 have h1:Extern.allGenericRows.lookup "internal/bytealg.IndexByteString" =none:=by kernel_rfl
 have h2:Extern.allTypedRows.lookup "internal/bytealg.IndexByteString" =none:=by kernel_rfl
 have h3:Extern.allRows.lookup "internal/bytealg.IndexByteString" =some Extern.BytealgIndexByte.indexByte:=by kernel_rfl
 simp only [Extern.find,h,h1,h2,h3,Option.map_none,HOrElse.hOrElse,OrElse.orElse,Option.orElse]
theorem nk {fn:Func} (h:fn.name= "internal/bytealg.CountString"):Extern.find fn=some Extern.BytealgCount.count:=by
 have h1:Extern.allGenericRows.lookup "internal/bytealg.CountString" =none:=by kernel_rfl
 have h2:Extern.allTypedRows.lookup "internal/bytealg.CountString" =none:=by kernel_rfl
 have h3:Extern.allRows.lookup "internal/bytealg.CountString" =some Extern.BytealgCount.count:=by kernel_rfl
 simp only [Extern.find,h,h1,h2,h3,Option.map_none,HOrElse.hOrElse,OrElse.orElse,Option.orElse]
theorem kQ {f:FuncId} (h:kP P f=some .nw) (args:Array Value) (w:World):(callFunc f args).run P w=((Extern.BytealgIndexByte.indexByte args).run P w).andThen fun v w'=>.ok (.value v) w':=by
 unfold kP at h;split at h
 ·rename_i fn hf;split at h
  ·rename_i hb;simp only [Bool.and_eq_true] at hb;split at h
   ·rename_i hn;have hn:=eq_of_beq hn;exact run_callFunc_extern hf (by rw [hn];rfl) hb.1 (Option.isNone_iff_eq_none.1 hb.2) (kS hn) args w
   ·split at h<;>cases h
  ·cases h
 ·cases h
theorem ni {f:FuncId} (h:kP P f=some .u0) (args:Array Value) (w:World):(callFunc f args).run P w=((Extern.BytealgCount.count args).run P w).andThen fun v w'=>.ok (.value v) w':=by
 unfold kP at h;split at h
 ·rename_i fn hf;split at h
  ·rename_i hb;simp only [Bool.and_eq_true] at hb;split at h
   ·cases h
   ·split at h
    ·rename_i hn;have hn:=eq_of_beq hn;exact run_callFunc_extern hf (by rw [hn];rfl) hb.1 (Option.isNone_iff_eq_none.1 hb.2) (nk hn) args w
    ·cases h
  ·cases h
 ·cases h
theorem kR (st:St E fz S w) (hF:B3 E fz w F a.tmps) {o:Oper} {c:Call} {f:FuncId} {xs:List AL} {k:d_} (ho:o.op= .call c) (hc:c.callee= .value (.func f)) (hargs:FY c.args.toList=some xs)
  (hf:kP P f=some k) (h:AF P F S K (.ext k xs)):Aj P ((execOp a.eval o).run P w) (B_ K E fz S w):=by
 have h1:=Eu hF hargs;simp only [AF,Ap] at h;have hrun: ∀v,((callFunc f (c.args.map a.eval)).run P w= .ok (.value v) w)->(execOp a.eval o).run P w= .ok (.value v) w:=fun v hv=>by
  simp [execOp,ho,resolve,hc,Deferred.ofValue,invoke,Act.eval,hv]
 have e0:c.args.map a.eval=(c.args.toList.map a.eval).toArray:=by apply Array.ext';simp
 generalize hX:xs.map (rd F)=X at*;unfold jf at h;split at h
 ·rename_i s n;simp only [AZ,Rel] at h1;obtain ⟨v,us,e1,rfl,u,us',rfl,rfl,rfl⟩:=h1;refine Ai st (hrun (.int .i64 (Lib.indexByte s n.toNat.toUInt8)) ?_) h (by simp only [Rel]);rw [kQ hf,e0,e1,Lib.run_indexByteString];rfl
 ·rename_i s n;simp only [AZ,Rel] at h1;obtain ⟨v,us,e1,rfl,u,us',rfl,rfl,rfl⟩:=h1;refine Ai st (hrun (.int .i64 (Lib.countByte s n.toNat.toUInt8:Nat)) ?_) h (by simp only [Rel]);rw [ni hf,e0,e1,Lib.run_countString];rfl
 ·exact h.elim
theorem aG (st:St E fz S w) (hF:B3 E fz w F a.tmps) {o:Oper} {c:Call} {x:Operand} {r:AL} {xs:List AL} (ho:o.op= .call c) (hc:c.callee= .value x) (hargs:FY c.args.toList=some xs)
  (hx:Ac x=some r) (h:AF P F S K (.Fo r xs)):Aj P ((execOp a.eval o).run P w) (B_ K E fz S w):=by
 have h1:=Eu hF hargs;have h2:=Ab hF hx;simp only [AF,AD,Ap] at h;generalize hX:rd F r=X at*;cases X<;>first | exact h.elim | skip
 rename_i f first cap
 cases f
 case func f=>
  cases first<;>first | exact h.elim | skip
  simp only [Rel] at h2;obtain ⟨vs,us,e,g1,g2⟩:=h2;simp only [AZ] at g1;subst g1;have:=Wu st h.2 (h1.append g2);have e2:(c.args.toList.map a.eval++us).toArray=c.args.map a.eval++us.toArray:=by apply Array.ext';simp
  rw [e2] at this;rcases this with ⟨ha,this⟩ | ⟨v,w',q1,q2⟩
  ·have hrun:(execOp a.eval o).run P w= .ok (.enter f (c.args.map a.eval++us.toArray)) w:=by
    simp [execOp,ho,resolve,hc,Deferred.ofValue,e,invoke,MW ha]
   rw [hrun];exact this
  ·have hrun:(execOp a.eval o).run P w= .ok (.value v) w':=by
    simp [execOp,ho,resolve,hc,Deferred.ofValue,e,invoke,q1]
   rw [hrun];obtain ⟨v',e',hp⟩:=q2;cases e';exact hp
 case yield l=>
  cases first<;>first | exact h.elim | skip
  cases cap<;>first | exact h.elim | skip
  simp only [Rel,AZ] at h2;obtain ⟨vs,us,e,rfl,rfl⟩:=h2;obtain ⟨_,h⟩:=h;obtain ⟨fn,tmps,assign,body,hy,hR⟩:=h.out E fz w _ st h1;have e2:(c.args.toList.map a.eval).toArray=c.args.map a.eval:=by apply Array.ext';simp
  rw [e2] at hy;have hrun:(execOp a.eval o).run P w= .ok (.round l fn tmps assign body) w:=by
   simp [execOp,ho,resolve,hc,Deferred.ofValue,e,invoke,callFunc,hy]
  rw [hrun];exact RoundIn.mono hR fun e' w'' ⟨r,S',v,E',fz',q1,q2,q3,q4,q5⟩=>⟨v,q1,r,S',E',fz',q5,q2,q3,q4⟩
 all_goals exact h.elim
theorem od: ∀(xs:List AA) (vs:List Value) (x:AA) (v:Value) {K:AA->Prop},AZ E fz w xs vs->Rel E fz w x v->TP x K xs->
  ∃u y,(vs.foldlM Builtin.min2 v).run P w= .ok u w/\K y/\Rel E fz w y u
 | [],vs,x,v,K,hl,hr,h=>by
  simp only [AZ] at hl;subst hl;exact ⟨v,x,by simp,h,hr⟩
 | y::xs,vs,x,v,K,hl,hr,h=>by
  simp only [AZ] at hl;obtain ⟨u,us,rfl,h2,h3⟩:=hl;cases x<;>cases y<;>simp only [TP] at h;rename_i k n k' m;obtain ⟨rfl,h⟩:=h;simp only [Rel] at hr h2;subst hr h2;obtain ⟨u',y',q1,q2,q3⟩:=od xs us _ (.int k (min n m)) h3 (by simp only [Rel]) h;refine ⟨u',y',?_,q2,q3⟩;simp only [List.foldlM_cons,Sem.run_bind,Builtin.min2,Sem.run_pure,Result.andThen_ok];have:(if m<n then m else n)=min n m:=by omega
  rw [this];exact q1
theorem oa: ∀(xs:List AA) (vs:List Value) (x:AA) (v:Value) {K:AA->Prop},AZ E fz w xs vs->Rel E fz w x v->TO x K xs->
  ∃u y,(vs.foldlM Builtin.max2 v).run P w= .ok u w/\K y/\Rel E fz w y u
 | [],vs,x,v,K,hl,hr,h=>by
  simp only [AZ] at hl;subst hl;exact ⟨v,x,by simp,h,hr⟩
 | y::xs,vs,x,v,K,hl,hr,h=>by
  simp only [AZ] at hl;obtain ⟨u,us,rfl,h2,h3⟩:=hl;cases x<;>cases y<;>simp only [TO] at h;rename_i k n k' m;obtain ⟨rfl,h⟩:=h;simp only [Rel] at hr h2;subst hr h2;obtain ⟨u',y',q1,q2,q3⟩:=oa xs us _ (.int k (max n m)) h3 (by simp only [Rel]) h;refine ⟨u',y',?_,q2,q3⟩;simp only [List.foldlM_cons,Sem.run_bind,Builtin.max2,Sem.run_pure,Result.andThen_ok];have:(if n<m then m else n)=max n m:=by omega
  rw [this];exact q1
theorem Qr (st:St E fz S w) (hF:B3 E fz w F a.tmps) {o:Oper} {c:Call} {xs:List AL} (ho:o.op= .call c) (hargs:FY c.args.toList=some xs)
  (h:(c.callee= .builtin .min/\AF P F S K (.min xs))\/(c.callee= .builtin .max/\AF P F S K (.max xs))):Aj P ((execOp a.eval o).run P w) (B_ K E fz S w):=by
 have h1:=Eu hF hargs;rcases h with ⟨hc,h⟩ | ⟨hc,h⟩<;>simp only [AF,Ap] at h<;>generalize xs.map (rd F)=ys at* <;>cases ys<;>first | exact h.elim | skip
 all_goals
  rename_i y ys;simp only [AZ] at h1;obtain ⟨v,us,e,h2,h3⟩:=h1
 ·obtain ⟨u,z,q1,q2,q3⟩:=od (P:=P) ys us y v h3 h2 h;exact Ai st (by simp [execOp,ho,resolve,hc,invoke,builtin,Builtin.min_,e,q1]) q2 q3
 ·obtain ⟨u,z,q1,q2,q3⟩:=oa (P:=P) ys us y v h3 h2 h;exact Ai st (by simp [execOp,ho,resolve,hc,invoke,builtin,Builtin.max_,e,q1]) q2 q3
theorem rA {op:BinOp} {r:Bool} {K:AA->Prop} (h:W6 op r K):(op= .eql/\K (.bool r))\/(op= .neq/\K (.bool (!r))):=by
 cases op<;>simp only [W6] at h<;>first | exact h.elim | skip
 ·exact .inl ⟨rfl,h⟩
 ·exact .inr ⟨rfl,h⟩
theorem FJ (s:List UInt8):(⟨s.toArray⟩:ByteArray).toList=s:=by rw [ByteArray.toList_eq]
theorem YN (a b:Int):(a == b)=decide (a=b):=by
 by_cases h:a=b<;>simp [h]
theorem LL (a b:List UInt8):(a == b)=decide (a=b):=by
 by_cases h:a=b<;>simp [h]
theorem aC (a b:Bool):(a == b)=decide (a=b):=by
 by_cases h:a=b<;>simp [h]
theorem Ua (d:Nat): ∀(fs:List Field) (ks:List FK) (off:Nat) (xs ys:List AA) (vs us:List Value) (av au:List Value) {K:Bool->Prop},G6 P off fs=some ks->AZ E fz w xs vs->AZ E fz w ys us->
  (∀(i:Nat) v,vs[i]?=some v->av[off+i]?=some v)->(∀(i:Nat) v,us[i]?=some v->au[off+i]?=some v)->A8 ks xs ys K->
  ∃r,(Op.eqFields (d+1) av.toArray au.toArray fs).run P w= .ok r w/\K r
 | [],ks,off,xs,ys,vs,us,av,au,K,hf,_,_,_,_,h=>by
  simp only [G6] at hf;cases hf;cases xs<;>cases ys<;>simp only [A8] at h;exact ⟨true,by simp [Op.eqFields],h⟩
 | f::fs,ks,off,xs,ys,vs,us,av,au,K,hf,hx,hy,h1,h2,h=>by
  simp only [G6] at hf;split at hf
  case isFalse=>cases hf
  rename_i hname;simp only [Bool.and_eq_true,bne_iff_ne,ne_eq,beq_iff_eq] at hname;obtain ⟨fname,foff⟩:=hname;have main: ∀ {x y:AA} {xs' ys':List AA} {ks':List FK} {dsc:TypeDesc} {q:Bool} {v u:Value} {vs' us':List Value},xs=x::xs'->ys=y::ys'->vs=v::vs'->us=u::us'->P.underlying f.type=some dsc->G8 dsc=false->
    G6 P (off+1) fs=some ks'->AZ E fz w xs' vs'->AZ E fz w ys' us'->
    (Op.equalIn (d+1) f.type v u).run P w= .ok q w->(A8 ks' xs' ys' fun r=>K (q && r))-> ∃r,(Op.eqFields (d+1) av.toArray au.toArray (f::fs)).run P w= .ok r w/\K r:=by
   intro x y xs' ys' ks' dsc q v u vs' us' ex ey ev eu hd hagg hfs hxs hys hq hk;subst ex ey ev eu;have g1:av[off]?=some v:=by simpa using h1 0 v rfl
   have g2:au[off]?=some u:=by simpa using h2 0 u rfl
   have n1: ∀(i:Nat) v',vs'[i]?=some v'->av[off+1+i]?=some v':=fun i v' hi=>by have:=h1 (i+1) v' (by simpa using hi);rwa [show off+(i+1)=off+1+i by omega] at this
   have n2: ∀(i:Nat) v',us'[i]?=some v'->au[off+1+i]?=some v':=fun i v' hi=>by have:=h2 (i+1) v' (by simpa using hi);rwa [show off+(i+1)=off+1+i by omega] at this
   have hpart: ∀(l:List Value) z,l[off]?=some z->(part f.type l.toArray f.offset).run P w= .ok z w:=fun l z hz=>by
    have:(isAgg f.type).run P w= .ok false w:=by
     simp only [isAgg,Sem.run_bind,run_underlying hd,Result.andThen_ok];cases dsc<;>first | rfl | cases hagg
    simp [part,this,foff,hz]
   simp only [Op.eqFields];rw [if_pos fname];simp only [Sem.run_bind,hpart av v g1,hpart au u g2,Result.andThen_ok,hq];obtain ⟨r,q1,q2⟩:=Ua d fs ks' (off+1) xs' ys' vs' us' av au hfs hxs hys n1 n2 hk;cases q
   ·exact ⟨false,by simp,by simpa using q2⟩
   ·exact ⟨r,by simpa using q1,by simpa using q2⟩
  split at hf
  ·rename_i kk ks' hd hfs;cases hf;cases xs with
   | nil=>simp only [A8] at h
   | cons x xs=>
    cases ys with
    | nil=>cases x<;>simp only [A8] at h
    | cons y ys=>
     simp only [AZ] at hx hy;obtain ⟨v,vs,rfl,hv,hvs⟩:=hx;obtain ⟨u,us,rfl,hu,hus⟩:=hy;cases x<;>cases y<;>simp only [A8] at h;rename_i k n k' m;obtain ⟨rfl,h⟩:=h;simp only [Rel] at hv hu;subst hv hu;exact main (q:=decide (n=m)) rfl rfl rfl rfl hd rfl hfs hvs hus (by simp [Op.equalIn,run_underlying hd,YN]) h
  ·rename_i ks' hd hfs;cases hf;cases xs with
   | nil=>simp only [A8] at h
   | cons x xs=>
    cases ys with
    | nil=>cases x<;>simp only [A8] at h
    | cons y ys=>
     simp only [AZ] at hx hy;obtain ⟨v,vs,rfl,hv,hvs⟩:=hx;obtain ⟨u,us,rfl,hu,hus⟩:=hy;cases x<;>cases y<;>simp only [A8] at h;rename_i n m;simp only [Rel] at hv hu;subst hv hu;exact main (q:=decide (n=m)) rfl rfl rfl rfl hd rfl hfs hvs hus (by simp [Op.equalIn,run_underlying hd,beq_toListBytes,FJ,LL]) h
  ·rename_i ks' hd hfs;cases hf;cases xs with
   | nil=>simp only [A8] at h
   | cons x xs=>
    cases ys with
    | nil=>cases x<;>simp only [A8] at h
    | cons y ys=>
     simp only [AZ] at hx hy;obtain ⟨v,vs,rfl,hv,hvs⟩:=hx;obtain ⟨u,us,rfl,hu,hus⟩:=hy;cases x<;>cases y<;>simp only [A8] at h;rename_i n m;simp only [Rel] at hv hu;subst hv hu;exact main (q:=decide (n=m)) rfl rfl rfl rfl hd rfl hfs hvs hus (by simp [Op.equalIn,run_underlying hd,aC]) h
  ·cases hf
theorem Im: ∀ {k1 k2:List FK} {xs ys:List AA} {K:Bool->Prop},A8 (k1++k2) xs ys K->
  xs.length=ys.length/\k1.length<=xs.length/\A8 k1 (xs.take k1.length) (ys.take k1.length) fun r=>A8 k2 (xs.drop k1.length) (ys.drop k1.length) fun q=>K (r && q)
 | [],k2,xs,ys,K,h=>by
  refine ⟨?_,Nat.zero_le _,?_⟩
  ·have: ∀(k:List FK) (xs ys:List AA) (K:Bool->Prop),A8 k xs ys K->xs.length=ys.length:=by
    intro k
    induction k with
    | nil=>intro xs ys K h;cases xs<;>cases ys<;>simp only [A8] at h;rfl
    | cons k ks ih=>
     intro xs ys K h;cases xs with
     | nil=>cases k<;>simp only [A8] at h
     | cons x xs=>
      cases ys with
      | nil=>cases k<;>cases x<;>simp only [A8] at h
      | cons y ys=>
       simp only [List.length_cons];cases k<;>cases x<;>cases y<;>simp only [A8] at h
       ·rw [ih _ _ _ h.2]
       ·rw [ih _ _ _ h]
       ·rw [ih _ _ _ h]
   exact this _ _ _ _ (by simpa using h)
  ·simpa [A8] using h
 | k::k1,k2,[],ys,K,h=>by cases k<;>simp only [List.cons_append,A8] at h
 | k::k1,k2,x::xs,[],K,h=>by cases k<;>cases x<;>simp only [List.cons_append,A8] at h
 | k::k1,k2,x::xs,y::ys,K,h=>by
  cases k<;>cases x<;>cases y<;>simp only [List.cons_append,A8] at h
  ·obtain ⟨h1,h2,h3⟩:=Im (k1:=k1) h.2;refine ⟨by simp [h1],by simpa using h2,?_⟩;simp only [List.length_cons,List.take_succ_cons,List.drop_succ_cons,A8,Bool.and_assoc];exact ⟨h.1,h3⟩
  ·obtain ⟨h1,h2,h3⟩:=Im (k1:=k1) h;refine ⟨by simp [h1],by simpa using h2,?_⟩;simp only [List.length_cons,List.take_succ_cons,List.drop_succ_cons,A8,Bool.and_assoc];exact h3
  ·obtain ⟨h1,h2,h3⟩:=Im (k1:=k1) h;refine ⟨by simp [h1],by simpa using h2,?_⟩;simp only [List.length_cons,List.take_succ_cons,List.drop_succ_cons,A8,Bool.and_assoc];exact h3
theorem O1 {n:Nat} {a b:Array Value} {f:Field} {fs:List Field} {r1 r2:Bool} (h1:(Op.eqFields n a b [f]).run P w= .ok r1 w) (h2:(Op.eqFields n a b fs).run P w= .ok r2 w):
  (Op.eqFields n a b (f::fs)).run P w= .ok (r1 && r2) w:=by
 rw [Op.eqFields] at h1 |-;by_cases hn:f.name≠ "_"
 ·rw [if_pos hn] at h1 |-;simp only [Sem.run_bind] at h1 |-;cases e1:Sem.run P (part f.type a f.offset) w with
  | halt x w1=>rw [e1] at h1;simp [Result.andThen] at h1
  | ok x w1=>
   rw [e1] at h1;simp only [Result.andThen_ok] at h1 |-;cases e2:Sem.run P (part f.type b f.offset) w1 with
   | halt x w1=>rw [e2] at h1;simp [Result.andThen] at h1
   | ok y w2=>
    rw [e2] at h1;simp only [Result.andThen_ok] at h1 |-;cases e3:Sem.run P (Op.equalIn n f.type x y) w2 with
    | halt x w1=>rw [e3] at h1;simp [Result.andThen] at h1
    | ok q w3=>
     rw [e3] at h1;simp only [Result.andThen_ok] at h1 |-;cases q
     ·simp at h1 |-;obtain ⟨rfl,rfl⟩:=h1;simp
     ·simp [Op.eqFields] at h1 |-;obtain ⟨rfl,rfl⟩:=h1;simpa using h2
 ·rw [if_neg hn] at h1 |-;simp [Op.eqFields] at h1;subst h1;simpa using h2
theorem lv {t:TypeId} {n:Nat} (h:B2 P t=some n) (w:World):(Go.sizeOf t).run P w= .ok n w:=by
 unfold B2 at h;split at h
 ·rename_i i hi;cases h;simp [Go.sizeOf,typeInfo,hi]
 ·cases h
theorem Re (d:Nat): ∀(fs:List Field) (ks:List FK) (off:Nat) (xs ys:List AA) (vs us:List Value) (av au:List Value) {K:Bool->Prop},Fw P off fs=some ks->AZ E fz w xs vs->AZ E fz w ys us->
  (∀(i:Nat) v,vs[i]?=some v->av[off+i]?=some v)->(∀(i:Nat) v,us[i]?=some v->au[off+i]?=some v)->A8 ks xs ys K->
  ∃r,(Op.eqFields (d+2) av.toArray au.toArray fs).run P w= .ok r w/\K r
 | [],ks,off,xs,ys,vs,us,av,au,K,hf,_,_,_,_,h=>by
  simp only [Fw] at hf;cases hf;cases xs<;>cases ys<;>simp only [A8] at h;exact ⟨true,by simp [Op.eqFields],h⟩
 | f::fs,ks,off,xs,ys,vs,us,av,au,K,hf,hx,hy,h1,h2,h=>by
  have part1: ∀ {xs:List AA} {vs:List Value} (n:Nat),AZ E fz w xs vs->AZ E fz w (xs.take n) (vs.take n):=fun {xs vs} n hr=>by
   refine AZ.mk (by simp [hr.length]) fun i x v hx hv=>?_;rw [List.getElem?_take] at hx hv;split at hx
   ·obtain ⟨v',q1,q2⟩:=hr.get hx;rename_i hi;rw [if_pos hi,q1] at hv;cases hv;exact q2
   ·cases hx
  have part2: ∀ {xs:List AA} {vs:List Value} (n:Nat),AZ E fz w xs vs->AZ E fz w (xs.drop n) (vs.drop n):=fun {xs vs} n hr=>by
   refine AZ.mk (by simp [hr.length]) fun i x v hx hv=>?_;rw [List.getElem?_drop] at hx hv;obtain ⟨v',q1,q2⟩:=hr.get hx;rw [q1] at hv;cases hv;exact q2
  have at1: ∀ {vs av:List Value} (n:Nat),(∀(i:Nat) v,vs[i]?=some v->av[off+i]?=some v)-> ∀(i:Nat) v,(vs.take n)[i]?=some v->av[off+i]?=some v:=fun n h i v hv=>by
   rw [List.getElem?_take] at hv;split at hv
   ·exact h i v hv
   ·cases hv
  have at2: ∀ {vs av:List Value} (n:Nat),(∀(i:Nat) v,vs[i]?=some v->av[off+i]?=some v)-> ∀(i:Nat) v,(vs.drop n)[i]?=some v->av[off+n+i]?=some v:=fun n h i v hv=>by
   rw [List.getElem?_drop] at hv;rw [Nat.add_assoc];exact h _ v hv
  simp only [Fw] at hf;split at hf
  ·rename_i ks1 hk1;split at hf<;>cases hf;rename_i ks2 hk2;obtain ⟨l1,l2,h⟩:=Im h;obtain ⟨r1,q1,q2⟩:=Ua (P:=P) (w:=w) (d+1) [f] ks1 off _ _ _ _ av au hk1 (part1 ks1.length hx) (part1 ks1.length hy) (at1 _ h1) (at1 _ h2) h;obtain ⟨r2,q3,q4⟩:=Re d fs ks2 (off+ks1.length) _ _ _ _ av au hk2 (part2 ks1.length hx) (part2 ks1.length hy) (at2 _ h1) (at2 _ h2) q2;exact ⟨_,O1 q1 q3,q4⟩
  ·split at hf
   case isFalse=>cases hf
   rename_i hname;simp only [Bool.and_eq_true,bne_iff_ne,ne_eq,beq_iff_eq] at hname;obtain ⟨fname,foff⟩:=hname;split at hf
   case h_2=>cases hf
   rename_i gs hu;split at hf
   case h_2=>cases hf
   rename_i ks1 n hk1 hn;split at hf
   case isFalse=>cases hf
   rename_i hc;simp only [Bool.and_eq_true,Bool.not_eq_true',beq_iff_eq] at hc;obtain ⟨hc1,hc2⟩:=hc;split at hf<;>cases hf;rename_i ks2 hk2;obtain ⟨l1,l2,h⟩:=Im h;have hext: ∀l:List Value,l.toArray.extract off (off+n)=((l.drop off).take n).toArray:=fun l=>by simp
   have pos: ∀ {vs av:List Value},(∀(i:Nat) v,vs[i]?=some v->av[off+i]?=some v)-> ∀(i:Nat) v,(vs.take ks1.length)[i]?=some v->((av.drop off).take n)[0+i]?=some v:=fun {vs av} h i v hv=>by
    rw [List.getElem?_take] at hv;split at hv
    ·rename_i hi;rw [Nat.zero_add,List.getElem?_take,if_pos (by omega),List.getElem?_drop];exact h i v hv
    ·cases hv
   obtain ⟨r1,q1,q2⟩:=Ua (P:=P) (w:=w) d gs.toList ks1 0 _ _ _ _ ((av.drop off).take n) ((au.drop off).take n) hk1 (part1 ks1.length hx) (part1 ks1.length hy) (pos h1) (pos h2) h;have hfo:P.fieldsOf f.type=gs:=by simp [Program.fieldsOf,hu]
   have q1':(Op.eqFields (d+2) av.toArray au.toArray [f]).run P w= .ok r1 w:=by
    have hag: ∀w,(isAgg f.type).run P w= .ok true w:=fun w=>by simp [isAgg,run_underlying hu]
    have hp: ∀l:List Value,(part f.type l.toArray f.offset).run P w= .ok (.agg ((l.drop off).take n).toArray) w:=fun l=>by
     unfold part;simp only [Sem.run_bind,hag,Result.andThen_ok,if_true,lv hn,foff,hext,Sem.run_pure]
    simp only [Op.eqFields];rw [if_pos fname];simp only [Sem.run_bind,hp,Result.andThen_ok];rw [run_equalIn_struct w (d+1) f.type _ _ (by rw [hfo];exact hu) hc2,hfo,q1];cases r1<;>simp
   obtain ⟨r2,q3,q4⟩:=Re d fs ks2 (off+ks1.length) _ _ _ _ av au hk2 (part2 ks1.length hx) (part2 ks1.length hy) (at2 _ h1) (at2 _ h2) q2;exact ⟨_,O1 q1' q3,q4⟩
theorem qd {op:BinOp} {k:IntKind} {x y:Int} {t:TypeId} {K:AA->Prop} (h:IJ op k x y K): ∃v z,(binOp op t (.int k x) (.int k y)).run P w= .ok v w/\K z/\Rel E fz w z v:=by
 cases op<;>simp only [IJ] at h<;>first | exact h.elim | skip
 case add=>obtain ⟨z,h1,h2⟩:=Mi (E:=E) (fz:=fz) (w:=w) h;exact ⟨_,z,by simp [binOp_add,Op.intArith],h1,h2⟩
 case sub=>obtain ⟨z,h1,h2⟩:=Mi (E:=E) (fz:=fz) (w:=w) h;exact ⟨_,z,by simp [binOp_sub,Op.intArith],h1,h2⟩
 case mul=>obtain ⟨z,h1,h2⟩:=Mi (E:=E) (fz:=fz) (w:=w) h;exact ⟨_,z,by simp [binOp_mul,Op.intArith],h1,h2⟩
 case quo=>obtain ⟨z,h1,h2⟩:=Mi (E:=E) (fz:=fz) (w:=w) h.2;exact ⟨_,z,by simp [binOp_quo,Op.intDiv,h.1],h1,h2⟩
 case rem=>exact ⟨_,_,by simp [binOp_rem,Op.intDiv,h.1];rfl,h.2,by simp [Rel]⟩
 case and=>exact ⟨_,_,by simp [binOp_and,Op.intBits];rfl,h,by simp [Rel]⟩
 case or=>exact ⟨_,_,by simp [binOp_or,Op.intBits];rfl,h,by simp [Rel]⟩
 case xor=>exact ⟨_,_,by simp [binOp_xor,Op.intBits];rfl,h,by simp [Rel]⟩
 case eql=>exact ⟨_,_,by simp [binOp_eql];rfl,h,by simp [Rel,YN]⟩
 case neq=>exact ⟨_,_,by simp [binOp_neq];rfl,h,by simp [Rel,bne,YN]⟩
 case lss=>exact ⟨.bool (decide (x<y)),_,by rw [binOp_lss];rfl,h,by simp [Rel]⟩
 case leq=>exact ⟨.bool (decide (x<=y)),_,by rw [binOp_leq];rfl,h,by simp [Rel]⟩
 case gtr=>exact ⟨.bool (decide (y<x)),_,by rw [binOp_gtr];rfl,h,by simp [Rel]⟩
 case geq=>exact ⟨.bool (decide (y<=x)),_,by rw [binOp_geq];rfl,h,by simp [Rel]⟩
theorem qe {op:BinOp} {x y:List UInt8} {t:TypeId} {K:AA->Prop} (h:Me op x y K): ∃v z,(binOp op t (.string ⟨x.toArray⟩) (.string ⟨y.toArray⟩)).run P w= .ok v w/\K z/\Rel E fz w z v:=by
 have hb: ∀op',op'=op->binOp op' t (.string ⟨x.toArray⟩) (.string ⟨y.toArray⟩)=Op.stringOp op' ⟨x.toArray⟩ ⟨y.toArray⟩:=fun op' e=>by
  subst e;cases op'<;>simp only [Me] at h<;>first | exact h.elim | rfl
 rw [hb op rfl];have hsz: ∀l:List UInt8,(⟨l.toArray⟩:ByteArray).size=l.length:=fun l=>by simp [ByteArray.size]
 cases op<;>simp only [Me] at h<;>first | exact h.elim | skip
 case add=>
  refine ⟨.string (⟨x.toArray⟩++⟨y.toArray⟩),_,?_,h.2,?_⟩
  ·have h1:=h.1.2;simp only [Op.stringOp,hsz];rw [if_neg (by simp only [IntKind.max_i64];omega)];simp
  ·simp only [Rel];congr 1
 case eql=>exact ⟨_,_,by simp [Op.stringOp,FJ];rfl,h,by simp [Rel,LL]⟩
 case neq=>exact ⟨_,_,by simp [Op.stringOp,FJ];rfl,h,by simp [Rel,LL]⟩
 case lss=>exact ⟨_,_,by simp [Op.stringOp,FJ];rfl,h,by simp [Rel]⟩
 case leq=>exact ⟨_,_,by simp [Op.stringOp,FJ];rfl,h,by simp [Rel,LL]⟩
 case gtr=>exact ⟨_,_,by simp [Op.stringOp,FJ];rfl,h,by simp [Rel,LL]⟩
 case geq=>exact ⟨_,_,by simp [Op.stringOp,FJ];rfl,h,by simp [Rel]⟩
theorem Df (t:TypeId) (v u:Value):Op.equal t v u=Op.equalIn (9999+1) t v u:=rfl
theorem JA {op:BinOp} {t:TypeId} {v u:Value} {r:Bool} {K:AA->Prop} (hb:binOp .eql t v u=(do pure (.bool (<-Op.equal t v u)))/\binOp .neq t v u=(do pure (.bool (!(<-Op.equal t v u)))))
  (hr:(Op.equal t v u).run P w= .ok r w) (h:W6 op r K): ∃v' z,(binOp op t v u).run P w= .ok v' w/\K z/\Rel E fz w z v':=by
 rcases rA h with ⟨rfl,hk⟩ | ⟨rfl,hk⟩
 ·exact ⟨.bool r,_,by rw [hb.1];simp [hr],hk,by simp [Rel]⟩
 ·exact ⟨.bool (!r),_,by rw [hb.2];simp [hr],hk,by simp [Rel]⟩
end
section
variable {P : Program}
theorem na (w:World) (d:Nat) {t:TypeId} {e:TypeId} (ht:P.underlying t=some (.pointer e)):(Op.equalIn (d+1) t (.pointer none) (.pointer none)).run P w= .ok true w:=by
 simp [Op.equalIn,run_underlying ht]
theorem Yl (w:World) (d:Nat) {t:TypeId} {e:TypeId} {x:Addr} (ht:P.underlying t=some (.pointer e)):(Op.equalIn (d+1) t (.pointer (some x)) (.pointer none)).run P w= .ok false w:=by
 simp [Op.equalIn,run_underlying ht]
theorem Yk (w:World) (d:Nat) {t:TypeId} {e:TypeId} {x:Addr} (ht:P.underlying t=some (.pointer e)):(Op.equalIn (d+1) t (.pointer none) (.pointer (some x))).run P w= .ok false w:=by
 simp [Op.equalIn,run_underlying ht]
theorem tm (w:World) (d:Nat) {t:TypeId} {e1 e2:Array TypeId} {e3:Bool} (ht:P.underlying t=some (.func e1 e2 e3)):(Op.equalIn (d+1) t (.nilFunc) (.nilFunc)).run P w= .ok true w:=by
 simp [Op.equalIn,run_underlying ht]
theorem tn (w:World) (d:Nat) {t:TypeId} {e1 e2:Array TypeId} {e3:Bool} {f:Fn} {x y:Array Value} (ht:P.underlying t=some (.func e1 e2 e3)):(Op.equalIn (d+1) t (.func f x y) (.nilFunc)).run P w= .ok false w:=by
 simp [Op.equalIn,run_underlying ht]
theorem tp (w:World) (d:Nat) {t:TypeId} {e1 e2:TypeId} (ht:P.underlying t=some (.map e1 e2)):(Op.equalIn (d+1) t (.map none) (.map none)).run P w= .ok true w:=by
 simp [Op.equalIn,run_underlying ht]
theorem tq (w:World) (d:Nat) {t:TypeId} {e1 e2:TypeId} {b:Nat} (ht:P.underlying t=some (.map e1 e2)):(Op.equalIn (d+1) t (.map (some b)) (.map none)).run P w= .ok false w:=by
 simp [Op.equalIn,run_underlying ht]
end
section
variable {P : Program} {E : Env} {fz : Nat -> Prop} {S : AB} {w : World} {F : Frame} {a : Act} {K : AA -> AB -> Prop} {ro : Bool}
theorem Gh {t:TypeId} {q:jm} (hq:rB P t=some q):match q with
  | .ptr=> ∃e,P.underlying t=some (.pointer e)
  | .func=> ∃e1 e2 e3,P.underlying t=some (.func e1 e2 e3)
  | .map=> ∃e1 e2,P.underlying t=some (.map e1 e2)
  | _=>True:=by
 unfold rB at hq;split at hq
 case h_4 e hu=>
  split at hq
  ·cases hq;exact ⟨e,hu⟩
  ·cases hq
 case h_5 fs hu=>
  split at hq
  ·split at hq
   ·cases hq;trivial
   ·cases hq
  ·cases hq
 case h_6 e1 e2 e3 hu=>cases hq;exact ⟨e1,e2,e3,hu⟩
 case h_7 e1 e2 hu=>cases hq;exact ⟨e1,e2,hu⟩
 all_goals cases hq
 all_goals trivial
theorem j6 (st:St E fz S w) (hF:B3 E fz w F a.tmps) {o:Oper} {op:BinOp} {t u:TypeId} {x y:Operand} {rx ry:AL} {q:jm} (ho:o.op= .binOp op t x y u) (hq:rB P t=some q) (hx:Ac x=some rx) (hy:Ac y=some ry)
  (h:AF P F S K (.bin q op rx ry)):Aj P ((execOp a.eval o).run P w) (B_ K E fz S w):=by
 have h1:=Ab hF hx;have h2:=Ab hF hy;simp only [AF,AD] at h;generalize rd F rx=X at*;generalize rd F ry=Y at*;have fin: ∀ {v z},(eqGuard op t x y (a.eval x) (a.eval y)).run P w= .ok () w->(binOp op t (a.eval x) (a.eval y)).run P w= .ok v w->K z S->Rel E fz w z v->Aj P ((execOp a.eval o).run P w) (B_ K E fz S w):=fun {v z} hg hr hk hrel=>
  Ai st (by simp [execOp,ho,hg,hr]) hk hrel
 have guard: ∀ {v u:Value},a.eval x=v->a.eval y=u->(∀d,v≠ .nilIface/\v≠ .agg d)->(eqGuard op t x y (a.eval x) (a.eval y)).run P w= .ok () w:=fun {v u} e1 e2 hne=>by
  rw [e1,e2];have:eqGuard op t x y v u=pure ():=by
   cases v<;>first | (cases op<;>rfl) | exact ((hne #[]).1 rfl).elim | (rename_i cs;exact ((hne cs).2 rfl).elim)
  rw [this];exact Sem.run_pure P w ()
 cases X<;>cases Y<;>simp only [GS] at h<;>first | exact h.elim | skip
 case int.int k n k' m=>
  simp only [Rel] at h1 h2;have hg:=guard h1 h2 (fun d=>⟨by simp,by simp⟩);rw [h1,h2] at fin hg;have shl:op= .shl-> ∃v z,(binOp op t (.int k n) (.int k' m)).run P w= .ok v w/\K z S/\Rel E fz w z v:=fun e=>by
   subst e;simp only at h;obtain ⟨z,g1,g2⟩:=Mi (E:=E) (fz:=fz) (w:=w) h.2;exact ⟨_,z,by rw [binOp_shl];simp [Op.shift,Int.not_lt.2 h.1],g1,g2⟩
  have shr:op= .shr-> ∃v z,(binOp op t (.int k n) (.int k' m)).run P w= .ok v w/\K z S/\Rel E fz w z v:=fun e=>by
   subst e;simp only at h;exact ⟨_,_,by rw [binOp_shr];simp [Op.shift,Int.not_lt.2 h.1];rfl,h.2,by simp [Rel]⟩
  have rest:op≠ .shl->op≠ .shr-> ∃v z,(binOp op t (.int k n) (.int k' m)).run P w= .ok v w/\K z S/\Rel E fz w z v:=fun e1 e2=>by
   have h':k=k'/\IJ op k n m fun r=>K r S:=by cases op<;>first | exact h | exact (e1 rfl).elim | exact (e2 rfl).elim
   obtain ⟨rfl,h'⟩:=h';exact qd h'
  by_cases e1:op= .shl
  ·obtain ⟨v,z,g1,g2,g3⟩:=shl e1;exact fin hg g1 g2 g3
  ·by_cases e2:op= .shr
   ·obtain ⟨v,z,g1,g2,g3⟩:=shr e2;exact fin hg g1 g2 g3
   ·obtain ⟨v,z,g1,g2,g3⟩:=rest e1 e2;exact fin hg g1 g2 g3
 case str.str n m=>
  simp only [Rel] at h1 h2;have hg:=guard h1 h2 (fun d=>⟨by simp,by simp⟩);obtain ⟨v,z,g1,g2,g3⟩:=qe (P:=P) (E:=E) (fz:=fz) (w:=w) (t:=t) h;exact fin hg (by rw [h1,h2];exact g1) g2 g3
 case bool.bool n m=>
  simp only [Rel] at h1 h2;have hg:=guard h1 h2 (fun d=>⟨by simp,by simp⟩);cases q<;>simp only at h;have ht:P.underlying t=some .bool:=by
   unfold rB at hq;split at hq<;>first | assumption | (cases hq;done) | skip
   all_goals (split at hq<;>first | (cases hq;done) | (split at hq<;>cases hq))
  obtain ⟨v,z,g1,g2,g3⟩:=JA (P:=P) (E:=E) (fz:=fz) (w:=w) (t:=t) (v:= .bool n) (u:= .bool m) (r:=n == m) ⟨rfl,rfl⟩ (by rw [Df,run_equalIn_bool' w _ t n m ht]) (K:=fun r=>K r S) (by rw [aC];exact h);exact fin hg (by rw [h1,h2];exact g1) g2 g3
 case agg.agg xs ys=>
  simp only [Rel] at h1 h2;obtain ⟨vs,e1,hl1,_⟩:=h1;obtain ⟨us,e2,hl2,_⟩:=h2;cases q<;>simp only at h;rename_i ks;have ht: ∃fs:Array Field,P.underlying t=some (.struct fs)/\Fw P 0 fs.toList=some ks/\P.stoodInHeld t=false/\P.eqGuardType P.depth t=false:=by
   unfold rB at hq;split at hq
   case h_5 fs hu=>
    split at hq
    ·rename_i ks' hk;split at hq
     ·rename_i hc;cases hq;simp only [Bool.and_eq_true,Bool.not_eq_true'] at hc;exact ⟨fs,hu,hk,hc.1,hc.2⟩
     ·cases hq
    ·cases hq
   all_goals first | (cases hq;done) | (split at hq<;>cases hq)
  obtain ⟨fs,hu,hk,hp,hm⟩:=ht;have hfo:P.fieldsOf t=fs:=by simp [Program.fieldsOf,hu]
  have key: ∃r,(Op.equal t (.agg vs.toArray) (.agg us.toArray)).run P w= .ok r w/\W6 op r fun r=>K r S:=by
   obtain ⟨r,q1,q2⟩:=Re (P:=P) (E:=E) (fz:=fz) (w:=w) 9997 fs.toList ks 0 xs ys vs us vs us hk hl1 hl2 (fun i v h=>by simpa using h) (fun i v h=>by simpa using h) h;refine ⟨r,?_,q2⟩;rw [Df,run_equalIn_struct w 9999 t _ _ (by rw [hfo];exact hu) hp,hfo];exact q1
  obtain ⟨r,q1,q2⟩:=key;obtain ⟨v,z,g1,g2,g3⟩:=JA (P:=P) (E:=E) (fz:=fz) (w:=w) (t:=t) ⟨rfl,rfl⟩ q1 q2;exact fin (by rw [e1,e2];exact run_eqGuard_agg w op t x y _ _ hm) (by rw [e1,e2];exact g1) g2 g3
 case Bp.Bp=>
  cases q<;>simp only at h;obtain ⟨e,ht⟩:=Gh hq;simp only [Rel] at h1 h2;obtain ⟨v,z,g1,g2,g3⟩:=JA (P:=P) (E:=E) (fz:=fz) (w:=w) (t:=t) (v:= .pointer none) (u:= .pointer none) ⟨rfl,rfl⟩ (by rw [Df];exact na w 9999 ht) h;exact fin (guard h1 h2 (fun d=>⟨by simp,by simp⟩)) (by rw [h1,h2];exact g1) g2 g3
 case ptr.Bp=>
  cases q<;>simp only at h;obtain ⟨e,ht⟩:=Gh hq;simp only [Rel] at h1 h2;obtain ⟨b,base,cap,k,_,h1⟩:=h1;obtain ⟨v,z,g1,g2,g3⟩:=JA (P:=P) (E:=E) (fz:=fz) (w:=w) (t:=t) (v:= .pointer (some ⟨b,_,none⟩)) (u:= .pointer none) ⟨rfl,rfl⟩ (by rw [Df];exact Yl w 9999 ht) h;exact fin (guard h1 h2 (fun d=>⟨by simp,by simp⟩)) (by rw [h1,h2];exact g1) g2 g3
 case Bp.ptr=>
  cases q<;>simp only at h;obtain ⟨e,ht⟩:=Gh hq;simp only [Rel] at h1 h2;obtain ⟨b,base,cap,k,_,h2⟩:=h2;obtain ⟨v,z,g1,g2,g3⟩:=JA (P:=P) (E:=E) (fz:=fz) (w:=w) (t:=t) (v:= .pointer none) (u:= .pointer (some ⟨b,_,none⟩)) ⟨rfl,rfl⟩ (by rw [Df];exact Yk w 9999 ht) h;exact fin (guard h1 h2 (fun d=>⟨by simp,by simp⟩)) (by rw [h1,h2];exact g1) g2 g3
 case Fm.Bp=>
  cases q<;>simp only at h;obtain ⟨e,ht⟩:=Gh hq;simp only [Rel] at h1 h2;obtain ⟨b,off,_,h1,_⟩:=h1;obtain ⟨v,z,g1,g2,g3⟩:=JA (P:=P) (E:=E) (fz:=fz) (w:=w) (t:=t) (v:= .pointer (some ⟨b,off,none⟩)) (u:= .pointer none) ⟨rfl,rfl⟩ (by rw [Df];exact Yl w 9999 ht) h;exact fin (guard h1 h2 (fun d=>⟨by simp,by simp⟩)) (by rw [h1,h2];exact g1) g2 g3
 case Bp.Fm=>
  cases q<;>simp only at h;obtain ⟨e,ht⟩:=Gh hq;simp only [Rel] at h1 h2;obtain ⟨b,off,_,h2,_⟩:=h2;obtain ⟨v,z,g1,g2,g3⟩:=JA (P:=P) (E:=E) (fz:=fz) (w:=w) (t:=t) (v:= .pointer none) (u:= .pointer (some ⟨b,off,none⟩)) ⟨rfl,rfl⟩ (by rw [Df];exact Yk w 9999 ht) h;exact fin (guard h1 h2 (fun d=>⟨by simp,by simp⟩)) (by rw [h1,h2];exact g1) g2 g3
 case H8.H8=>
  cases q<;>simp only at h;obtain ⟨e,e2,e3,ht⟩:=Gh hq;simp only [Rel] at h1 h2;obtain ⟨v,z,g1,g2,g3⟩:=JA (P:=P) (E:=E) (fz:=fz) (w:=w) (t:=t) (v:= .nilFunc) (u:= .nilFunc) ⟨rfl,rfl⟩ (by rw [Df];exact tm w 9999 ht) h;exact fin (guard h1 h2 (fun d=>⟨by simp,by simp⟩)) (by rw [h1,h2];exact g1) g2 g3
 case fn.H8 f0 _ _=>
  cases q<;>simp only at h;obtain ⟨e,e2,e3,ht⟩:=Gh hq;simp only [Rel] at h1 h2;obtain ⟨vs,us,h1,_,_⟩:=h1;obtain ⟨v,z,g1,g2,g3⟩:=JA (P:=P) (E:=E) (fz:=fz) (w:=w) (t:=t) (v:= .func f0 vs.toArray us.toArray) (u:= .nilFunc) ⟨rfl,rfl⟩ (by rw [Df];exact tn w 9999 ht) h;exact fin (guard h1 h2 (fun d=>⟨by simp,by simp⟩)) (by rw [h1,h2];exact g1) g2 g3
 case H9.H9=>
  cases q<;>simp only at h;obtain ⟨e,e2,ht⟩:=Gh hq;simp only [Rel] at h1 h2;obtain ⟨v,z,g1,g2,g3⟩:=JA (P:=P) (E:=E) (fz:=fz) (w:=w) (t:=t) (v:= .map none) (u:= .map none) ⟨rfl,rfl⟩ (by rw [Df];exact tp w 9999 ht) h;exact fin (guard h1 h2 (fun d=>⟨by simp,by simp⟩)) (by rw [h1,h2];exact g1) g2 g3
 case map.H9=>
  cases q<;>simp only at h;obtain ⟨e,e2,ht⟩:=Gh hq;simp only [Rel] at h1 h2;obtain ⟨b,_,h1⟩:=h1;obtain ⟨v,z,g1,g2,g3⟩:=JA (P:=P) (E:=E) (fz:=fz) (w:=w) (t:=t) (v:= .map (some b)) (u:= .map none) ⟨rfl,rfl⟩ (by rw [Df];exact tq w 9999 ht) h;exact fin (guard h1 h2 (fun d=>⟨by simp,by simp⟩)) (by rw [h1,h2];exact g1) g2 g3
end
end Go.Vc
end
section
namespace Go.Vc
section
variable {P : Program} {E : Env} {fz : Nat -> Prop} {S : AB} {w : World} {F : Frame} {a : Act} {K : AA -> AB -> Prop} {ro : Bool}
theorem Cv (st:St E fz S w) {o:Oper} {v:Value} {w':World} (h:(execOp a.eval o).run P w= .ok (.value v) w') (hp:B_ K E fz S w v w'):
  Aj P ((execOp a.eval o).run P w) (B_ K E fz S w):=by rw [h];exact hp
theorem Gq {t:TypeId} {i:TypeInfo} (h:P.info? t=some i) (w:World):(typeInfo t).run P w= .ok i w:=by
 simp [typeInfo,h]
theorem DQ {t:TypeId} {n:Nat} (h:B2 P t=some n) (w:World):(sizeOf t).run P w= .ok n w:=by
 unfold B2 at h;split at h
 ·rename_i i hi;cases h;simp [sizeOf,Gq hi]
 ·cases h
theorem Np {t:TypeId} {z:List AA} (h:HS P t=some z) (w:World): ∃v:Value,(zeroValue t).run P w= .ok v w/\(∀E fz w,AZ E fz w z v.cells.toList)/\ ∀c∈v.cells.toList,c.oneCell'=true:=by
 unfold HS at h;split at h
 ·rename_i i hi;split at h
  ·rename_i v hv;exact ⟨v,by simp [zeroValue,Gq hi,hv],fun E fz w=>(Jm h).1,(Jm (E:=fun _=>none) (fz:=fun _=>False) (w:=w) h).2⟩
  ·cases h
 ·cases h
theorem HR {t:TypeId} {u:TypeDesc} (h:P.underlying t=some u) (w:World):(isAgg t).run P w= .ok (G8 u) w:=by
 simp only [isAgg,Sem.run_bind,run_underlying h,Result.andThen_ok];cases u<;>rfl
theorem S6 (st:St E fz S w) {cs:List AA} {v:Value} {T:TypeId} {k:Nat} (hr:AZ E fz w cs v.cells.toList) (h1: ∀c∈v.cells.toList,c.oneCell'=true)
  (h: ∀ver,K (.ptr S.length ver 0) (S++[.row ver k cs])):B_ K E fz S w (.pointer (some ⟨w.heap.size,0,none⟩)) (w.alloc (.cells v.cells T)):=by
 obtain ⟨ver,E',g1,g2,g3⟩:=Kf (w':=w.alloc (.cells v.cells T)) st (rest:=[]) (T:=T) k hr h1 (by rw [List.append_nil];rfl) rfl rfl (Tp.of rfl (Nat.le_refl _));refine ⟨.ptr S.length ver 0,_,E',fz,h ver,g3,g2,?_⟩;simp only [Rel];exact ⟨_,_,_,_,g1,rfl⟩
theorem Zx (st:St E fz S w) {o:Oper} {t:TypeId} {z:List AA} {k:Nat} (ho:o.op= .alloc t) (hz:HS P t=some z)
  (h:AF P F S K (.alloc k z)):Aj P ((execOp a.eval o).run P w) (B_ K E fz S w):=by
 simp only [AF,Av] at h;obtain ⟨v,g1,g2,g3⟩:=Np hz w;exact Cv st (by simp [execOp,ho,Instr.alloc,g1,newVar,newRow];rfl) (S6 st (g2 E fz w) g3 h)
theorem j7 (st:St E fz S w) (hF:B3 E fz w F a.tmps) {o:Oper} {t:TypeId} {x:Operand} {r:AL} {k:Nat} (ho:o.op= .box t x) (hx:Ac x=some r)
  (h:AF P F S K (.box k r)):Aj P ((execOp a.eval o).run P w) (B_ K E fz S w):=by
 simp only [AF,AD,Av] at h;obtain ⟨cs,h1,h2,h3⟩:=Px h (Ab hF hx);exact Cv st (by simp [execOp,ho,Instr.box,newVar,newRow];rfl) (S6 st h2 h3 h1)
theorem SQ (st:St E fz S w) {n:Nat} {ag:Bool} {x:AA} {v:Value} {Q:AA->Prop} (h:ID S n ag x Q) (hr:Rel E fz w x v):
  ∃b off,v= .pointer (some ⟨b,off,none⟩)/\ ∃(xs:List AA) (vs:List Value),xs.length=n/\AZ E fz w xs vs/\(∀c∈vs,c.oneCell'=true)/\
   (loadCells ⟨b,off,none⟩ n).run P w= .ok vs.toArray w/\(∀(j:Nat) v,vs[j]?=some v->w.cell? ⟨b,off+j,none⟩=some v)/\K5 ag xs Q:=by
 have fin: ∀ {b off:Nat} {cs xs:List AA},CR E fz w b off cs->takeN n cs=some xs->K5 ag xs Q-> ∃(xs:List AA) (vs:List Value),xs.length=n/\AZ E fz w xs vs/\(∀c∈vs,c.oneCell'=true)/\
   (loadCells ⟨b,off,none⟩ n).run P w= .ok vs.toArray w/\(∀(j:Nat) v,vs[j]?=some v->w.cell? ⟨b,off+j,none⟩=some v)/\K5 ag xs Q:=fun {b off cs xs} hc ht hk=>by
  obtain ⟨e,hl⟩:=Lr ht;have hlen:xs.length=n:=by rw [e];simp;omega
  have hc':CR E fz w b off xs:=e▸hc.take n;obtain ⟨vs,g1,g2,g3,g4⟩:=Nn (P:=P) hc';rw [hlen] at g3;exact ⟨xs,vs,hlen,g1,g2,g3,g4,hk⟩
 cases x<;>simp only [ID] at h
 case ptr l ver off=>
  obtain ⟨k,cs,hl,h⟩:=AN.1 h;have h': ∃xs,takeN n (cs.drop off)=some xs/\K5 ag xs Q:=by
   cases k with
   | zero=>simpa only [CT,DW] using h
   | succ k=>exact h
  obtain ⟨xs,ht,hk⟩:=h';simp only [Rel] at hr;obtain ⟨b,base,cap,kk,hE,rfl⟩:=hr;refine ⟨b,base+off,rfl,?_⟩;rcases st.ok l _ hl with ⟨g1,g2⟩ | ⟨b',base',cap',arr,T,lo,hi,g1,g2,g3,g4,g5,g6,g7⟩
  ·rw [hE] at g1;cases g1
  ·rw [hE] at g1;cases g1;exact fin (g6.drop off) ht hk
 case Fm cs=>
  simp only [DW] at h;obtain ⟨xs,ht,hk⟩:=h;simp only [Rel] at hr;obtain ⟨b,off,_,rfl,hc⟩:=hr;exact ⟨b,off,rfl,fin hc ht hk⟩
theorem fc (st:St E fz S w) (hF:B3 E fz w F a.tmps) {o:Oper} {t:TypeId} {x:Operand} {r:AL} {i:TypeInfo} {u:TypeDesc} (ho:o.op= .load t x) (hi:P.info? t=some i) (hu:P.underlying t=some u) (hx:Ac x=some r)
  (h:AF P F S K (if G8 u then .load i.size true r else .load 1 false r)):Aj P ((execOp a.eval o).run P w) (B_ K E fz S w):=by
 have hr:=Ab hF hx;cases hag:G8 u
 ·rw [hag] at h;simp only [Bool.false_eq_true,if_false,AF,AD] at h;obtain ⟨b,off,e,xs,vs,g1,g2,g3,g4,g5,hk⟩:=SQ (P:=P) st h hr;rcases Ho.1 hk with ⟨h0,_⟩ | ⟨_,y,rfl,hk⟩
  ·cases h0
  ·simp only [AZ] at g2;obtain ⟨v,us,rfl,hv,rfl⟩:=g2;have hc:=g5 0 v rfl;refine Ai st (v:=v) ?_ hk hv;simp [execOp,ho,e,Instr.loadAt,Instr.sureAddr,loadVar,HR hu,hag,hc];simpa using hc▸rfl
 ·rw [hag] at h;simp only [if_true,AF,AD] at h;obtain ⟨b,off,e,xs,vs,g1,g2,g3,g4,g5,hk⟩:=SQ (P:=P) st h hr;rcases Ho.1 hk with ⟨_,hk⟩ | ⟨h0,_⟩
  ·refine Ai st (v:= .agg vs.toArray) ?_ hk ?_
   ·simp [execOp,ho,e,Instr.loadAt,Instr.sureAddr,loadVar,HR hu,hag,sizeOf,Gq hi,g4]
   ·simp only [Rel];exact ⟨vs,rfl,g2,g3⟩
  ·cases h0
theorem dQ (st:St E fz S w) (hF:B3 E fz w F a.tmps) {o:Oper} {t:TypeId} {x y:Operand} {rx ry:AL} {n:Nat} (ho:o.op= .store t x y) (hn:B2 P t=some n) (h0:n≠0) (hx:Ac x=some rx) (hy:Ac y=some ry)
  (h:AF P F S K (.store n rx ry)):Aj P ((execOp a.eval o).run P w) (B_ K E fz S w):=by
 have hr1:=Ab hF hx;have hr2:=Ab hF hy;simp only [AF,AD] at h;generalize rd F rx=X at*;cases X<;>first | exact h.elim | skip
 case ptr l ver off=>
  simp only at h;obtain ⟨k,cs,hl,h⟩:=AN.1 h;obtain ⟨ys,⟨hlen,hfit,hk⟩,hys,hone⟩:=Px h hr2;simp only [FA,CQ] at hk;simp only [Rel] at hr1;obtain ⟨b,base,cap,kk,hE,e⟩:=hr1;obtain ⟨w',q1,q2,q3⟩:=Xl (P:=P) (off:=off) st hl (by omega) (fun e=>by subst e;simp at hlen;omega) hys hone hE;have hsz:(a.eval y).cells.size=n:=by have:=hys.length;simp at this;omega
  have hrun:(execOp a.eval o).run P w= .ok .skip w':=by
   simp [execOp,ho,e,Instr.storeAt,Instr.sureAddr,storeVar,DQ hn,hsz,q1]
  rw [hrun];exact ⟨.Ci,_,E,fz,hk.2,q3,q2,by simp [Rel]⟩
theorem aw (st:St E fz S w) (hF:B3 E fz w F a.tmps) {o:Oper} {s:TypeId} {x:Operand} {r:AL} {f n:Nat} {fs:Array Field} {fd:Field} (ho:o.op= .fieldAddr s x f) (hs:P.underlying s=some (.struct fs)) (hf:fs[f]?=some fd) (hn:B2 P fd.type=some (n+1)) (hx:Ac x=some r)
  (h:AF P F S K (.DJ fd.offset r)):Aj P ((execOp a.eval o).run P w) (B_ K E fz S w):=by
 have hr:=Ab hF hx;simp only [AF,AD] at h;generalize rd F r=X at*;have go: ∀ {b off:Nat} {y:AA},a.eval x= .pointer (some ⟨b,off,none⟩)->K y S->Rel E fz w y (.pointer (some ⟨b,off+fd.offset,none⟩))->Aj P ((execOp a.eval o).run P w) (B_ K E fz S w):=fun {b off y} e hk hrel=>by
  refine Ai st ?_ hk hrel;simp [execOp,ho,Instr.fieldAt,run_underlying hs,hf,e,Instr.sureAddr,fieldPlace,DQ hn,Hc]
 cases X<;>first | exact h.elim | skip
 case ptr l ver off=>
  simp only [Rel] at hr;obtain ⟨b,base,cap,k,hE,e⟩:=hr;exact go e h (by simp only [Rel];exact ⟨b,base,cap,k,hE,by rw [Nat.add_assoc]⟩)
 case Fm cs=>
  simp only [CT] at h;simp only [Rel] at hr;obtain ⟨b,off,hb,e,hc⟩:=hr;exact go e h (by simp only [Rel];exact ⟨b,off+fd.offset,hb,rfl,hc.drop _⟩)
theorem ax (st:St E fz S w) (hF:B3 E fz w F a.tmps) {o:Oper} {s:TypeId} {x:Operand} {r:AL} {f n:Nat} {fs:Array Field} {fd:Field} {u:TypeDesc} (ho:o.op= .field s x f) (hs:P.underlying s=some (.struct fs)) (hf:fs[f]?=some fd) (hu:P.underlying fd.type=some u) (hn:B2 P fd.type=some n) (hx:Ac x=some r)
  (h:AF P F S K (if G8 u then .field fd.offset n true r else .field fd.offset 1 false r)):Aj P ((execOp a.eval o).run P w) (B_ K E fz S w):=by
 have hr:=Ab hF hx;cases hag:G8 u
 ·rw [hag] at h;simp only [Bool.false_eq_true,if_false,AF,AD] at h;generalize rd F r=X at*;cases X<;>first | exact h.elim | skip
  simp only [CT,DW] at h;obtain ⟨xs,ht,hk⟩:=h;rcases Ho.1 hk with ⟨h0,_⟩ | ⟨_,y,rfl,hk⟩
  ·cases h0
  ·simp only [Rel] at hr;obtain ⟨vs,e,hl,hone⟩:=hr;obtain ⟨e2,hle⟩:=Lr ht;rename_i cs _ _;have hy:cs[fd.offset]?=some y:=by
    have:=congrArg (·[0]?) e2;simp [List.getElem?_take,List.getElem?_drop] at this;exact this.symm
   obtain ⟨v,hv,hrel⟩:=hl.get hy;exact Ai st (by simp [execOp,ho,Instr.field,run_underlying hs,hf,e,asAgg,part,HR hu,hag,hv]) hk hrel
 ·rw [hag] at h;simp only [if_true,AF,AD] at h;generalize rd F r=X at*;cases X<;>first | exact h.elim | skip
  simp only [CT,DW] at h;obtain ⟨xs,ht,hk⟩:=h;rcases Ho.1 hk with ⟨_,hk⟩ | ⟨h0,_⟩
  ·simp only [Rel] at hr;obtain ⟨vs,e,hl,hone⟩:=hr;obtain ⟨e2,hle⟩:=Lr ht;refine Ai st (v:= .agg ((vs.drop fd.offset).take n).toArray) ?_ hk ?_
   ·simp [execOp,ho,Instr.field,run_underlying hs,hf,e,asAgg,part,HR hu,hag,DQ hn]
   ·simp only [Rel];exact ⟨_,rfl,e2▸(hl.drop _).take _,fun c hc=>hone c (List.mem_of_mem_drop (List.mem_of_mem_take hc))⟩
  ·cases h0
end
end Go.Vc
end
section
namespace Go.Vc
def PM (x y:AA):Prop:= ∀E fz w v,Rel E fz w x v->Rel E fz w y v
inductive Zq:List AA->List AA->Prop
 | nil:Zq [] []
 | cons {x y:AA} {xs ys:List AA} (h:PM x y) (hs:Zq xs ys):Zq (x::xs) (y::ys)
inductive mO:Ob->Ob->Prop
 | refl (o:Ob):mO o o
 | dead (o:Ob):mO o .dead
 | row {v k:Nat} {cs ds:List AA} (h:Zq cs ds):mO (.row v k cs) (.row v k ds)
 | Vy {v k:Nat} {cs:List AA} (n:Nat):mO (.row v k cs) (.row v k (cs.take n))
theorem PM.refl (x:AA):PM x x:=fun _ _ _ _ h=>h
theorem PM.sl {l l' v o n:Nat}:PM (.sl l v o n) (.sl l' v o n):=fun _ _ _ _ h=>by simpa [Rel] using h
theorem PM.ptr {l l' v o:Nat}:PM (.ptr l v o) (.ptr l' v o):=fun _ _ _ _ h=>by simpa [Rel] using h
theorem PM.map {l l' v:Nat}:PM (.map l v) (.map l' v):=fun _ _ _ _ h=>by simpa [Rel] using h
theorem PM.Ci {x:AA}:PM x .Ci:=fun _ _ _ _ h=>by simp [Rel]
theorem Zq.refl: ∀(xs:List AA),Zq xs xs
 | []=>.nil
 | x::xs=>.cons (.refl x) (Zq.refl xs)
theorem Zq.rel {xs ys:List AA} (h:Zq xs ys) {E:Env} {fz:Nat->Prop} {w:World} {vs:List Value} (hr:AZ E fz w xs vs):AZ E fz w ys vs:=by
 induction h generalizing vs with
 | nil=>exact hr
 | cons h _ ih=>
  simp only [AZ] at*;obtain ⟨v,us,rfl,h1,h2⟩:=hr;exact ⟨v,us,rfl,h _ _ _ _ h1,ih h2⟩
theorem Zq.we {xs ys:List AA} (h:Zq xs ys) {E:Env} {fz:Nat->Prop} {w:World} {b off:Nat} (hr:CR E fz w b off xs):CR E fz w b off ys:=by
 induction h generalizing off with
 | nil=>exact hr
 | cons h _ ih=>
  simp only [CR] at*;obtain ⟨⟨c,h1,h2,h3⟩,h4⟩:=hr;exact ⟨⟨c,h1,h2,h _ _ _ _ h3⟩,ih h4⟩
theorem Zq.length {xs ys:List AA} (h:Zq xs ys):ys.length=xs.length:=by
 induction h with
 | nil=>rfl
 | cons _ _ ih=>simp [ih]
theorem PM.agg {xs ys:List AA} (h:Zq xs ys):PM (.agg xs) (.agg ys):=fun _ _ _ _ hr=>by
 simp only [Rel] at*;obtain ⟨vs,h1,h2,h3⟩:=hr;exact ⟨vs,h1,h.rel h2,h3⟩
theorem PM.DG {xs ys:List AA} (h:Zq xs ys):PM (.DG xs) (.DG ys):=fun _ _ _ _ hr=>by
 simp only [Rel] at*;obtain ⟨vs,h1,h2⟩:=hr;exact ⟨vs,h1,h.rel h2⟩
theorem mO.ok {o o':Ob} (h:mO o o') {E:Env} {fz:Nat->Prop} {w:World} (hr:P5 E fz w o):P5 E fz w o':=by
 cases h with
 | refl=>exact hr
 | dead=>trivial
 | row h=>
  rcases hr with ⟨h1,h0⟩ | ⟨b,base,cap,arr,T,lo,hi,h1,h2,h3,h4,h5,h6,h7⟩
  ·exact .inl ⟨h1,by have:=h.length;subst h0;exact List.length_eq_zero_iff.1 this⟩
  ·exact .inr ⟨b,base,cap,arr,T,lo,hi,h1,h2,h3,by rw [h.length];exact h4,h5,h.we h6,h7⟩
 | Vy n=>
  rcases hr with ⟨h1,h0⟩ | ⟨b,base,cap,arr,T,lo,hi,h1,h2,h3,h4,h5,h6,h7⟩
  ·exact .inl ⟨h1,by subst h0;simp⟩
  ·exact .inr ⟨b,base,cap,arr,T,lo,hi,h1,h2,h3,by simp only [List.length_take];omega,h5,h6.take n,h7⟩
theorem mO.block {o o':Ob} (h:mO o o') {E:Env} {b:Nat} (hb:AR E o'=some b):AR E o=some b:=by
 cases h with
 | refl=>exact hb
 | dead=>simp [AR] at hb
 | row h=>exact hb
 | Vy n=>exact hb
structure Sub (φ:Nat->Nat) (S' S:AB):Prop where
 inj: ∀l l',l<S'.length->l'<S'.length->φ l=φ l'->l=l'
 at_: ∀(l:Nat) o,S'[l]?=some o-> ∃o0,S[φ l]?=some o0/\mO o0 o
theorem Sub.own {φ:Nat->Nat} {S' S:AB} (h:Sub φ S' S) {E:Env} {l b:Nat} (ho:DH E S' l b):DH E S (φ l) b/\l<S'.length:=by
 obtain ⟨o,h1,h2⟩:=ho;obtain ⟨o0,g1,g2⟩:=h.at_ l o h1;exact ⟨⟨o0,g1,g2.block h2⟩,(List.getElem?_eq_some_iff.1 h1).1⟩
theorem Sub.nil {φ:Nat->Nat} {S:AB}:Sub φ [] S:=⟨fun l l' h=>absurd h (Nat.not_lt_zero _),fun l o h=>by simp at h⟩
theorem Sub.refl {S:AB}:Sub id S S:=⟨fun l l' _ _ h=>h,fun l o h=>⟨o,h,.refl o⟩⟩
section
variable {P : Program} {f : FuncId} {args : List AA}
theorem St.choose {E:Env} {fz:Nat->Prop} {S S':AB} {w:World} {φ:Nat->Nat} (st:St E fz S w) (h:Sub φ S' S):St E fz S' w where
 ok l o hl:=by
  obtain ⟨o0,g1,g2⟩:=h.at_ l o hl;exact g2.ok (st.ok _ _ g1)
 sep l l' b h1 h2:=by
  obtain ⟨g1,i1⟩:=h.own h1;obtain ⟨g2,i2⟩:=h.own h2;exact h.inj l l' i1 i2 (st.sep _ _ _ g1 g2)
 Fx:=st.Fx
 fresh:=st.fresh
theorem AU.Zm {S:AB} {R K:AA->AB->Prop} (h:AU P f args S R)
  (hK: ∀r S',R r S'-> ∃r' φ S'',PM r r'/\Sub φ S'' S'/\K r' S''):AU P f args S K:=by
 refine ⟨fun E fz w vals st hrel=>(h.out E fz w vals st hrel).mono fun e w' ⟨r,S',v,E',fz',h1,h2,h3,h4,h5⟩=>?_⟩
 ·obtain ⟨r',φ,S'',g1,g2,g3⟩:=hK r S' h5;exact ⟨r',S'',v,E',fz',h1,⟨h2.env,h2.WI,h2.Gi,h2.AW,fun b ⟨l,hb⟩=>h2.own b ⟨_,(g2.own hb).1⟩,h2.size,h2.os,h2.output,h2.tape⟩,h3.choose g2,g1 _ _ _ _ h4,g3⟩
theorem AU.Yo {S:AB} {R K:AA->AB->Prop} (h:AU P f args [] R)
  (hK: ∀r S',R r S'-> ∃r' φ S'',PM r r'/\Sub φ S'' S'/\K r' (S++S'')):AU P f args S K:=by
 refine ⟨fun E fz w vals st hrel=>?_⟩;have st0:St E fz [] w:=⟨fun l o h=>by simp at h,fun l l' b ⟨o,h,_⟩=>by simp at h,st.Fx,st.fresh⟩
 have no: ∀b,¬Own E [] b:=fun b ⟨l,o,h,_⟩=>by simp at h
 refine (h.out E fz w vals st0 hrel).mono fun e w' ⟨r,S',v,E',fz',h1,h2,h3,h4,h5⟩=>?_;obtain ⟨r',φ,S'',g1,g2,g3⟩:=hK r S' h5;have st2:=h3.choose g2;have kp: ∀l b,DH E S l b->w'.heap[b]?=w.heap[b]?/\ ¬fz' b:=fun l b ho=>by
  have hlt:=st.EU ho;refine ⟨h2.AW b hlt.1 (no b),fun hf=>?_⟩;rcases h2.Gi b hf with q | q | q
  ·exact hlt.2 q
  ·exact no b q
  ·omega
 have fk: ∀b,fz b->w'.heap[b]?=w.heap[b]?:=fun b hb=>h2.AW b (st.Fx b hb) (no b);have new: ∀l b,DH E' S'' l b->w.heap.size<=b:=fun l b ho=>by
  rcases h2.own b ⟨_,(g2.own ho).1⟩ with q | q
  ·exact absurd q (no b)
  ·exact q
 have split: ∀l b,DH E' (S++S'') l b->(l<S.length/\DH E S l b)\/(S.length<=l/\DH E' S'' (l-S.length) b):=fun l b ⟨o,q1,q2⟩=>by
  by_cases hl:l<S.length
  ·rw [List.getElem?_append_left hl] at q1;exact .inl ⟨hl,o,q1,by rw [<-(st.ok l o q1).block h2.env];exact q2⟩
  ·rw [List.getElem?_append_right (by omega)] at q1;exact .inr ⟨by omega,o,q1,q2⟩
 refine ⟨r',S++S'',v,E',fz',h1,⟨h2.env,h2.WI,fun b hb=>?_,fun b hb hn=>h2.AW b hb (no b),fun b ⟨l,hb⟩=>?_,h2.size,h2.os,h2.output,h2.tape⟩,⟨fun l o hl=>?_,fun l l' b q1 q2=>?_,h3.Fx,h3.fresh⟩,g1 _ _ _ _ h4,g3⟩
 ·rcases h2.Gi b hb with q | q | q
  ·exact .inl q
  ·exact absurd q (no b)
  ·exact .inr (.inr q)
 ·rcases split l b hb with ⟨_,q⟩ | ⟨_,q⟩
  ·exact .inl ⟨l,q⟩
  ·exact .inr (new _ _ q)
 ·by_cases hlt:l<S.length
  ·rw [List.getElem?_append_left hlt] at hl;exact (st.ok l o hl).mono h2.env h2.WI fk fun b hb=>kp l b ⟨o,hl,hb⟩
  ·rw [List.getElem?_append_right (by omega)] at hl;exact st2.ok _ _ hl
 ·rcases split l b q1 with ⟨a1,a2⟩ | ⟨a1,a2⟩<;>rcases split l' b q2 with ⟨b1,b2⟩ | ⟨b1,b2⟩
  ·exact st.sep _ _ _ a2 b2
  ·have:=(st.EU a2).1;have:=new _ _ b2;omega
  ·have:=(st.EU b2).1;have:=new _ _ a2;omega
  ·have:=st2.sep _ _ _ a2 b2;omega
end
theorem Sub.put {S:AB} {i:Nat} {o:Ob} (hi:i<S.length):Sub (fun l=>if l=i then S.length else l) (S.set i o) (S++[o]):=by
 refine ⟨fun l l' h1 h2 h=>?_,fun l o' h=>?_⟩
 ·simp only [List.length_set] at h1 h2;replace h:(if l=i then S.length else l)=(if l'=i then S.length else l'):=h;split at h<;>split at h<;>omega
 ·by_cases e:l=i
  ·subst e;rw [List.getElem?_set_self hi] at h;cases h;exact ⟨o,by simp,.refl o⟩
  ·rw [List.getElem?_set_ne (fun q=>e q.symm)] at h;refine ⟨o',?_,.refl o'⟩;show (S++[o])[if l=i then S.length else l]?=some o';rw [if_neg e,List.getElem?_append_left (List.getElem?_eq_some_iff.1 h).1,h]
theorem B_.sub {K K':AA->AB->Prop} {E:Env} {fz:Nat->Prop} {S:AB} {w:World} {v:Value} {w':World} (h:B_ K E fz S w v w')
  (hK: ∀r S',K r S'-> ∃r' φ S'',PM r r'/\Sub φ S'' S'/\K' r' S''):B_ K' E fz S w v w':=by
 obtain ⟨r,S',E',fz',h5,h2,h3,h4⟩:=h;obtain ⟨r',φ,S'',g1,g2,g3⟩:=hK r S' h5;exact ⟨r',S'',E',fz',g3,⟨h2.env,h2.WI,h2.Gi,h2.AW,fun b ⟨l,hb⟩=>h2.own b ⟨_,(g2.own hb).1⟩,h2.size,h2.os,h2.output,h2.tape⟩,h3.choose g2,g1 _ _ _ _ h4⟩
theorem Aj.mono {P:Program} {r:Result Next} {Φ Ψ:Value->World->Prop} (h:Aj P r Φ) (hm: ∀v w,Φ v w->Ψ v w):Aj P r Ψ:=by
 unfold Aj at h |-;split at h<;>first | exact hm _ _ h | exact h.elim | skip
 ·exact h.mono fun e w'' ⟨v,he,hv⟩=>⟨v,he,hm _ _ hv⟩
 ·exact RoundIn.mono h fun e w'' ⟨v,he,hv⟩=>⟨v,he,hm _ _ hv⟩
theorem AU.kept {P:Program} {f:FuncId} {args:List AA} {S:AB} {i k:Nat} {cs:List AA} {K:AA->AB->Prop} (hi:i<S.length)
  (h:AU P f args [] (fun r S'=> ∃v,r= .ptr 0 v 0/\S'=[.row v k cs])) (hK: ∀v,K (.ptr i v 0) (S.set i (.row v k cs))):AU P f args S K:=
 (h.Yo (K:=fun r S'=> ∃v,r= .ptr S.length v 0/\S'=S++[.row v k cs]) fun r S' ⟨v,e1,e2⟩=>⟨.ptr S.length v 0,id,[.row v k cs],e1▸ .ptr,e2▸ .refl,v,rfl,rfl⟩).Zm
  fun r S' ⟨v,e1,e2⟩=>by subst e1;subst e2;exact ⟨.ptr i v 0,_,_,.ptr,Sub.put hi,hK v⟩
end Go.Vc
end
end
