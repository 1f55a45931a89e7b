/- Part of the proof of enginePlays_holds: the whole is true of every input. Conditions: none. -/
import Derived.Calls
import Derived.Alone
import Derived.Laws.World
import Derived.Laws.Cells
import Derived.KernelRfl
import Derived.Lib.Bytealg
import Derived.Laws.StructEq
import Derived.Laws.Append
import Derived.Laws.Entries
import Derived.Laws.Slices
import Derived.Laws.Small
import Derived.Laws.Bits
import Derived.Laws.Strings
import Derived.OrdersIn
import Derived.Sort.LoopGhostIn
import Derived.RangeFuncIn
import Derived.RangeFuncRecord
import Derived.RangeFuncSeq
set_option linter.all false
section
section
namespace Go.Vc
inductive AA where
 | C3
 | tt
 | ff
 | bool (b:Bool)
 | int (k:IntKind) (n:Int)
 | str (s:List UInt8)
 | B4
 | ptr (l v off:Nat)
 | GX (cs:List AA)
 | AL
 | sl (l v off len:Nat)
 | Ez (len:Nat) (cs:List AA)
 | agg (cs:List AA)
 | DH (cs:List AA)
 | fn (f:Fn) (first cap:List AA)
 | I3
 | map (l v:Nat)
 | I4
 | iface (t:TypeId) (x:AA)
 | M8
 | bq (v:Value)
 deriving Inhabited
inductive Bk where
 | nil
 | real (b base cap k:Nat)
 | Xi (b:Nat)
abbrev Env:=Nat->Option Bk
mutual
def Rel (E:Env) (fz:Nat->Prop) (w:World):AA->Value->Prop
 | .C3,_=>True
 | .tt,v=>v= .bool true
 | .ff,v=>v= .bool false
 | .bool b,v=>v= .bool b
 | .int k n,v=>v= .int k n
 | .str s,v=>v= .string ⟨s.toArray⟩
 | .B4,v=>v= .pointer none
 | .ptr _ x off,v=> ∃b base cap k,E x=some (.real b base cap k)/\v= .pointer (some ⟨b,base+off,none⟩)
 | .GX cs,v=> ∃b off,fz b/\v= .pointer (some ⟨b,off,none⟩)/\Ck E fz w b off cs
 | .AL,v=>v= .slice none 0 0
 | .sl _ x off len,v=>(len=0/\ ∃a,v= .slice a 0 0)\/
   ∃b base cap k c,E x=some (.real b base cap k)/\len<=c/\off+c*k<=cap/\v= .slice (some ⟨b,base+off,none⟩) len c
 | .Ez len cs,v=>(len=0/\ ∃a c,v= .slice a 0 c)\/
   ∃b off c,fz b/\len<=c/\v= .slice (some ⟨b,off,none⟩) len c/\Ck E fz w b off cs
 | .agg cs,v=> ∃vs:List Value,v= .agg vs.toArray/\AZ E fz w cs vs/\ ∀c∈vs,c.oneCell'=true
 | .DH cs,v=> ∃vs:List Value,v= .tuple vs.toArray/\AZ E fz w cs vs
 | .fn f xs ys,v=> ∃vs us:List Value,v= .func f vs.toArray us.toArray/\AZ E fz w xs vs/\AZ E fz w ys us
 | .I3,v=>v= .nilFunc
 | .map _ x,v=> ∃b,E x=some (.Xi b)/\v= .map (some b)
 | .I4,v=>v= .map none
 | .iface t x,v=> ∃u,v= .iface t u/\Rel E fz w x u
 | .M8,v=>v= .nilIface
 | .bq u,v=>v=u
def AZ (E:Env) (fz:Nat->Prop) (w:World):List AA->List Value->Prop
 | [],vs=>vs=[]
 | x::xs,vs=> ∃v us,vs=v::us/\Rel E fz w x v/\AZ E fz w xs us
def Ck (E:Env) (fz:Nat->Prop) (w:World) (b:Nat):Nat->List AA->Prop
 | _,[]=>True
 | off,x::xs=>(∃c,w.cell? ⟨b,off,none⟩=some c/\c.oneCell'=true/\Rel E fz w x c)/\Ck E fz w b (off+1) xs
end
theorem cell_of_heap {w w':World} {b o:Nat} (h:w'.heap[b]?=w.heap[b]?):w'.cell? ⟨b,o,none⟩=w.cell? ⟨b,o,none⟩:=by
 unfold World.cell?;simp only [h]
section
variable {E E' : Env} {fz fz' : Nat -> Prop} {w w' : World}
mutual
theorem Rel.mono (hE: ∀v x,E v=some x->E' v=some x) (hf: ∀b,fz b->fz' b) (hw: ∀b,fz b->w'.heap[b]?=w.heap[b]?):
  ∀(x:AA) {v:Value},Rel E fz w x v->Rel E' fz' w' x v
 | .C3,_,_=>by simp [Rel]
 | .tt,_,h=>by simpa [Rel] using h
 | .ff,_,h=>by simpa [Rel] using h
 | .bool _,_,h=>by simpa [Rel] using h
 | .int _ _,_,h=>by simpa [Rel] using h
 | .str _,_,h=>by simpa [Rel] using h
 | .B4,_,h=>by simpa [Rel] using h
 | .ptr _ _ _,_,h=>by
  simp only [Rel] at*;obtain ⟨b,base,cap,k,h1,h2⟩:=h;exact ⟨b,base,cap,k,hE _ _ h1,h2⟩
 | .GX cs,_,h=>by
  simp only [Rel] at*;obtain ⟨b,off,h1,h2,h3⟩:=h;exact ⟨b,off,hf _ h1,h2,Ck.mono hE hf hw cs (hw b h1) h3⟩
 | .AL,_,h=>by simpa [Rel] using h
 | .sl _ _ _ _,_,h=>by
  simp only [Rel] at*;rcases h with h | ⟨b,base,cap,k,c,h1,h2⟩
  ·exact .inl h
  ·exact .inr ⟨b,base,cap,k,c,hE _ _ h1,h2⟩
 | .Ez _ cs,_,h=>by
  simp only [Rel] at*;rcases h with h | ⟨b,off,c,h1,h2,h3,h4⟩
  ·exact .inl h
  ·exact .inr ⟨b,off,c,hf _ h1,h2,h3,Ck.mono hE hf hw cs (hw b h1) h4⟩
 | .agg cs,_,h=>by
  simp only [Rel] at*;obtain ⟨vs,h1,h2,h3⟩:=h;exact ⟨vs,h1,AZ.mono hE hf hw cs h2,h3⟩
 | .DH cs,_,h=>by
  simp only [Rel] at*;obtain ⟨vs,h1,h2⟩:=h;exact ⟨vs,h1,AZ.mono hE hf hw cs h2⟩
 | .fn _ xs ys,_,h=>by
  simp only [Rel] at*;obtain ⟨vs,us,h1,h2,h3⟩:=h;exact ⟨vs,us,h1,AZ.mono hE hf hw xs h2,AZ.mono hE hf hw ys h3⟩
 | .I3,_,h=>by simpa [Rel] using h
 | .map _ _,_,h=>by
  simp only [Rel] at*;obtain ⟨b,h1,h2⟩:=h;exact ⟨b,hE _ _ h1,h2⟩
 | .I4,_,h=>by simpa [Rel] using h
 | .iface _ x,_,h=>by
  simp only [Rel] at*;obtain ⟨u,h1,h2⟩:=h;exact ⟨u,h1,Rel.mono hE hf hw x h2⟩
 | .M8,_,h=>by simpa [Rel] using h
 | .bq _,_,h=>by simpa [Rel] using h
theorem AZ.mono (hE: ∀v x,E v=some x->E' v=some x) (hf: ∀b,fz b->fz' b) (hw: ∀b,fz b->w'.heap[b]?=w.heap[b]?):
  ∀(xs:List AA) {vs:List Value},AZ E fz w xs vs->AZ E' fz' w' xs vs
 | [],_,h=>by simpa [AZ] using h
 | x::xs,_,h=>by
  simp only [AZ] at*;obtain ⟨v,us,h1,h2,h3⟩:=h;exact ⟨v,us,h1,Rel.mono hE hf hw x h2,AZ.mono hE hf hw xs h3⟩
theorem Ck.mono (hE: ∀v x,E v=some x->E' v=some x) (hf: ∀b,fz b->fz' b) (hw: ∀b,fz b->w'.heap[b]?=w.heap[b]?) {b:Nat}:
  ∀(xs:List AA) {off:Nat},w'.heap[b]?=w.heap[b]?->Ck E fz w b off xs->Ck E' fz' w' b off xs
 | [],_,_,_=>by simp [Ck]
 | x::xs,off,hb,h=>by
  simp only [Ck] at*;obtain ⟨⟨c,h1,h2,h3⟩,h4⟩:=h;exact ⟨⟨c,by rw [cell_of_heap hb];exact h1,h2,Rel.mono hE hf hw x h3⟩,Ck.mono hE hf hw xs hb h4⟩
end
end
section
variable {E : Env} {fz : Nat -> Prop} {w : World}
theorem AZ.length: ∀ {xs:List AA} {vs:List Value},AZ E fz w xs vs->vs.length=xs.length
 | [],_,h=>by simp only [AZ] at h;simp [h]
 | x::xs,_,h=>by
  simp only [AZ] at h;obtain ⟨v,us,rfl,_,h3⟩:=h;simp [AZ.length h3]
theorem AZ.get: ∀ {xs:List AA} {vs:List Value},AZ E fz w xs vs-> ∀ {i:Nat} {x:AA},xs[i]?=some x-> ∃v,vs[i]?=some v/\Rel E fz w x v
 | [],_,_,i,x,hx=>by simp at hx
 | y::xs,_,h,i,x,hx=>by
  simp only [AZ] at h;obtain ⟨v,us,rfl,h2,h3⟩:=h;cases i with
  | zero=>simp at hx;subst hx;exact ⟨v,by simp,h2⟩
  | succ i=>simp at hx;simpa using AZ.get h3 hx
theorem AZ.mk: ∀ {xs:List AA} {vs:List Value},vs.length=xs.length->(∀(i:Nat) x v,xs[i]?=some x->vs[i]?=some v->Rel E fz w x v)->AZ E fz w xs vs
 | [],vs,h,_=>by simp only [AZ];exact List.length_eq_zero_iff.1 h
 | x::xs,[],h,_=>by simp at h
 | x::xs,v::vs,h,hr=>by
  simp only [AZ];refine ⟨v,vs,rfl,hr 0 x v rfl rfl,AZ.mk (by simpa using h) fun i x v hx hv=>hr (i+1) x v (by simpa using hx) (by simpa using hv)⟩
theorem AZ.append {xs ys:List AA} {vs us:List Value} (h:AZ E fz w xs vs) (h':AZ E fz w ys us):AZ E fz w (xs++ys) (vs++us):=by
 have hl:=h.length;refine AZ.mk (by simp [h.length,h'.length]) fun i x v hx hv=>?_;by_cases hi:i<xs.length
 ·rw [List.getElem?_append_left hi] at hx;rw [List.getElem?_append_left (by omega)] at hv;obtain ⟨v',h1,h2⟩:=h.get hx;rw [hv] at h1;cases h1;exact h2
 ·rw [List.getElem?_append_right (by omega)] at hx;rw [List.getElem?_append_right (by omega),hl] at hv;obtain ⟨v',h1,h2⟩:=h'.get hx;rw [hv] at h1;cases h1;exact h2
theorem AZ.drop {xs:List AA} {vs:List Value} (n:Nat) (h:AZ E fz w xs vs):AZ E fz w (xs.drop n) (vs.drop n):=by
 refine AZ.mk (by simp [h.length]) fun i x v hx hv=>?_;rw [List.getElem?_drop] at hx hv;obtain ⟨v',h1,h2⟩:=h.get hx;rw [hv] at h1;cases h1;exact h2
theorem AZ.take {xs:List AA} {vs:List Value} (n:Nat) (h:AZ E fz w xs vs):AZ E fz w (xs.take n) (vs.take n):=by
 refine AZ.mk (by simp [h.length]) fun i x v hx hv=>?_;rw [List.getElem?_take] at hx hv;split at hx
 ·rename_i hi;rw [if_pos hi] at hv;obtain ⟨v',h1,h2⟩:=h.get hx;rw [hv] at h1;cases h1;exact h2
 ·cases hx
theorem Ck.get {b:Nat}: ∀ {xs:List AA} {off:Nat},Ck E fz w b off xs-> ∀ {i:Nat} {x:AA},xs[i]?=some x->
  ∃c,w.cell? ⟨b,off+i,none⟩=some c/\c.oneCell'=true/\Rel E fz w x c
 | [],_,_,i,x,hx=>by simp at hx
 | y::xs,off,h,i,x,hx=>by
  simp only [Ck] at h;cases i with
  | zero=>simp at hx;subst hx;exact h.1
  | succ i=>
   simp at hx;have:=Ck.get h.2 hx;rwa [show off+1+i=off+(i+1) by omega] at this
theorem Ck.mk {b:Nat}: ∀ {xs:List AA} {off:Nat},(∀(i:Nat) x,xs[i]?=some x-> ∃c,w.cell? ⟨b,off+i,none⟩=some c/\c.oneCell'=true/\Rel E fz w x c)->
  Ck E fz w b off xs
 | [],_,_=>by simp [Ck]
 | x::xs,off,h=>by
  simp only [Ck];refine ⟨h 0 x rfl,Ck.mk fun i y hy=>?_⟩;have:=h (i+1) y (by simpa using hy);rwa [show off+(i+1)=off+1+i by omega] at this
theorem Ck.drop {b off:Nat} {xs:List AA} (n:Nat) (h:Ck E fz w b off xs):Ck E fz w b (off+n) (xs.drop n):=
 Ck.mk fun i x hx=>by
  rw [List.getElem?_drop] at hx;have:=h.get hx;rwa [show off+(n+i)=off+n+i by omega] at this
theorem Ck.take {b off:Nat} {xs:List AA} (n:Nat) (h:Ck E fz w b off xs):Ck E fz w b off (xs.take n):=
 Ck.mk fun i x hx=>by
  rw [List.getElem?_take] at hx;split at hx
  ·exact h.get hx
  ·cases hx
theorem Ck.append {b off:Nat} {xs ys:List AA} (h:Ck E fz w b off xs) (h':Ck E fz w b (off+xs.length) ys):Ck E fz w b off (xs++ys):=
 Ck.mk fun i x hx=>by
  by_cases hi:i<xs.length
  ·rw [List.getElem?_append_left hi] at hx;exact h.get hx
  ·rw [List.getElem?_append_right (by omega)] at hx;have:=h'.get hx;rwa [show off+xs.length+(i-xs.length)=off+i by omega] at this
theorem Ck.read {b off:Nat} {xs:List AA} (h:Ck E fz w b off xs): ∃vs:List Value,AZ E fz w xs vs/\(∀c∈vs,c.oneCell'=true)/\
  ∀(j:Nat) v,vs[j]?=some v->w.cell? ⟨b,off+j,none⟩=some v:=by
 induction xs generalizing off with
 | nil=>exact ⟨[],by simp [AZ],by simp,by simp⟩
 | cons x xs ih=>
  simp only [Ck] at h;obtain ⟨⟨c,h1,h2,h3⟩,h4⟩:=h;obtain ⟨vs,g1,g2,g3⟩:=ih h4;refine ⟨c::vs,by simp only [AZ];exact ⟨c,vs,rfl,h3,g1⟩,by simpa [h2] using g2,fun j v hv=>?_⟩;cases j with
  | zero=>simp at hv;subst hv;simpa using h1
  | succ j=>
   have:=g3 j v (by simpa using hv);rwa [show off+1+j=off+(j+1) by omega] at this
end
end Go.Vc
end
section
namespace Go.Vc
abbrev Frame:=List (Nat×AA)
def Frame.get:Frame->Nat->AA
 | [],_=>.C3
 | (k,x)::F,n=>match Nat.beq k n with | true=>x | false=>Frame.get F n
inductive Ob where
 | dead
 | row (v k:Nat) (cs:List AA)
 | DA (v:Nat) (es:List (AA×AA))
 | HD (b:Nat) (L:Loop) (F:Frame)
 | FO (v mv since last:Nat) (seen:List Nat)
 deriving Inhabited
abbrev AB:=List Ob
def AU (E:Env):Ob->Option Nat
 | .dead=>none
 | .row v _ _=>match E v with | some (.real b _ _ _)=>some b | _=>none
 | .DA v _=>match E v with | some (.Xi b)=>some b | _=>none
 | .HD b _ _=>some b
 | .FO v _ _ _ _=>match E v with | some (.real b _ _ _)=>some b | _=>none
def Dh (E:Env) (S:AB) (l b:Nat):Prop:= ∃o,S[l]?=some o/\AU E o=some b
def Own (E:Env) (S:AB) (b:Nat):Prop:= ∃l,Dh E S l b
inductive LU (E:Env) (fz:Nat->Prop) (w:World):List (AA×AA)->List MapEntry->Prop
 | nil:LU E fz w [] []
 | cons {k v:AA} {m:MapEntry} {es:List (AA×AA)} {ms:List MapEntry} (hk:Rel E fz w k m.key) (hv:Rel E fz w v m.val) (h:LU E fz w es ms):
   LU E fz w ((k,v)::es) (m::ms)
theorem LU.mono {E E':Env} {fz fz':Nat->Prop} {w w':World} (hE: ∀v x,E v=some x->E' v=some x) (hf: ∀b,fz b->fz' b) (hw: ∀b,fz b->w'.heap[b]?=w.heap[b]?)
  {es:List (AA×AA)} {ms:List MapEntry} (h:LU E fz w es ms):LU E' fz' w' es ms:=by
 induction h with
 | nil=>exact .nil
 | cons hk hv _ ih=>exact .cons (hk.mono hE hf hw) (hv.mono hE hf hw) ih
def Ql (E:Env) (fz:Nat->Prop) (w:World):Ob->Prop
 | .dead=>True
 | .row v k cs=>(E v=some .nil/\cs=[])\/ ∃b base cap arr T lo hi,E v=some (.real b base cap k)/\w.heap[b]?=some (.cells arr T (lo,hi))/\
   base+cap<=arr.size/\cs.length<=cap/\(lo=hi\/(k=1/\arr.size<=lo))/\Ck E fz w b base cs/\ ¬fz b
 | .DA v es=> ∃b entries clock,E v=some (.Xi b)/\w.heap[b]?=some (.map entries clock)/\(LU E fz w es entries.toList/\clock=entries.size/\ ∀(i:Nat) m,entries[i]?=some m->m.born=i)/\ ¬fz b
 | .FO v mv since last seen=> ∃b m,E v=some (.real b 0 0 0)/\E mv=some (.Xi m)/\w.heap[b]?=some (.mapIter (some m) since seen.toArray last)/\since<=last/\ ¬fz b
 | .HD b L F=>w.heap[b]?=some (.loop L)/\L.state= .ready/\L.pending=none/\(∀n,Rel E fz w (F.get n) (L.tmps.getD n undef))/\ ¬fz b
structure St (E:Env) (fz:Nat->Prop) (S:AB) (w:World):Prop where
 ok: ∀(l:Nat) o,S[l]?=some o->Ql E fz w o
 sep: ∀l l' b,Dh E S l b->Dh E S l' b->l=l'
 Gi: ∀b,fz b->b<w.heap.size
 fresh: ∃n,∀v,n<=v->E v=none
def Dm:Prop:=False
abbrev Tp (w w':World):Prop:=w'.tape=w.tape/\(Dm->w.drawn<=w'.drawn)
theorem Tp.of {w w':World} (h:w'.tape=w.tape) (h':w.drawn<=w'.drawn):Tp w w':=⟨h,fun _=>h'⟩
theorem Tp.refl {w:World}:Tp w w:=⟨rfl,fun _=>Nat.le_refl _⟩
theorem Tp.trans {w w1 w2:World} (h:Tp w w1) (h':Tp w1 w2):Tp w w2:=⟨h'.1.trans h.1,fun d=>Nat.le_trans (h.2 d) (h'.2 d)⟩
structure Ext (E:Env) (fz:Nat->Prop) (S:AB) (w:World) (E':Env) (fz':Nat->Prop) (S':AB) (w':World):Prop where
 env: ∀v x,E v=some x->E' v=some x
 Yf: ∀b,fz b->fz' b
 IE: ∀b,fz' b->fz b\/Own E S b\/w.heap.size<=b
 AW: ∀b,b<w.heap.size-> ¬Own E S b->w'.heap[b]?=w.heap[b]?
 own: ∀b,Own E' S' b->Own E S b\/w.heap.size<=b
 size:w.heap.size<=w'.heap.size
 os:w'.os=w.os
 output:w'.output=w.output
 tape:Tp w w'
theorem Ext.refl {E:Env} {fz:Nat->Prop} {S:AB} {w:World}:Ext E fz S w E fz S w:=
 ⟨fun _ _ h=>h,fun _ h=>h,fun _ h=>.inl h,fun _ _ _=>rfl,fun _ h=>.inl h,Nat.le_refl _,rfl,rfl,Tp.refl⟩
theorem Ext.trans {E E1 E2:Env} {fz fz1 fz2:Nat->Prop} {S S1 S2:AB} {w w1 w2:World} (h:Ext E fz S w E1 fz1 S1 w1) (h':Ext E1 fz1 S1 w1 E2 fz2 S2 w2):
  Ext E fz S w E2 fz2 S2 w2 where
 env v x hx:=h'.env v x (h.env v x hx)
 Yf b hb:=h'.Yf b (h.Yf b hb)
 IE b hb:=by
  rcases h'.IE b hb with h1 | h1 | h1
  ·exact h.IE b h1
  ·exact .inr (h.own b h1)
  ·exact .inr (.inr (Nat.le_trans h.size h1))
 AW b hb hn:=by
  rw [h'.AW b (Nat.lt_of_lt_of_le hb h.size) (fun ho=>?_),h.AW b hb hn];rcases h.own b ho with h1 | h1
  ·exact hn h1
  ·omega
 own b hb:=by
  rcases h'.own b hb with h1 | h1
  ·exact h.own b h1
  ·exact .inr (Nat.le_trans h.size h1)
 size:=Nat.le_trans h.size h'.size
 os:=h'.os.trans h.os
 output:=h'.output.trans h.output
 tape:=h.tape.trans h'.tape
theorem Ql.lt {E:Env} {fz:Nat->Prop} {w:World} {o:Ob} {b:Nat} (h:Ql E fz w o) (hb:AU E o=some b):b<w.heap.size/\ ¬fz b:=by
 have lt: ∀ {x:Obj},w.heap[b]?=some x->b<w.heap.size:=fun {x} hx=>by
  rcases Nat.lt_or_ge b w.heap.size with h | h
  ·exact h
  ·simp [Array.getElem?_eq_none h] at hx
 cases o with
 | dead=>simp [AU] at hb
 | row v k cs=>
  rcases h with ⟨h1,_⟩ | ⟨b',base,cap,arr,T,lo,hi,h1,h2,_,_,_,_,h3⟩
  ·simp [AU,h1] at hb
  ·simp [AU,h1] at hb;subst hb;exact ⟨lt h2,h3⟩
 | DA v es=>
  obtain ⟨b',en,cl,h1,h2,_,h3⟩:=h;simp [AU,h1] at hb;subst hb;exact ⟨lt h2,h3⟩
 | HD b' L F=>
  obtain ⟨h1,_,_,_,h3⟩:=h;simp [AU] at hb;subst hb;exact ⟨lt h1,h3⟩
 | FO v mv since last seen=>
  obtain ⟨b',m,h1,_,h2,_,h3⟩:=h;simp [AU,h1] at hb;subst hb;exact ⟨lt h2,h3⟩
theorem Ql.block {E E':Env} {fz:Nat->Prop} {w:World} {o:Ob} (h:Ql E fz w o) (hE: ∀v x,E v=some x->E' v=some x):AU E' o=AU E o:=by
 cases o with
 | dead=>rfl
 | row v k cs=>
  rcases h with ⟨h1,_⟩ | ⟨b',base,cap,arr,T,lo,hi,h1,_⟩
  ·simp [AU,h1,hE _ _ h1]
  ·simp [AU,h1,hE _ _ h1]
 | DA v es=>
  obtain ⟨b',en,cl,h1,_⟩:=h;simp [AU,h1,hE _ _ h1]
 | HD b' L F=>rfl
 | FO v mv since last seen=>
  obtain ⟨b',m,h1,_⟩:=h;simp [AU,h1,hE _ _ h1]
theorem Ql.mono {E E':Env} {fz fz':Nat->Prop} {w w':World} {o:Ob} (h:Ql E fz w o) (hE: ∀v x,E v=some x->E' v=some x) (hf: ∀b,fz b->fz' b)
  (hw: ∀b,fz b->w'.heap[b]?=w.heap[b]?) (hb: ∀b,AU E o=some b->w'.heap[b]?=w.heap[b]?/\ ¬fz' b):Ql E' fz' w' o:=by
 cases o with
 | dead=>trivial
 | row v k cs=>
  rcases h with ⟨h1,h0⟩ | ⟨b,base,cap,arr,T,lo,hi,h1,h2,h3,h4,h5,h6,h7⟩
  ·exact .inl ⟨hE _ _ h1,h0⟩
  ·have hbb:=hb b (by simp [AU,h1]);exact .inr ⟨b,base,cap,arr,T,lo,hi,hE _ _ h1,by rw [hbb.1];exact h2,h3,h4,h5,Ck.mono hE hf hw cs hbb.1 h6,hbb.2⟩
 | DA v es=>
  obtain ⟨b,en,cl,h1,h2,h3,h4⟩:=h;have hbb:=hb b (by simp [AU,h1]);exact ⟨b,en,cl,hE _ _ h1,by rw [hbb.1];exact h2,⟨h3.1.mono hE hf hw,h3.2⟩,hbb.2⟩
 | FO v mv since last seen=>
  obtain ⟨b,m,h1,h2,h3,h4,h5⟩:=h;have hbb:=hb b (by simp [AU,h1]);exact ⟨b,m,hE _ _ h1,hE _ _ h2,by rw [hbb.1];exact h3,h4,hbb.2⟩
 | HD b L F=>
  obtain ⟨h1,h2,h3,h4,h5⟩:=h;have hbb:=hb b rfl;exact ⟨by rw [hbb.1];exact h1,h2,h3,fun n=>Rel.mono hE hf hw _ (h4 n),hbb.2⟩
section
variable {E E' : Env} {fz fz' : Nat -> Prop} {S S' : AB} {w w' : World}
theorem St.Ey (st:St E fz S w) {l b:Nat} (h:Dh E S l b):b<w.heap.size/\ ¬fz b:=by
 obtain ⟨o,h1,h2⟩:=h;exact (st.ok l o h1).lt h2
theorem St.aF (st:St E fz S w) (h:Ext E fz S w E' fz' S' w'): ∀b,fz b->w'.heap[b]?=w.heap[b]?:=
 fun b hb=>h.AW b (st.Gi b hb) fun ⟨_,ho⟩=>(st.Ey ho).2 hb
theorem St.rel (st:St E fz S w) (h:Ext E fz S w E' fz' S' w') {x:AA} {v:Value} (hr:Rel E fz w x v):Rel E' fz' w' x v:=
 hr.mono h.env h.Yf (st.aF h)
theorem St.fy (st:St E fz S w) (l:Nat) (o:Ob) (hE: ∀v x,E v=some x->E' v=some x) (hn: ∃n,∀v,n<=v->E' v=none)
  (hS: ∀l':Nat,l'≠l->S'[l']?=S[l']?) (hl:S'[l]?=some o) (hsz:w.heap.size<=w'.heap.size)
  (hw: ∀b,b<w.heap.size-> ¬Dh E S l b->w'.heap[b]?=w.heap[b]?)
  (hb: ∀b,AU E' o=some b->Dh E S l b\/w.heap.size<=b) (ho:Ql E' fz w' o)
  (h1:w'.os=w.os) (h2:w'.output=w.output) (h3:Tp w w'):St E' fz S' w'/\Ext E fz S w E' fz S' w':=by
 have AW: ∀b,fz b->w'.heap[b]?=w.heap[b]?:=fun b hb=>hw b (st.Gi b hb) fun ho=>(st.Ey ho).2 hb;have back: ∀(l' b:Nat),l'≠l->Dh E' S' l' b->Dh E S l' b:=fun l' b hne ⟨o',g1,g2⟩=>by
  rw [hS l' hne] at g1;exact ⟨o',g1,by rw [<-(st.ok l' o' g1).block hE];exact g2⟩
 refine ⟨⟨fun l' o' hl'=>?_,fun l' l'' b g1 g2=>?_,fun b hb=>Nat.lt_of_lt_of_le (st.Gi b hb) hsz,hn⟩,
  ⟨hE,fun _ h=>h,fun _ h=>.inl h,fun b hb hno=>hw b hb fun hh=>hno ⟨l,hh⟩,fun b ⟨l',g⟩=>?_,hsz,h1,h2,h3⟩⟩
 ·by_cases hne:l'=l
  ·subst hne;rw [hl] at hl';cases hl';exact ho
  ·rw [hS l' hne] at hl';refine (st.ok l' o' hl').mono hE (fun _ h=>h) AW fun b hb'=>⟨hw b (st.Ey ⟨o',hl',hb'⟩).1 fun hh=>hne (st.sep _ _ _ ⟨o',hl',hb'⟩ hh),(st.Ey ⟨o',hl',hb'⟩).2⟩
 ·have fromL: ∀(b l'':Nat),l''≠l->Dh E' S' l b->Dh E' S' l'' b->False:=fun b l'' hne g1 g2=>by
   obtain ⟨o',q1,q2⟩:=g1;rw [hl] at q1;cases q1;have g2':=back l'' b hne g2;rcases hb b q2 with hh | hh
   ·exact hne (st.sep _ _ _ g2' hh)
   ·have:=(st.Ey g2').1;omega
  by_cases e1:l'=l
  ·by_cases e2:l''=l
   ·rw [e1,e2]
   ·subst e1;exact (fromL b l'' e2 g1 g2).elim
  ·by_cases e2:l''=l
   ·subst e2;exact (fromL b l' e1 g2 g1).elim
   ·exact st.sep _ _ _ (back l' b e1 g1) (back l'' b e2 g2)
 ·by_cases hne:l'=l
  ·subst hne;obtain ⟨o',q1,q2⟩:=g;rw [hl] at q1;cases q1;rcases hb b q2 with hh | hh
   ·exact .inl ⟨_,hh⟩
   ·exact .inr hh
  ·exact .inl ⟨l',back l' b hne g⟩
theorem St.same (st:St E fz S w) (hh:w'.heap=w.heap) (h1:w'.os=w.os) (h2:w'.output=w.output) (h3:Tp w w'):St E fz S w'/\Ext E fz S w E fz S w':=by
 have ht: ∀b:Nat,w'.heap[b]?=w.heap[b]?:=fun b=>by rw [hh]
 refine ⟨⟨fun l o hl=>(st.ok l o hl).mono (fun _ _ h=>h) (fun _ h=>h) (fun b _=>ht b) fun b hb=>⟨ht b,(st.Ey ⟨o,hl,hb⟩).2⟩,st.sep,fun b hb=>by rw [hh];exact st.Gi b hb,st.fresh⟩,
  ⟨fun _ _ h=>h,fun _ h=>h,fun _ h=>.inl h,fun b _ _=>ht b,fun _ h=>.inl h,by rw [hh];exact Nat.le_refl _,h1,h2,h3⟩⟩
end
end Go.Vc
end
section
namespace Go.Vc
inductive AO where
 | t (n:Nat)
 | c (x:AA)
 deriving Inhabited
def V2:Frame->Nat->(AA->Prop)->Prop
 | [],_,K=>K .C3
 | (k,x)::F,n,K=>match Nat.beq k n with | true=>K x | false=>V2 F n K
def rd (F:Frame):AO->AA
 | .t n=>F.get n
 | .c x=>x
def Gt (F:Frame) (x:AO) (K:AA->Prop):Prop:=match x with | .t n=>V2 F n K | .c x=>K x
def Ng (F:Frame) (xs:List AO) (K:List AA->Prop):Prop:=
 match xs with | []=>K [] | x::xs=>Gt F x fun v=>Ng F xs fun vs=>K (v::vs)
def jn (x:AA) (K:IntKind->Int->Prop):Prop:=match x with | .int k n=>K k n | _=>False
def lJ (x:AA) (K:Bool->Prop):Prop:=match x with | .bool b=>K b | .tt=>K true | .ff=>K false | _=>False
def Lu (x:AA) (K:Nat->Prop):Prop:=match x with | .int _ n=> ∃j:Nat,n=(j:Int)/\K j | _=>False
def HR (x:AA) (K:List AA->Prop):Prop:=
 match x with | .agg cs=>K cs | .DH _=>False | .C3=>False | .bq _=>False | x=>K [x]
def takeN:Nat->List AA->Option (List AA)
 | 0,_=>some []
 | n+1,x::xs=>match takeN n xs with | some ys=>some (x::ys) | none=>none
 | _+1,[]=>none
def over:List AA->List AA->List AA
 | [],_=>[]
 | cs,[]=>cs
 | _::cs,y::ys=>y::over cs ys
def setCells:List AA->Nat->List AA->List AA
 | cs,0,ys=>over cs ys
 | [],_+1,_=>[]
 | c::cs,n+1,ys=>c::setCells cs n ys
def Lv (S:AB) (l:Nat) (o:Ob) (K:AB->Prop):Prop:=
 match S,l with
 | [],_=>False
 | _::S,0=>K (o::S)
 | a::S,l+1=>Lv S l o (fun S'=>K (a::S'))
def fh (S:AB) (l:Nat) (K:Ob->Prop):Prop:=
 match S,l with
 | [],_=>False
 | o::_,0=>K o
 | _::S,l+1=>fh S l K
def Yz:List AA->List AA->(List AA->Prop)->Prop
 | [],_,K=>K []
 | c::cs,[],K=>K (c::cs)
 | _::cs,y::ys,K=>Yz cs ys fun zs=>K (y::zs)
def JJ:List AA->Nat->List AA->(List AA->Prop)->Prop
 | cs,0,ys,K=>Yz cs ys K
 | [],_+1,_,K=>K []
 | c::cs,n+1,ys,K=>JJ cs n ys fun zs=>K (c::zs)
def PC (k:Nat) (cs:List AA) (off:Nat) (ys:List AA) (K:List AA->Prop):Prop:=
 match k with | 0=>JJ cs off ys K | _+1=>K (setCells cs off ys)
def Q6:Nat->List AA->(List AA->Prop)->Prop
 | 0,cs,K=>K cs
 | n+1,_::cs,K=>Q6 n cs K
 | _+1,[],K=>K []
def SC:Nat->List AA->(List AA->Prop)->Prop
 | 0,_,K=>K []
 | n+1,x::xs,K=>SC n xs fun ys=>K (x::ys)
 | _+1,[],_=>False
def Lk (ag:Bool) (xs:List AA) (K:AA->Prop):Prop:=
 match ag with | true=>K (.agg xs) | false=>match xs with | [x]=>K x | _=>False
def J9 (S:AB) (l v:Nat) (K:Nat->List AA->Prop):Prop:=
 fh S l fun o=>match o with | .row v' k cs=>v=v'/\K k cs | _=>False
def fm (S:AB) (l v:Nat) (K:List (AA×AA)->Prop):Prop:=
 fh S l fun o=>match o with | .DA v' es=>v=v'/\K es | _=>False
def fj (S:AB) (l v:Nat) (K:Nat->Nat->Nat->List Nat->Prop):Prop:=
 fh S l fun o=>match o with | .FO v' mv since last seen=>v=v'/\K mv since last seen | _=>False
inductive Ni where | str | int (k:IntKind) | bool
 deriving Inhabited
def I5:Ni->AA->Bool
 | .str,.str _=>true
 | .int k,.int k' _=>decide (k=k')
 | .bool,.bool _=>true
 | _,_=>false
def LJ:AA->AA->Bool
 | .str a,.str b=>a == b
 | .int _ a,.int _ b=>a == b
 | .bool a,.bool b=>a == b
 | _,_=>false
def IF (y:AA):List (AA×AA)->Option (Nat×AA)
 | []=>none
 | (k,v)::r=>match LJ y k with | true=>some (0,v) | false=>match IF y r with | some (i,x)=>some (i+1,x) | none=>none
def H8 (y x:AA) (es:List (AA×AA)):List (AA×AA):=match IF y es with | some (i,_)=>es.set i (y,x) | none=>es++[(y,x)]
def UJ (ok:Bool) (x:AA) (b:Bool):AA:=match ok with | true=>.DH [x,.bool b] | false=>x
def I7 (S:AB) (n:Nat) (ag:Bool) (x:AA) (K:AA->Prop):Prop:=
 match x with
 | .GX cs=>SC n cs fun xs=>Lk ag xs K
 | .ptr l v off=>J9 S l v fun k cs=>match k with
  | 0=>Q6 off cs fun ds=>SC n ds fun xs=>Lk ag xs K
  | _+1=> ∃xs,takeN n (cs.drop off)=some xs/\Lk ag xs K
 | _=>False
def KC (F:Frame) (cs:List AA) (K:List AA->Prop):List (Nat×Nat×AO)->Prop
 | []=>K cs
 | (off,n,x)::rest=>Gt F x fun x=>HR x fun ys=>ys.length=n/\off+n<=cs.length/\JJ cs off ys fun cs'=>KC F cs' K rest
def AQ (n:Int):Prop:= -9223372036854775808<=n/\n<=9223372036854775807
def f_ (k:IntKind) (n:Int) (K:AA->Prop):Prop:=
 match k with | .i64=>AQ n/\K (.int .i64 n) | k=>K (.int k (k.wrap n))
def JE (op:BinOp) (k:IntKind) (a b:Int) (K:AA->Prop):Prop:=
 match op with
 | .add=>f_ k (a+b) K
 | .sub=>f_ k (a-b) K
 | .mul=>f_ k (a*b) K
 | .quo=>b≠0/\f_ k (a.tdiv b) K
 | .rem=>b≠0/\K (.int k (a.tmod b))
 | .eql=>K (.bool (decide (a=b)))
 | .neq=>K (.bool (!decide (a=b)))
 | .lss=>K (.bool (decide (a<b)))
 | .leq=>K (.bool (decide (a<=b)))
 | .gtr=>K (.bool (decide (b<a)))
 | .geq=>K (.bool (decide (b<=a)))
 | .and=>K (.int k (k.wrap ((BitVec.ofInt k.bits a) &&& (BitVec.ofInt k.bits b)).toNat))
 | .or=>K (.int k (k.wrap ((BitVec.ofInt k.bits a) ||| (BitVec.ofInt k.bits b)).toNat))
 | .xor=>K (.int k (k.wrap ((BitVec.ofInt k.bits a) ^^^ (BitVec.ofInt k.bits b)).toNat))
 | _=>False
def NJ (op:BinOp) (a b:List UInt8) (K:AA->Prop):Prop:=
 match op with
 | .add=>AQ (a.length+b.length)/\K (.str (a++b))
 | .eql=>K (.bool (decide (a=b)))
 | .neq=>K (.bool (!decide (a=b)))
 | .lss=>K (.bool (Op.bytesLess a b))
 | .leq=>K (.bool (Op.bytesLess a b || decide (a=b)))
 | .gtr=>K (.bool (!(Op.bytesLess a b || decide (a=b))))
 | .geq=>K (.bool (!Op.bytesLess a b))
 | _=>False
inductive FK where
 | int
 | str
 | bool
 deriving Inhabited
def BC:List FK->List AA->List AA->(Bool->Prop)->Prop
 | [],[],[],K=>K true
 | .int::ks,.int k a::xs,.int k' b::ys,K=>k=k'/\BC ks xs ys fun r=>K (decide (a=b) && r)
 | .str::ks,.str a::xs,.str b::ys,K=>BC ks xs ys fun r=>K (decide (a=b) && r)
 | .bool::ks,.bool a::xs,.bool b::ys,K=>BC ks xs ys fun r=>K (decide (a=b) && r)
 | _,_,_,_=>False
def YR (op:BinOp) (r:Bool) (K:AA->Prop):Prop:=
 match op with | .eql=>K (.bool r) | .neq=>K (.bool (!r)) | _=>False
inductive lN where
 | none
 | bool
 | ptr
 | agg (ks:List FK)
 | func
 | map
 deriving Inhabited
def HI (q:lN) (op:BinOp) (x y:AA) (K:AA->Prop):Prop:=
 match x,y with
 | .int k a,.int k' b=>
  match op with
  | .shl=>0<=b/\f_ k (a*2 ^ (min b.toNat k.bits)) K
  | .shr=>0<=b/\K (.int k (a.fdiv (2 ^ (min b.toNat k.bits))))
  | op=>k=k'/\JE op k a b K
 | .str a,.str b=>NJ op a b K
 | .bool a,.bool b=>match q with | .bool=>YR op (decide (a=b)) K | _=>False
 | .agg xs,.agg ys=>match q with | .agg ks=>BC ks xs ys fun r=>YR op r K | _=>False
 | .B4,.B4=>match q with | .ptr=>YR op true K | _=>False
 | .ptr _ _ _,.B4=>match q with | .ptr=>YR op false K | _=>False
 | .B4,.ptr _ _ _=>match q with | .ptr=>YR op false K | _=>False
 | .GX _,.B4=>match q with | .ptr=>YR op false K | _=>False
 | .B4,.GX _=>match q with | .ptr=>YR op false K | _=>False
 | .I3,.I3=>match q with | .func=>YR op true K | _=>False
 | .fn _ _ _,.I3=>match q with | .func=>YR op false K | _=>False
 | .I4,.I4=>match q with | .map=>YR op true K | _=>False
 | .map _ _,.I4=>match q with | .map=>YR op false K | _=>False
 | _,_=>False
def A6 (cs:List AA) (off n:Nat):List AA:=(cs.drop off).take n
def DC (P:Program) (f:FuncId):Bool:=match P.funcs[f]? with | some fn=>fn.body.isSome && fn.name != "runtime.NumGoroutine" | none=>false
def Nl (P:Program) (f:FuncId) (args:Array Value) (w:World) (R:Ending->World->Prop):Prop:=
 (DC P f=true/\Calls P f args w R)\/ ∃v w',(callFunc f args).run P w= .ok (.value v) w'/\R (.returned v) w'
theorem Nl.mono {P:Program} {f:FuncId} {args:Array Value} {w:World} {R R':Ending->World->Prop} (h:Nl P f args w R) (hr: ∀e w',R e w'->R' e w'):Nl P f args w R':=
 match h with
 | .inl ⟨a,h⟩=>.inl ⟨a,h.mono hr⟩
 | .inr ⟨v,w',h1,h2⟩=>.inr ⟨v,w',h1,hr _ _ h2⟩
structure AV (P:Program) (f:FuncId) (args:List AA) (S:AB) (R:AA->AB->Prop):Prop where
 out: ∀E fz w vals,St E fz S w->AZ E fz w args vals->
  Nl P f vals.toArray w fun e w'=> ∃r S' v E' fz',e= .returned v/\Ext E fz S w E' fz' S' w'/\St E' fz' S' w'/\Rel E' fz' w' r v/\R r S'
structure LW (P:Program) (l:Nat) (args:List AA) (S:AB) (R:AA->AB->Prop):Prop where
 out: ∀E fz w vals,St E fz S w->AZ E fz w args vals->
  YieldAt Fence.wide 0 P l vals.toArray w fun e w'=> ∃r S' v E' fz',e= .returned v/\Ext E fz S w E' fz' S' w'/\St E' fz' S' w'/\Rel E' fz' w' r v/\R r S'
inductive gE where
 | pZ
 | wJ
 deriving Inhabited
def lH (k:gE) (xs:List AA) (K:AA->Prop):Prop:=
 match k,xs with
 | .pZ,[.str s,.int .u8 c]=>K (.int .i64 (Lib.indexByte s c.toNat.toUInt8))
 | .wJ,[.str s,.int .u8 c]=>K (.int .i64 (Lib.countByte s c.toNat.toUInt8:Nat))
 | _,_=>False
inductive EL where
 | CD (x:AO)
 | DE (k:Nat)
 | pick (c a b:AO)
 | alloc (k:Nat) (z:List AA)
 | box (k:Nat) (x:AO)
 | build (z:List AA) (parts:List (Nat×Nat×AO))
 | Ax (ro:Bool) (len k:Nat) (z:List AA) (parts:List (Nat×Nat×AO))
 | load (n:Nat) (ag:Bool) (x:AO)
 | store (n:Nat) (x v:AO)
 | Fg (x:AO)
 | bin (q:lN) (op:BinOp) (x y:AO)
 | Od (x:AO)
 | not (x:AO)
 | neg (x:AO)
 | conv (k:IntKind) (x:AO)
 | Hq (k bytes:Nat) (z:List AA) (len cap:AO)
 | slice (k:Nat) (x:AO) (lo hi:Option AO)
 | Bo (off:Nat) (x:AO)
 | field (off n:Nat) (ag:Bool) (x:AO)
 | DT (k:Nat) (arr:Option Nat) (x i:AO)
 | index (k:Nat) (arr:Option Nat) (ag:Bool) (x i:AO)
 | len (str:Bool) (x:AO)
 | append (k bytes:Nat) (s x:AO)
 | XQ (k bytes:Nat) (s x:AO)
 | min (xs:List AO)
 | max (xs:List AO)
 | HJ (f:Fn) (first cap:List AO)
 | extract (x:AO) (i:Nat)
 | ext (k:gE) (args:List AO)
 | call (f:FuncId) (args:List AO)
 | GZ (x:AO) (args:List AO)
 | Pr (f:FuncId) (args:List AO)
 | Nv (d k:Nat) (f:FuncId) (args:List AO)
 | bad
 | HB (neg:Bool) (x:AO)
 | peq (neg:Bool) (x y:AO)
 | Ms (n:Nat) (x:AO)
 | NS (d k bytes:Nat) (z:List AA) (len cap:AO)
 | clear (k:Nat) (z:List AA) (x:AO)
 | rn (x:AO)
 | sA (x:AO)
 | mark (x:AO)
 | again (t n:Nat) (ag:Bool) (x:AO)
 | NN (d k:Nat) (z:List AA)
 | J5 (d:Nat)
 | Lf (d k:Nat) (f:FuncId) (args zs:List AO)
 | WR (t:TypeId) (x:AO)
 | slice3 (k:Nat) (x h m:AO)
 | NR
 | LL (q:Ni) (ok:Bool) (z:AA) (m k:AO)
 | aZ (q:Ni) (m k x:AO)
 | m_ (q:Ni) (z:AA) (m k:AO)
 | nC (m i x:AO)
 | Ll (x:AO)
 | UK (x:AO)
 | OA (x:AO)
 deriving Inhabited
def Nh (S:AB) (k:Nat) (x:AA) (K:Nat->List AA->Prop):Prop:=
 match x with
 | .AL=>K 0 []
 | .Ez n cs=>n*k<=cs.length/\K n (cs.take (n*k))
 | .sl l v off n=>J9 S l v fun _ cs=>off+n*k<=cs.length/\K n (A6 cs off (n*k))
 | .str s=>k=1/\K s.length (s.map fun c=>.int .u8 c.toNat)
 | _=>False
def X_ (F:Frame) (x:Option AO) (K:Nat->Prop):Prop:=match x with | none=>K 0 | some r=>Gt F r fun x=>Lu x K
def ZS (F:Frame) (n:Nat) (x:Option AO) (K:Nat->Prop):Prop:=match x with | none=>K n | some r=>Gt F r fun x=>Lu x K
def Ud (a:AA) (K:AA->Prop):List AA->Prop
 | []=>K a
 | b::rest=>match a,b with | .int k x,.int k' y=>k=k'/\Ud (.int k (Min.min x y)) K rest | _,_=>False
def Uc (a:AA) (K:AA->Prop):List AA->Prop
 | []=>K a
 | b::rest=>match a,b with | .int k x,.int k' y=>k=k'/\Uc (.int k (Max.max x y)) K rest | _,_=>False
def Iw (S:AB) (o:Ob) (K:Nat->AB->Prop):Prop:=
 match S with
 | []=>K 0 [o]
 | a::S=>Iw S o fun n S'=>K (n+1) (a::S')
def byteCells (ys:List AA) (K:List UInt8->Prop):Prop:= ∃ns:List Int,ys=ns.map (AA.int .u8)/\K (ns.map fun n=>UInt8.ofNat n.toNat)
def NL (S:AB) (x:AA) (K:List UInt8->Prop):Prop:=
 match x with
 | .AL=>K []
 | .Ez n cs=>n<=cs.length/\byteCells (cs.take n) K
 | .sl l v off n=>J9 S l v fun _ cs=>off+n<=cs.length/\byteCells (A6 cs off n) K
 | _=>False
def AF (P:Program) (F:Frame) (S:AB) (K:AA->AB->Prop):EL->Prop
 | .CD x=>Gt F x fun x=>K x S
 | .DE k=> ∀v,Iw S (.row v k []) fun l S'=>K (.sl l v 0 0) S'
 | .pick c a b=>Gt F c fun c=>match c with
  | .tt=>Gt F a fun x=>K x S
  | .ff=>Gt F b fun x=>K x S
  | .bool c=>(c=true->Gt F a fun x=>K x S)/\(c=false->Gt F b fun x=>K x S)
  | _=>False
 | .alloc k z=> ∀v,Iw S (.row v k z) fun l S'=>K (.ptr l v 0) S'
 | .box k x=>Gt F x fun x=>HR x fun cs=> ∀v,Iw S (.row v k cs) fun l S'=>K (.ptr l v 0) S'
 | .build z parts=>KC F z (fun cs=>K (.agg cs) S) parts
 | .Ax ro len k z parts=>KC F z (fun cs=>match ro with
  | true=>K (.Ez len cs) S
  | false=> ∀v,Iw S (.row v k cs) fun l S'=>K (.sl l v 0 len) S') parts
 | .load n ag x=>Gt F x fun x=>I7 S n ag x fun r=>K r S
 | .store n x v=>Gt F x fun x=>match x with
  | .ptr l ver off=>J9 S l ver fun k cs=>Gt F v fun v=>HR v fun ys=>ys.length=n/\off+n<=cs.length/\
    PC k cs off ys fun cs'=>Lv S l (.row ver k cs') fun S'=>K .C3 S'
  | _=>False
 | .Fg x=>Gt F x fun x=>match x with
  | .ptr l v off=>K (.ptr l v off) S
  | .GX cs=>K (.GX cs) S
  | .fn (.func f) a b=>K (.fn (.func f) a b) S
  | .map l v=>K (.map l v) S
  | _=>False
 | .bin q op x y=>Gt F x fun x=>Gt F y fun y=>HI q op x y fun r=>K r S
 | .Od x=>Gt F x fun x=>match x with | .str s=>K (.str s) S | _=>False
 | .not x=>Gt F x fun x=>lJ x fun b=>K (.bool (!b)) S
 | .neg x=>Gt F x fun x=>jn x fun k n=>f_ k (0-n) fun r=>K r S
 | .conv k x=>Gt F x fun x=>jn x fun _ n=>f_ k n fun r=>K r S
 | .Hq k bytes z len cap=>Gt F len fun x=>Gt F cap fun y=>Lu x fun n=>(y=x\/ ∃kc,∃c:Nat,y= .int kc (c:Int)/\n<=c/\bytes*c<=140737488355328)/\bytes*n<=140737488355328/\
   ∀v,Iw S (.row v k (List.replicate n z).flatten) fun l S'=>K (.sl l v 0 n) S'
 | .slice k x lo hi=>Gt F x fun x=>match k with
  | 0=>match x with
   | .str s=>ZS F s.length hi fun h=>X_ F lo fun j=>j<=h/\h<=s.length/\K (.str ((s.take h).drop j)) S
   | _=>False
  | k+1=>match x with
   | .Ez n cs=>ZS F n hi fun h=>X_ F lo fun j=>j<=h/\h<=n/\n*(k+1)<=cs.length/\K (.Ez (h-j) (A6 cs (j*(k+1)) ((h-j)*(k+1)))) S
   | .sl l v off n=>ZS F n hi fun h=>X_ F lo fun j=>j<=h/\h<=n/\J9 S l v fun k' _=>k'=k+1/\K (.sl l v (off+j*(k+1)) (h-j)) S
   | .AL=>ZS F 0 hi fun h=>X_ F lo fun j=>j=0/\h=0/\K .AL S
   | _=>False
 | .Bo off x=>Gt F x fun x=>match x with
  | .ptr l v o=>K (.ptr l v (o+off)) S
  | .GX cs=>Q6 off cs fun cs'=>K (.GX cs') S
  | _=>False
 | .field off n ag x=>Gt F x fun x=>match x with
  | .agg cs=>Q6 off cs fun ds=>SC n ds fun xs=>Lk ag xs fun r=>K r S
  | _=>False
 | .DT k arr x i=>Gt F x fun x=>Gt F i fun i=>Lu i fun j=>match x,arr with
  | .Ez n cs,none=>j<n/\ ∃xs,takeN k (cs.drop (j*k))=some xs/\K (.GX xs) S
  | .sl l v off n,none=>j<n/\J9 S l v fun k' _=>(k'=k\/k'=0)/\K (.ptr l v (off+j*k)) S
  | .ptr l v off,some n=>j<n/\K (.ptr l v (off+j*k)) S
  | .GX cs,some n=>j<n/\K (.GX (cs.drop (j*k))) S
  | _,_=>False
 | .index k arr ag x i=>Gt F x fun x=>Gt F i fun i=>Lu i fun j=>match x,arr with
  | .str s,none=> ∃c,s[j]?=some c/\K (.int .u8 (c.toNat:Int)) S
  | .agg cs,some n=>j<n/\ ∃xs,takeN k (cs.drop (j*k))=some xs/\Lk ag xs fun r=>K r S
  | _,_=>False
 | .len str x=>Gt F x fun x=>match str with
  | true=>match x with
   | .str s=>K (.int .i64 (s.length:Int)) S
   | _=>False
  | false=>match x with
   | .Ez n _=>K (.int .i64 (n:Int)) S
   | .sl _ _ _ n=>K (.int .i64 (n:Int)) S
   | .AL=>K (.int .i64 ((0:Nat):Int)) S
   | _=>False
 | .append k bytes s x=>Gt F s fun s=>Gt F x fun x=>Nh S k x fun n ys=>match s with
  | .AL=>n*bytes<=140737488355328/\ ∀v,Iw S (.row v k ys) fun l S'=>K (.sl l v 0 n) S'
  | .sl l ver off len=>J9 S l ver fun k' cs=>k'=k/\off+len*k<=cs.length/\(len+n)*bytes<=140737488355328/\
    ∀v,Lv S l (.row v k (A6 cs off (len*k)++ys)) fun S'=>K (.sl l v 0 (len+n)) S'
  | _=>False
 | .XQ k bytes s x=>Gt F s fun s=>Gt F x fun x=>Nh S k x fun n ys=>0<n/\match s with
  | .AL=>n*bytes<=140737488355328/\ ∀v,Iw S (.row v k ys) fun l S'=>K (.sl l v 0 n) S'
  | .sl l ver off len=>J9 S l ver fun k' cs=>k'=k/\off+len*k<=cs.length/\(len+n)*bytes<=140737488355328/\
    (Lv S l (.row ver k (cs.take (off+len*k)++ys)) fun S'=>K (.sl l ver off (len+n)) S')/\ ∀v,Iw S (.row v k (A6 cs off (len*k)++ys)) fun l' S'=>K (.sl l' v 0 (len+n)) S'
  | _=>False
 | .min xs=>Ng F xs fun vs=>match vs with | []=>False | x::rest=>Ud x (fun r=>K r S) rest
 | .max xs=>Ng F xs fun vs=>match vs with | []=>False | x::rest=>Uc x (fun r=>K r S) rest
 | .HJ f first cap=>Ng F first fun xs=>Ng F cap fun ys=>K (.fn f xs ys) S
 | .extract x i=>Gt F x fun x=>match x with | .DH xs=>Q6 i xs fun ds=>(match ds with | y::_=>K y S | []=>False) | _=>False
 | .ext k args=>Ng F args fun xs=>lH k xs fun r=>K r S
 | .call f args=>Ng F args fun xs=>AV P f xs S K
 | .Nv d k f args=>Ng F args fun xs=> ∃n cs,AV P f xs S (fun r S'=> ∃v,r= .sl S.length v 0 n/\S'=S++[.row v k cs])/\0<d/\d<=S.length/\S[S.length-d]?=some .dead/\
   ∀v,K (.sl (S.length-d) v 0 n) (S.set (S.length-d) (.row v k cs))
 | .Pr f args=>Ng F args fun xs=> ∃r0,AV P f xs [] (fun r _=>r=r0)/\K r0 S
 | .GZ x args=>Gt F x fun x=>match x with | .fn (.func f) [] cap=>True/\Ng F args fun xs=>AV P f (xs++cap) S K | .fn (.yield l) [] []=>True/\Ng F args fun xs=>LW P l xs S K | _=>False
 | .bad=>False
 | .peq neg x y=>Gt F x fun x=>Gt F y fun y=>match x,y with
  | .ptr l v off,.ptr l' v' off'=>J9 S l v fun k _=>k=0/\J9 S l' v' fun k' _=>k'=0/\K (.bool (decide (l=l'/\off=off') != neg)) S
  | .ptr _ _ _,.B4=>K (.bool neg) S
  | .B4,.ptr _ _ _=>K (.bool neg) S
  | .GX _,.B4=>K (.bool neg) S
  | .B4,.GX _=>K (.bool neg) S
  | .B4,.B4=>K (.bool (!neg)) S
  | _,_=>False
 | .Ms n x=>Gt F x fun x=>match x with
  | .ptr l v off=>J9 S l v fun k cs=>k=0/\off+n<=cs.length/\K (.sl l v off n) S
  | _=>False
 | .HB neg x=>Gt F x fun x=>match x with
  | .AL=>K (.bool (!neg)) S
  | .Ez n _=> ∀b:Bool,(b=true->n=0)->K (.bool (b != neg)) S
  | .sl _ _ _ n=> ∀b:Bool,(b=true->n=0)->K (.bool (b != neg)) S
  | _=>False
 | .NS d k bytes z len cap=>Gt F len fun x=>Gt F cap fun y=>Lu x fun n=>y=x/\bytes*n<=140737488355328/\0<d/\d<=S.length/\S[S.length-d]?=some .dead/\
   ∀v,K (.sl (S.length-d) v 0 n) (S.set (S.length-d) (.row v k (List.replicate n z).flatten))
 | .NN d k z=>0<d/\d<=S.length/\S[S.length-d]?=some .dead/\ ∀v,K (.ptr (S.length-d) v 0) (S.set (S.length-d) (.row v k z))
 | .J5 d=>0<d/\d<=S.length/\S[S.length-d]?=some .dead/\ ∀v,K (.map (S.length-d) v) (S.set (S.length-d) (.DA v []))
 | .Lf d k f args zs=>Ng F args fun xs=>Ng F zs fun cs=>AV P f xs [] (fun r S'=> ∃v,r= .ptr 0 v 0/\S'=[.row v k cs])/\0<d/\d<=S.length/\S[S.length-d]?=some .dead/\
   ∀v,K (.ptr (S.length-d) v 0) (S.set (S.length-d) (.row v k cs))
 | .WR t x=>Gt F x fun x=>K (.iface t x) S
 | .slice3 k x h m=>Gt F x fun x=>Gt F h fun y=>Gt F m fun z=>Lu y fun n=>z=y/\match x with
  | .sl l v off len=>n<=len/\J9 S l v fun k' _=>k'=k/\K (.sl l v off n) S
  | .AL=>n=0/\K .AL S
  | _=>False
 | .clear k z x=>Gt F x fun x=>match x with
  | .AL=>K .C3 S
  | .sl l v off n=>J9 S l v fun k' cs=>k'=k/\off+n*k<=cs.length/\Lv S l (.row v k (setCells cs off (List.replicate n z).flatten)) fun S'=>K .C3 S'
  | _=>False
 | .rn x=>Gt F x fun x=>match x with
  | .str s=> ∀v,Iw S (.row v 1 (s.map fun c=>.int .u8 c.toNat)) fun l S'=>K (.sl l v 0 s.length) S'
  | _=>False
 | .sA x=>Gt F x fun x=>NL S x fun bs=>K (.str bs) S
 | .mark x=>Gt F x fun x=>match x with | .sl l v off n=>0<n/\J9 S l v fun k _=>k=1/\K (.sl l v off n) S | _=>False
 | .again t n ag x=>Gt F x fun x=>Gt F (.t t) fun y=>I7 S n ag x fun r=>r=y/\K .C3 S
 | .NR=> ∀v,Iw S (.DA v []) fun l S'=>K (.map l v) S'
 | .LL q ok z m k=>Gt F m fun x=>Gt F k fun y=>I5 q y=true/\match x with
  | .I4=>K (UJ ok z false) S
  | .map l v=>fm S l v fun es=>(∀e∈es,I5 q e.1=true)/\K (match IF y es with | some (_,u)=>UJ ok u true | none=>UJ ok z false) S
  | _=>False
 | .aZ q m k x=>Gt F m fun m=>Gt F k fun y=>Gt F x fun u=>I5 q y=true/\match m with
  | .map l v=>fm S l v fun es=>(∀e∈es,I5 q e.1=true)/\Lv S l (.DA v (H8 y u es)) fun S'=>K .C3 S'
  | _=>False
 | .m_ q z m k=>Gt F m fun m=>Gt F k fun y=>I5 q y=true/\match m with
  | .map l v=>fm S l v fun es=>(∀e∈es,I5 q e.1=true)/\match IF y es with
   | some (i,u)=>Lv S l (.DA v (es.set i (y,u))) fun S'=>K (.DH [u,.int .i64 (i:Int)]) S'
   | none=>Lv S l (.DA v (es++[(y,z)])) fun S'=>K (.DH [z,.int .i64 (es.length:Int)]) S'
  | _=>False
 | .Ll x=>Gt F x fun x=>match x with
  | .map l v=>fm S l v fun es=> ∀v',Iw S (.FO v' v es.length es.length []) fun l' S'=>K (.ptr l' v' 0) S'
  | _=>False
 | .UK x=>Gt F x fun x=>match x with
  | .ptr l v 0=>fj S l v fun mv since last seen=> ∃(lm:Nat) (es:List (AA×AA)),S[lm]?=some (Ob.DA mv es)/\es.length=since/\((∀i:Nat,i<es.length->i∈seen)->K (.DH [.bool false]) S)/\
    ∀(i:Nat) (e:AA×AA),es[i]?=some e->i ∉ seen->Lv S l (.FO v mv since es.length (seen++[i])) fun S'=>K (.DH [.bool true,e.1,e.2]) S'
  | _=>False
 | .OA x=>Gt F x fun x=>match x with
  | .ptr l v 0=>fj S l v fun mv since last seen=> ∃(lm:Nat) (es:List (AA×AA)) (i:Nat) (e:AA×AA),S[lm]?=some (Ob.DA mv es)/\last=es.length/\seen.getLast?=some i/\es[i]?=some e/\K (.DH [e.1,e.2]) S
  | _=>False
 | .nC m i x=>Gt F m fun m=>Gt F i fun y=>Gt F x fun u=>Lu y fun j=>match m with
  | .map l v=>fm S l v fun es=>match es[j]? with
   | some e=>Lv S l (.DA v (es.set j (e.1,u))) fun S'=>K .C3 S'
   | none=>False
  | _=>False
structure C9 where
 dst:Option Nat
 op:EL
 guard:Option (Nat×Bool)
 H5:Bool
 Lg:List (Nat×Nat×Bool×AO)
 deriving Inhabited
def Nr (k:Nat×Nat×Bool×AO):C9:=⟨none,.again k.1 k.2.1 k.2.2.1 k.2.2.2,none,false,[]⟩
def D2:List C9->List C9
 | []=>[]
 | o::l=>o::(o.Lg.map Nr++D2 l)
def wh (o:C9):Bool:=match o.op with | .again _ _ _ _=>false | _=>true
def qo:List C9->List C9
 | []=>[]
 | o::l=>match wh o with | true=>o::qo l | false=>qo l
def AK (F:Frame) (d:Option Nat) (x:AA):Frame:=match d with | some d=>(d,x)::F | none=>F
def Ao (H5:Bool) (x:AA) (K:AA->Prop):Prop:=
 match H5 with
 | false=>K x
 | true=>match x with
  | .bool b=>(b=true->K .tt)/\(b=false->K .ff)
  | .tt=>K .tt
  | .ff=>K .ff
  | _=>False
def BK (P:Program) (K:Frame->AB->Prop):List C9->Frame->AB->Prop
 | [],F,S=>K F S
 | o::rest,F,S=>
  match o.guard with
  | none=>AF P F S (fun x S'=>Ao o.H5 x fun x=>BK P K rest (AK F o.dst x) S') o.op
  | some (g,want)=>V2 F g fun c=>match c with
   | .tt=>match want with
    | true=>AF P F S (fun x S'=>Ao o.H5 x fun x=>BK P K rest (AK F o.dst x) S') o.op
    | false=>BK P K rest (AK F o.dst (.DH [])) S
   | .ff=>match want with
    | false=>AF P F S (fun x S'=>Ao o.H5 x fun x=>BK P K rest (AK F o.dst x) S') o.op
    | true=>BK P K rest (AK F o.dst (.DH [])) S
   | .DH _=>BK P K rest (AK F o.dst (.DH [])) S
   | _=>False
def EL.quiet:EL->Bool
 | .CD _ | .pick _ _ _ | .build _ _ | .load _ _ _ | .Fg _ | .bin _ _ _ _ | .Od _ | .not _ | .neg _ | .conv _ _ | .slice _ _ _ _ | .Bo _ _ | .field _ _ _ _
 | .DT _ _ _ _ | .index _ _ _ _ _ | .len _ _ | .min _ | .max _ | .HJ _ _ _ | .extract _ _ | .ext _ _ | .call _ _ | .GZ _ _ | .sA _ | .again _ _ _ _ | .WR _ _ | .slice3 _ _ _ _ | .LL _ _ _ _ _ | .Pr _ _=>true
 | .Ax ro _ _ _ _=>ro
 | _=>false
def DI (P:Program) (F:Frame) (S:AB) (K:AA->AB->Prop):EL->Prop
 | .call f args=>Ng F args fun xs=> ∃r0,AV P f xs S (fun r S'=>r=r0/\S'=S)/\K r0 S
 | .GZ x args=>Gt F x fun x=>match x with
  | .fn (.func f) [] cap=>True/\Ng F args fun xs=> ∃r0,AV P f (xs++cap) S (fun r S'=>r=r0/\S'=S)/\K r0 S
  | _=>False
 | so=>AF P F S K so
def Aj (P:Program) (K:Frame->AB->Prop):Nat->List C9->Frame->AB->Prop
 | 0,l,F,S=>BK P K l F S
 | _+1,[],F,S=>K F S
 | m+1,o::rest,F,S=>
  match o.guard with
  | none=>DI P F S (fun x S'=>Ao o.H5 x fun x=>Aj P K m rest (AK F o.dst x) S') o.op
  | some (g,want)=>V2 F g fun c=>match c with
   | .tt=>match want with
    | true=>DI P F S (fun x S'=>Ao o.H5 x fun x=>Aj P K m rest (AK F o.dst x) S') o.op
    | false=>Aj P K m rest (AK F o.dst (.DH [])) S
   | .ff=>match want with
    | false=>DI P F S (fun x S'=>Ao o.H5 x fun x=>Aj P K m rest (AK F o.dst x) S') o.op
    | true=>Aj P K m rest (AK F o.dst (.DH [])) S
   | .DH _=>Aj P K m rest (AK F o.dst (.DH [])) S
   | _=>False
def mE (P:Program) (f:FuncId):Option gE:=
 match P.funcs[f]? with
 | some fn=>(match fn.body.isNone && (Extern.findNext fn).isNone with
  | true=>if fn.name == "internal/bytealg.IndexByteString" then some .pZ else if fn.name == "internal/bytealg.CountString" then some .wJ else none
  | false=>none)
 | none=>none
inductive Be where
 | normal
 | exit (id:Nat)
 | ret
 deriving DecidableEq
inductive Ag where
 | skip
 | ops (l:List C9) (draw:Option (Nat×Nat×List Nat)) (AW:List Nat)
 | seq (a b:Ag)
 | join (AW W:List Nat) (n:Nat) (a b:Ag)
 | cond (x:AO) (a b:Ag)
 | block (id:Nat) (a:Ag)
 | loop (AW W:List Nat) (n:Nat) (a:Ag)
 | exit (id:Nat)
 | ret
 deriving Inhabited
def Kh (AW:List Nat) (F:Frame) (K:Frame->Prop):Prop:=
 match AW with
 | []=>K []
 | t::AW=>V2 F t fun x=>Kh AW F fun F'=>K ((t,x)::F')
def lR:(n:Nat)->(List AA->Prop)->Prop
 | 0,f=>f []
 | n+1,f=> ∀x,lR n fun l=>f (x::l)
def T_ (W:List Nat) (F:Frame) (K:List AA->Prop):Prop:=
 match W with | []=>K [] | t::W=>V2 F t fun x=>T_ W F fun xs=>K (x::xs)
def Er:List Nat->List AA->Frame->Frame
 | t::W,x::xs,F=>(t,x)::Er W xs F
 | _,_,F=>F
def Be.D_ (N:Frame->AB->Prop) (Q:Be->Frame->AB->Prop):Be->Frame->AB->Prop
 | .normal,F,S=>N F S
 | e,F,S=>Q e F S
def Be.Hr (id:Nat) (Q:Be->Frame->AB->Prop):Be->Frame->AB->Prop
 | .exit id',F,S=>match Nat.beq id' id with | true=>Q .normal F S | false=>Q (.exit id') F S
 | e,F,S=>Q e F S
def vc (P:Program):Ag->(Be->Frame->AB->Prop)->Frame->AB->Prop
 | .skip,Q,F,S=>Q .normal F S
 | .ops l none AW,Q,F,S=>BK P (fun F' S'=>Kh AW F' fun F''=>Q .normal F'' S') l F S
 | .ops l (some d) AW,Q,F,S=>Aj P (fun F' S'=>Kh AW F' fun F''=>Q .normal F'' S') d.1 l F (S++List.replicate d.2.1 .dead)
 | .seq a b,Q,F,S=>vc P a (Be.D_ (vc P b Q) Q) F S
 | .join AW W n a b,Q,F,S=> ∀K:List AA->AB->Prop,
   (Kh AW F fun F0=>lR W.length fun xs=> ∀os,vc P b Q (Er W xs F0) os->K xs os)->
   vc P a (Be.D_ (fun F' S'=>T_ W F' fun xs=>K xs S') Q) F S
 | .cond x a b,Q,F,S=>Gt F x fun c=>match c with
  | .tt=>vc P a Q F S
  | .ff=>vc P b Q F S
  | .bool c=>(c=true->vc P a Q F S)/\(c=false->vc P b Q F S)
  | _=>False
 | .block id a,Q,F,S=>vc P a (Be.Hr id Q) F S
 | .loop AW W n a,Q,F,S=> ∃I:Nat->List AA->AB->Prop,
   (T_ W F fun xs=> ∃k,I k xs S)/\
   Kh AW F fun F0=>lR W.length fun xs=> ∀k os,I k xs os->
    vc P a (Be.D_ (fun F' S'=>T_ W F' fun ys=> ∃k',k'<k/\I k' ys S') Q) (Er W xs F0) os
 | .exit id,Q,F,S=>Q (.exit id) F S
 | .ret,Q,F,S=>Q .ret F S
inductive LS where
 | tmp (t:Nat)
 | cell (t n:Nat) (ag:Bool)
 deriving Inhabited
def Ju (F:Frame) (S:AB) (K:List AA->Prop):List LS->Prop
 | []=>K []
 | .tmp t::rs=>V2 F t fun x=>Ju F S (fun xs=>K (x::xs)) rs
 | .cell t n ag::rs=>V2 F t fun p=>I7 S n ag p fun x=>Ju F S (fun xs=>K (x::xs)) rs
def TY (xs:List AA) (K:AA->Prop):Prop:=match xs with | [x]=>K x | xs=>K (.DH xs)
def Ui:Nat->List AA->Frame
 | _,[]=>[]
 | i,x::xs=>(i,x)::Ui (i+1) xs
def lI (P:Program) (c:Ag) (res:List LS) (args:List AA) (S:AB) (R:AA->AB->Prop):Prop:=
 vc P c (fun e F' S'=>match e with
  | .normal=>Ju F' S' (fun xs=>TY xs fun r=>R r S') res
  | .ret=>Ju F' S' (fun xs=>TY xs fun r=>R r S') res
  | _=>False) (Ui 0 args) S
end Go.Vc
end
section
namespace Go.Vc
def om:Value->Option AA
 | .bool b=>some (.bool b)
 | .int k n=>some (.int k n)
 | .string s=>some (.str s.data.toList)
 | .pointer none=>some .B4
 | .slice none 0 0=>some .AL
 | .map none=>some .I4
 | .nilFunc=>some .I3
 | .nilIface=>some .M8
 | _=>none
def ZZ:List Value->Option (List AA)
 | []=>some []
 | v::vs=>match om v,ZZ vs with | some x,some xs=>some (x::xs) | _,_=>none
def lP:Value->Option AA
 | .agg cs=>match ZZ cs.toList with | some xs=>some (.agg xs) | none=>none
 | v=>om v
def Ad:Operand->Option AO
 | .tmp t=>some (.t t)
 | .const v=>match lP v with | some x=>some (.c x) | none=>none
 | .func f=>some (.c (.fn (.func f) [] []))
 | .global _=>none
def GK:List Operand->Option (List AO)
 | []=>some []
 | x::xs=>match Ad x,GK xs with | some y,some ys=>some (y::ys) | _,_=>none
section
variable {E : Env} {fz : Nat -> Prop} {w : World}
theorem bw {v:Value} {x:AA} (h:om v=some x):Rel E fz w x v/\v.oneCell'=true:=by
 unfold om at h;split at h<;>cases h<;>simp [Rel,Value.oneCell']
theorem KW: ∀ {vs:List Value} {xs:List AA},ZZ vs=some xs->AZ E fz w xs vs/\ ∀c∈vs,c.oneCell'=true
 | [],_,h=>by simp [ZZ] at h;subst h;simp [AZ]
 | v::vs,_,h=>by
  simp only [ZZ] at h;split at h
  ·rename_i x xs h1 h2;cases h;have:=KW h2;have h3:=bw (E:=E) (fz:=fz) (w:=w) h1;refine ⟨by simp only [AZ];exact ⟨v,vs,rfl,h3.1,this.1⟩,fun c hc=>?_⟩;rcases List.mem_cons.1 hc with rfl | hc
   ·exact h3.2
   ·exact this.2 c hc
  ·cases h
theorem Qo {v:Value} {x:AA} (h:lP v=some x):Rel E fz w x v:=by
 unfold lP at h;split at h
 ·rename_i cs;split at h
  ·rename_i xs hx;cases h;have:=KW (E:=E) (fz:=fz) (w:=w) hx;simp only [Rel];exact ⟨cs.toList,by simp,this.1,this.2⟩
  ·cases h
 ·exact (bw h).1
end
theorem Bj {n:Nat} {K:AA->Prop}: ∀ {F:Frame},V2 F n K↔K (F.get n)
 | []=>by simp [V2,Frame.get]
 | (k,x)::F=>by
  simp only [V2,Frame.get];cases Nat.beq k n
  ·exact Bj
  ·exact Iff.rfl
theorem AD {F:Frame} {x:AO} {K:AA->Prop}:Gt F x K↔K (rd F x):=by
 cases x with
 | t n=>exact Bj
 | c x=>exact Iff.rfl
theorem Ar {F:Frame} {xs:List AO} {K:List AA->Prop}:Ng F xs K↔K (xs.map (rd F)):=by
 induction xs generalizing K with
 | nil=>exact Iff.rfl
 | cons x xs ih=>simp only [Ng,AD,ih,List.map_cons]
theorem Cn {n:Nat} {cs:List AA} {K:List AA->Prop}:Q6 n cs K↔K (cs.drop n):=by
 induction n generalizing cs with
 | zero=>simp [Q6]
 | succ n ih=>cases cs with
  | nil=>simp [Q6]
  | cons c cs=>simp [Q6,ih]
theorem Dz {n:Nat} {cs:List AA} {K:List AA->Prop}:SC n cs K↔ ∃xs,takeN n cs=some xs/\K xs:=by
 induction n generalizing cs K with
 | zero=>simp [SC,takeN]
 | succ n ih=>cases cs with
  | nil=>simp [SC,takeN]
  | cons c cs=>
   simp only [SC,takeN,ih];cases takeN n cs<;>simp
theorem Mf {n:Nat} {cs xs:List AA} (h:takeN n cs=some xs):xs=cs.take n/\n<=cs.length:=by
 induction n generalizing cs xs with
 | zero=>simp [takeN] at h;simp [<-h]
 | succ n ih=>cases cs with
  | nil=>simp [takeN] at h
  | cons c cs=>
   simp only [takeN] at h;split at h
   ·rename_i ys hy;cases h;have:=ih hy;simp [this.1,this.2]
   ·cases h
theorem nO {cs ys:List AA} {K:List AA->Prop}:Yz cs ys K↔K (over cs ys):=by
 induction cs generalizing ys K with
 | nil=>simp [Yz,over]
 | cons c cs ih=>cases ys with
  | nil=>simp [Yz,over]
  | cons y ys=>simp [Yz,over,ih]
theorem GH {cs:List AA} {n:Nat} {ys:List AA} {K:List AA->Prop}:JJ cs n ys K↔K (setCells cs n ys):=by
 induction n generalizing cs K with
 | zero=>cases cs<;>simp [JJ,setCells,nO]
 | succ n ih=>cases cs with
  | nil=>simp [JJ,setCells]
  | cons c cs=>simp [JJ,setCells,ih]
theorem Fo {k:Nat} {cs:List AA} {n:Nat} {ys:List AA} {K:List AA->Prop}:PC k cs n ys K↔K (setCells cs n ys):=by
 cases k<;>simp [PC,GH]
theorem XH {S:AB} {l:Nat} {K:Ob->Prop}:fh S l K↔ ∃o,S[l]?=some o/\K o:=by
 induction S generalizing l with
 | nil=>simp [fh]
 | cons a S ih=>cases l with
  | zero=>simp [fh]
  | succ l=>simp [fh,ih]
theorem Cj {S:AB} {l:Nat} {o:Ob} {K:AB->Prop}:Lv S l o K↔l<S.length/\K (S.set l o):=by
 induction S generalizing l K with
 | nil=>simp [Lv]
 | cons a S ih=>cases l with
  | zero=>simp [Lv]
  | succ l=>simp [Lv,ih]
theorem A5 {S:AB} {o:Ob} {K:Nat->AB->Prop}:Iw S o K↔K S.length (S++[o]):=by
 induction S generalizing K with
 | nil=>simp [Iw]
 | cons a S ih=>simp [Iw,ih]
theorem AP {S:AB} {l v:Nat} {K:Nat->List AA->Prop}:J9 S l v K↔ ∃k cs,S[l]?=some (.row v k cs)/\K k cs:=by
 simp only [J9,XH];constructor
 ·rintro ⟨o,h1,h2⟩;cases o with
  | row v' k cs=>obtain ⟨rfl,h⟩:=h2;exact ⟨k,cs,h1,h⟩
  | dead=>exact h2.elim
  | DA v es=>exact h2.elim
  | HD b L F=>exact h2.elim
  | FO v mv since last seen=>exact h2.elim
 ·rintro ⟨k,cs,h1,h2⟩;exact ⟨_,h1,rfl,h2⟩
theorem C7 {S:AB} {l v:Nat} {K:List (AA×AA)->Prop}:fm S l v K↔ ∃es,S[l]?=some (.DA v es)/\K es:=by
 simp only [fm,XH];constructor
 ·rintro ⟨o,h1,h2⟩;cases o with
  | DA v' es=>obtain ⟨rfl,h⟩:=h2;exact ⟨es,h1,h⟩
  | dead=>exact h2.elim
  | row v k cs=>exact h2.elim
  | HD b L F=>exact h2.elim
  | FO v mv since last seen=>exact h2.elim
 ·rintro ⟨es,h1,h2⟩;exact ⟨_,h1,rfl,h2⟩
theorem JO {S:AB} {l v:Nat} {K:Nat->Nat->Nat->List Nat->Prop}:fj S l v K↔ ∃mv since last seen,S[l]?=some (.FO v mv since last seen)/\K mv since last seen:=by
 simp only [fj,XH];constructor
 ·rintro ⟨o,h1,h2⟩;cases o with
  | FO v' mv since last seen=>obtain ⟨rfl,h⟩:=h2;exact ⟨mv,since,last,seen,h1,h⟩
  | dead=>exact h2.elim
  | row v k cs=>exact h2.elim
  | HD b L F=>exact h2.elim
  | DA v es=>exact h2.elim
 ·rintro ⟨mv,since,last,seen,h1,h2⟩;exact ⟨_,h1,rfl,h2⟩
theorem Ij {ag:Bool} {xs:List AA} {K:AA->Prop}:Lk ag xs K↔(ag=true/\K (.agg xs))\/(ag=false/\ ∃x,xs=[x]/\K x):=by
 cases ag
 ·match xs with
  | []=>simp [Lk]
  | [x]=>simp [Lk]
  | x::y::zs=>simp [Lk]
 ·simp [Lk]
def CH (E:Env) (fz:Nat->Prop) (w:World) (F:Frame) (tmps:Array Value):Prop:= ∀n,Rel E fz w (F.get n) (tmps.getD n undef)
def CQ (K:AA->AB->Prop) (E:Env) (fz:Nat->Prop) (S:AB) (w:World) (v:Value) (w':World):Prop:=
 ∃x S' E' fz',K x S'/\Ext E fz S w E' fz' S' w'/\St E' fz' S' w'/\Rel E' fz' w' x v
def wf (rr:Option Nat):Fence:={Fence.wide with round:=rr}
theorem rW {rr:Option Nat} {n:Nat} {P:Program} {f:FuncId} {args:Array Value} {w:World} {R:Ending->World->Prop} (h:Calls P f args w R):CallsIn (wf rr) n P f args w R:=callsIn_wide.2 h
def Al (P:Program) (r:Result Next) (Φ:Value->World->Prop):Prop:=
 match r with
 | .ok (.value v) w'=>Φ v w'
 | .ok .skip w'=>Φ undef w'
 | .ok (.enter f args) w'=>Calls P f args w' fun e w''=> ∃v,e= .returned v/\Φ v w''
 | .ok (.round l f tmps assign body) w'=>RoundIn Fence.wide 0 P l f tmps assign body w' fun e w''=> ∃v,e= .returned v/\Φ v w''
 | _=>False
theorem rX {rr:Option Nat} {P:Program} {l:Nat} {f:FuncId} {tmps:Array Value} {assign body:Code} {w:World} {R:Ending->World->Prop} (h:RoundIn Fence.wide 0 P l f tmps assign body w R):RoundIn (wf rr) 0 P l f tmps assign body w R:=h
theorem XO {rr:Option Nat} {P:Program} {o:Oper} {a:Act} {w:World} {next:Act->World->Prop} {Q:Exit->Act->World->Prop} {Φ:Value->World->Prop} (hd: ∀c,o.op≠ .defer c)
  (h:Al P ((execOp a.eval o).run P w) Φ) (hn: ∀v w',Φ v w'->next (a.put o.dst v) w'):o.wpIn (wf rr) 0 P a w next Q:=by
 refine ⟨fun _ _=>trivial,?_⟩;rw [Oper.semAt_eq _ _ _ hd];generalize (execOp a.eval o).run P w=r at*;cases r with
 | halt x w'=>exact h.elim
 | ok n w'=>
  cases n<;>simp only [Al] at h
  case value v=>rw [Oper.uponIn_value];exact hn _ _ h
  case skip=>rw [Oper.uponIn_skip];exact hn _ _ h
  case enter f args=>
   rw [Oper.uponIn_enter];exact ⟨fun q=>(by cases q),rW (h.mono fun e w'' ⟨v,he,hv⟩=>by subst he;exact hn _ _ hv)⟩
  case round l f tmps assign body=>
   rw [Oper.uponIn_round];refine ⟨fun q=>(by cases q),rX (RoundIn.mono h fun e w'' ⟨v,he,hv⟩=>by subst he;exact hn _ _ hv)⟩
theorem CQ.same {K:AA->AB->Prop} {E:Env} {fz:Nat->Prop} {S:AB} {w:World} {x:AA} {v:Value} (st:St E fz S w) (hk:K x S) (hr:Rel E fz w x v):CQ K E fz S w v w:=
 ⟨x,S,E,fz,hk,.refl,st,hr⟩
section
variable {E : Env} {fz : Nat -> Prop} {w : World} {F : Frame} {a : Act}
theorem Ac (hF:CH E fz w F a.tmps) {x:Operand} {r:AO} (h:Ad x=some r):Rel E fz w (rd F r) (a.eval x):=by
 cases x with
 | tmp t=>simp [Ad] at h;subst h;exact hF t
 | const v=>
  simp only [Ad] at h;split at h
  ·rename_i y hy;cases h;exact Qo hy
  ·cases h
 | func f=>simp [Ad] at h;subst h;simp only [rd,Rel,Act.eval];exact ⟨[],[],rfl,by simp [AZ],by simp [AZ]⟩
 | global g=>simp [Ad] at h
theorem FW (hF:CH E fz w F a.tmps): ∀ {xs:List Operand} {rs:List AO},GK xs=some rs->AZ E fz w (rs.map (rd F)) (xs.map a.eval)
 | [],_,h=>by simp [GK] at h;subst h;simp [AZ]
 | x::xs,_,h=>by
  simp only [GK] at h;split at h
  ·rename_i y ys h1 h2;cases h;simp only [List.map_cons,AZ];exact ⟨_,_,rfl,Ac hF h1,FW hF h2⟩
  ·cases h
end
end Go.Vc
end
section
namespace Go.Vc
theorem IY (b o n:Nat):(⟨b,o,none⟩:Addr).add n=⟨b,o+n,none⟩:=Addr.add_lit b o n
theorem Ce {w:World} {b o:Nat} {arr:Array Value} {T:TypeId} {fr:Nat×Nat} (h:w.heap[b]?=some (.cells arr T fr)):w.cell? ⟨b,o,none⟩=arr[o]?:=by
 simp [World.cell?,h]
theorem Gz {w:World} {b o:Nat} {arr:Array Value} {T:TypeId} {lo hi:Nat} (h:w.heap[b]?=some (.cells arr T (lo,hi))):
  w.frozen? ⟨b,o,none⟩=(lo<=o && o<hi):=by
 simp [World.frozen?,h]
theorem Ul {w:World} {b o:Nat} {v:Value} {arr:Array Value} {T:TypeId} {fr:Nat×Nat} (h:w.heap[b]?=some (.cells arr T fr)):
  (w.setCell ⟨b,o,none⟩ v).heap[b]?=some (.cells (arr.setIfInBounds o v) T fr):=by
 simp [World.setCell,Array.getElem?_modify,h]
theorem Um {w:World} {b o b':Nat} {v:Value} (h:b'≠b):(w.setCell ⟨b,o,none⟩ v).heap[b']?=w.heap[b']?:=by
 simp [World.setCell,Array.getElem?_modify,Ne.symm h]
theorem Is {P:Program} {b st:Nat} {T:TypeId} {lo hi:Nat}: ∀(vs:List Value) (i:Nat) (w:World) (arr:Array Value),
  w.heap[b]?=some (.cells arr T (lo,hi))->st+i+vs.length<=arr.size->(∀j,j<vs.length-> ¬(lo<=st+i+j/\st+i+j<hi))->(∀c∈vs,c.oneCell'=true)->
  ∃w' arr',(storeCells ⟨b,st,none⟩ vs i).run P w= .ok () w'/\w'.heap[b]?=some (.cells arr' T (lo,hi))/\arr'.size=arr.size/\
   (∀j,arr'[j]?=if st+i<=j/\j<st+i+vs.length then vs[j-(st+i)]? else arr[j]?)/\(∀b':Nat,b'≠b->w'.heap[b']?=w.heap[b']?)/\
   w'.heap.size=w.heap.size/\w'.os=w.os/\w'.output=w.output/\Tp w w'
 | [],i,w,arr,h,_,_,_=>by
  refine ⟨w,arr,by simp [storeCells],h,rfl,fun j=>?_,fun _ _=>rfl,rfl,rfl,rfl,Tp.refl⟩;rw [if_neg (by simp only [List.length_nil];omega)]
 | v::vs,i,w,arr,h,hl,hf,h1=>by
  have hv:=h1 v (by simp);have hf0:=hf 0 (by simp);simp only [List.length_cons] at hl;have hc:w.cell? ⟨b,st+i,none⟩=some (arr[st+i]'(by omega)):=by rw [Ce h,Array.getElem?_eq_getElem]
  have hfr:w.frozen? ⟨b,st+i,none⟩=false:=by
   rw [Gz h];have:=hf0;simp only [Nat.add_zero] at this;by_cases g:lo<=st+i
   ·have g2: ¬st+i<hi:=fun g2=>this ⟨g,g2⟩;simp [g2]
   ·simp [g]
  obtain ⟨w',arr',g1,g2,g3,g4,g5,g6,g7,g8,g9⟩:=Is (P:=P) (b:=b) (st:=st) vs (i+1) (w.setCell ⟨b,st+i,none⟩ v) (arr.setIfInBounds (st+i) v)
   (Ul h) (by simp;omega) (fun j hj=>by have:=hf (j+1) (by simp;omega);rwa [show st+i+(j+1)=st+(i+1)+j by omega] at this) (fun c hc=>h1 c (by simp [hc]))
  refine ⟨w',arr',?_,g2,by simpa using g3,fun j=>?_,fun b' hb'=>by rw [g5 b' hb',Um hb'],by simpa using g6,g7,g8,g9⟩
  ·simp only [storeCells,Sem.run_bind,IY,run_store P w _ v _ hv,hc,hfr,Bool.false_eq_true,if_false,Result.andThen_ok];exact g1
  ·rw [g4];simp only [List.length_cons,Array.getElem?_setIfInBounds];by_cases e:j=st+i
   ·subst e;rw [if_neg (by omega),if_pos rfl,if_pos (by omega),if_pos (by omega)];simp
   ·by_cases e2:st+i<=j/\j<st+i+(vs.length+1)
    ·rw [if_pos (by omega),if_pos e2,show j-(st+i)=(j-(st+(i+1)))+1 by omega];simp
    ·rw [if_neg (by omega),if_neg (fun h=>e h.symm),if_neg e2]
section
variable {P : Program} {E : Env} {fz : Nat -> Prop} {S : AB} {w : World}
theorem OP {b off:Nat} {cs:List AA} (h:Ck E fz w b off cs): ∃vs:List Value,AZ E fz w cs vs/\(∀c∈vs,c.oneCell'=true)/\
  (loadCells ⟨b,off,none⟩ cs.length).run P w= .ok vs.toArray w/\(∀(j:Nat) v,vs[j]?=some v->w.cell? ⟨b,off+j,none⟩=some v):=by
 obtain ⟨vs,h1,h2,h3⟩:=h.read;refine ⟨vs,h1,h2,?_,h3⟩;have:=run_loadCells_list (P:=P) w ⟨b,off,none⟩ vs (fun j v hv=>by rw [IY];exact h3 j v hv);rwa [h1.length] at this
theorem dx (lo hi:Nat) (st:St E fz S w) {cs:List AA} {vs rest:List Value} {T:TypeId} (k:Nat) (hr:AZ E fz w cs vs) (h1: ∀c∈vs,c.oneCell'=true)
  {w':World} (hm:lo=hi\/(k=1/\(vs++rest).length<=lo)) (hw:w'.heap=w.heap.push (.cells (vs++rest).toArray T (lo,hi))) (g1:w'.os=w.os) (g2:w'.output=w.output) (g3:Tp w w'):
  ∃ver E',E' ver=some (.real w.heap.size 0 (vs++rest).length k)/\St E' fz (S++[.row ver k cs]) w'/\Ext E fz S w E' fz (S++[.row ver k cs]) w':=by
 obtain ⟨n,hn⟩:=st.fresh;have hE: ∀v x,E v=some x->(fun v=>if v=n then some (Bk.real w.heap.size 0 (vs++rest).length k) else E v) v=some x:=fun v x hx=>by
  have:v≠n:=fun e=>by subst e;rw [hn v (Nat.le_refl _)] at hx;cases hx
  simp [this,hx]
 have hlt: ∀b:Nat,b<w.heap.size->w'.heap[b]?=w.heap[b]?:=fun b hb=>by
  rw [hw,Array.getElem?_push,if_neg (by omega)]
 have hnew:w'.heap[w.heap.size]?=some (.cells (vs++rest).toArray T (lo,hi)):=by rw [hw];simp
 refine ⟨n,fun v=>if v=n then some (.real w.heap.size 0 (vs++rest).length k) else E v,by simp,
  st.fy S.length (.row n k cs) hE ⟨n+1,fun v hv=>by simp [hn v (by omega),show v≠n by omega]⟩ (fun l' hl'=>?_) (by simp) (by rw [hw];simp) (fun b hb _=>hlt b hb) (fun b hb=>.inr ?_) ?_ g1 g2 g3⟩
 ·rw [List.getElem?_append];split
  ·rfl
  ·rename_i hh;rw [List.getElem?_eq_none (by simp;omega),List.getElem?_eq_none (by omega)]
 ·simp [AU] at hb;omega
 ·refine .inr ⟨w.heap.size,0,(vs++rest).length,(vs++rest).toArray,T,lo,hi,by simp,hnew,by simp,?_,by simpa using hm,?_,fun hf=>?_⟩
  ·have:=hr.length;simp;omega
  ·refine Ck.mk fun i x hx=>?_;obtain ⟨v,hv,hrel⟩:=hr.get hx;have hil:i<vs.length:=by
    rcases Nat.lt_or_ge i vs.length with h | h
    ·exact h
    ·simp [List.getElem?_eq_none h] at hv
   refine ⟨v,?_,h1 v (List.mem_of_getElem? hv),hrel.mono hE (fun _ h=>h) (fun b hb=>hlt b (st.Gi b hb))⟩;rw [Ce hnew];simp [List.getElem?_append_left hil,hv]
  ·have:=st.Gi _ hf;omega
theorem LM (st:St E fz S w) {cs:List AA} {vs rest:List Value} {T:TypeId} (k:Nat) (hr:AZ E fz w cs vs) (h1: ∀c∈vs,c.oneCell'=true)
  {w':World} (hw:w'.heap=w.heap.push (.cells (vs++rest).toArray T (0,0))) (g1:w'.os=w.os) (g2:w'.output=w.output) (g3:Tp w w'):
  ∃ver E',E' ver=some (.real w.heap.size 0 (vs++rest).length k)/\St E' fz (S++[.row ver k cs]) w'/\Ext E fz S w E' fz (S++[.row ver k cs]) w':=
 dx 0 0 st k hr h1 (.inl rfl) hw g1 g2 g3
theorem aa (st:St E fz S w) (k:Nat): ∃ver E',E' ver=some .nil/\St E' fz (S++[.row ver k []]) w/\Ext E fz S w E' fz (S++[.row ver k []]) w:=by
 obtain ⟨n,hn⟩:=st.fresh;have hE: ∀v x,E v=some x->(fun v=>if v=n then some Bk.nil else E v) v=some x:=fun v x hx=>by
  have:v≠n:=fun e=>by subst e;rw [hn v (Nat.le_refl _)] at hx;cases hx
  simp [this,hx]
 refine ⟨n,fun v=>if v=n then some .nil else E v,by simp,
  st.fy S.length (.row n k []) hE ⟨n+1,fun v hv=>by simp [hn v (by omega),show v≠n by omega]⟩ (fun l' hl'=>?_) (by simp) (Nat.le_refl _) (fun _ _ _=>rfl) (fun b hb=>?_) ?_ rfl rfl Tp.refl⟩
 ·rw [List.getElem?_append];split
  ·rfl
  ·rename_i hh;rw [List.getElem?_eq_none (by simp;omega),List.getElem?_eq_none (by omega)]
 ·simp [AU] at hb
 ·exact .inl ⟨by simp,rfl⟩
theorem eD: ∀(cs ys:List AA) (i:Nat),ys.length<=cs.length->(over cs ys)[i]?=if i<ys.length then ys[i]? else cs[i]?
 | [],[],i,_=>by simp [over]
 | [],y::ys,i,h=>by simp at h
 | c::cs,[],i,_=>by simp [over]
 | c::cs,y::ys,i,h=>by
  cases i with
  | zero=>simp [over]
  | succ i=>
   have:=eD cs ys i (by simpa using h);simp only [over,List.getElem?_cons_succ,List.length_cons,this];simp
theorem UO: ∀(cs ys:List AA),(over cs ys).length=cs.length
 | [],ys=>by simp [over]
 | c::cs,[]=>by simp [over]
 | c::cs,y::ys=>by simp [over,UO cs ys]
theorem KK: ∀(cs:List AA) (n:Nat) (ys:List AA) (i:Nat),n+ys.length<=cs.length->(setCells cs n ys)[i]?=if n<=i/\i<n+ys.length then ys[i-n]? else cs[i]?
 | cs,0,ys,i,h=>by
  have e:setCells cs 0 ys=over cs ys:=by cases cs<;>rfl
  rw [e,eD cs ys i (by omega)];simp
 | [],n+1,ys,i,h=>by simp at h
 | c::cs,n+1,ys,i,h=>by
  cases i with
  | zero=>simp [setCells]
  | succ i=>
   have:=KK cs n ys i (by simp at h;omega);simp only [setCells,List.getElem?_cons_succ,this];rw [show i+1-(n+1)=i-n by omega];by_cases hh:n<=i/\i<n+ys.length
   ·rw [if_pos hh,if_pos (by omega)]
   ·rw [if_neg hh,if_neg (by omega)]
theorem GC: ∀(cs:List AA) (n:Nat) (ys:List AA),(setCells cs n ys).length=cs.length
 | cs,0,ys=>by
  have e:setCells cs 0 ys=over cs ys:=by cases cs<;>rfl
  rw [e,UO]
 | [],n+1,ys=>by simp [setCells]
 | c::cs,n+1,ys=>by simp [setCells,GC cs n ys]
theorem Y7 (st:St E fz S w) {l ver k off:Nat} {cs ys:List AA} {us:List Value} (hl:S[l]?=some (.row ver k cs)) (hfit:off+ys.length<=cs.length) (hne:ys≠[])
  (hr:AZ E fz w ys us) (h1: ∀c∈us,c.oneCell'=true) {b base cap kk:Nat} (hE:E ver=some (.real b base cap kk)):
  ∃w',(storeCells ⟨b,base+off,none⟩ us 0).run P w= .ok () w'/\St E fz (S.set l (.row ver k (setCells cs off ys))) w'/\Ext E fz S w E fz (S.set l (.row ver k (setCells cs off ys))) w':=by
 have hlt:l<S.length:=by
  rcases Nat.lt_or_ge l S.length with h | h
  ·exact h
  ·simp [List.getElem?_eq_none h] at hl
 have hlen:=hr.length;have hpos:0<ys.length:=List.length_pos_iff.2 hne;rcases st.ok l _ hl with ⟨g1,g2⟩ | ⟨b',base',cap',arr,T,lo,hi,g1,g2,g3,g4,g5,g6,g7⟩
 ·subst g2;simp only [List.length_nil] at hfit;omega
 ·rw [hE] at g1;cases g1;obtain ⟨w',arr',q1,q2,q3,q4,q5,q6,q7,q8,q9⟩:=Is (P:=P) (b:=b) (st:=base+off) us 0 w arr g2 (by omega)
   (fun j hj h=>by rcases g5 with g5 | g5<;>omega) h1
  refine ⟨w',q1,st.fy l (.row ver k (setCells cs off ys)) (fun _ _ h=>h) st.fresh (fun l' hl'=>by rw [List.getElem?_set_ne (Ne.symm hl')]) (by rw [List.getElem?_set_self hlt]) (by omega) (fun bb _ hno=>q5 bb fun e=>hno ?_) (fun bb hb=>.inl ?_) ?_ q7 q8 q9⟩
  ·subst e;exact ⟨_,hl,by simp [AU,hE]⟩
  ·simp [AU,hE] at hb;subst hb;exact ⟨_,hl,by simp [AU,hE]⟩
  ·refine .inr ⟨b,base,cap,arr',T,lo,hi,hE,q2,by omega,by rw [GC];omega,by rw [q3];exact g5,?_,g7⟩;have hk: ∀bb,fz bb->w'.heap[bb]?=w.heap[bb]?:=fun bb hb=>q5 bb fun e=>g7 (e▸hb);refine Ck.mk fun i x hx=>?_;rw [KK cs off ys i hfit] at hx;rw [Ce q2,q4];split at hx
   ·rename_i hh;obtain ⟨v,hv,hrel⟩:=hr.get hx;rw [if_pos (by omega),show base+i-(base+off+0)=i-off by omega];exact ⟨v,hv,h1 v (List.mem_of_getElem? hv),hrel.mono (fun _ _ h=>h) (fun _ h=>h) hk⟩
   ·rename_i hh;rw [if_neg (by omega)];obtain ⟨c,hc,hone,hrel⟩:=g6.get hx;rw [Ce g2] at hc;exact ⟨c,hc,hone,hrel.mono (fun _ _ h=>h) (fun _ h=>h) hk⟩
end
end Go.Vc
end
section
namespace Go.Vc
def CG (P:Program) (t:TypeId):Option Nat:=match P.info? t with | some i=>some i.size | none=>none
def Tl (P:Program) (t:TypeId):Option Nat:=match P.info? t with | some i=>some i.bytes | none=>none
def H4:TypeDesc->Bool | .struct _=>true | .array _ _=>true | _=>false
def IK (P:Program) (t:TypeId):Option (List AA):=
 match P.info? t with | some i=>(match i.zero with | some z=>ZZ z.cells.toList | none=>none) | none=>none
def xR (P:Program) (t:TypeId):Nat:=match P.underlying t with | some (.array _ e)=>(CG P e).getD 0 | _=>0
def SJ (x:Option Operand):Option (Option AO):=match x with | none=>some none | some x=>match Ad x with | some r=>some (some r) | none=>none
def Gv (P:Program) (fs:Array Field):List (Nat×Operand)->Option (List (Nat×Nat×AO))
 | []=>some []
 | (i,x)::rest=>
  match fs[i]?,Ad x,Gv P fs rest with
  | some f,some r,some ps=>(match CG P f.type with | some n=>some ((f.offset,n,r)::ps) | none=>none)
  | _,_,_=>none
def H_ (n:Nat):List (Nat×Operand)->Option (List (Nat×Nat×AO))
 | []=>some []
 | (i,x)::rest=>match Ad x,H_ n rest with | some r,some ps=>some ((i*n,n,r)::ps) | _,_=>none
def Hy (P:Program):Nat->List Field->Option (List FK)
 | _,[]=>some []
 | off,f::fs=>if f.name != "_" && f.offset == off then (match P.underlying f.type,Hy P (off+1) fs with
  | some (.int _),some ks=>some (.int::ks)
  | some .string,some ks=>some (.str::ks)
  | some .bool,some ks=>some (.bool::ks)
  | _,_=>none) else none
def Gh (P:Program):Nat->List Field->Option (List FK)
 | _,[]=>some []
 | off,f::fs=>(match Hy P off [f] with
  | some ks1=>(match Gh P (off+ks1.length) fs with | some ks=>some (ks1++ks) | none=>none)
  | none=>if f.name != "_" && f.offset == off then (match P.underlying f.type with
   | some (.struct gs)=>(match Hy P 0 gs.toList,CG P f.type with
    | some ks1,some n=>if n == ks1.length && !P.stoodInHeld f.type then (match Gh P (off+ks1.length) fs with | some ks=>some (ks1++ks) | none=>none) else none
    | _,_=>none)
   | _=>none) else none)
def sU (P:Program) (t:TypeId):Option lN:=
 match P.underlying t with
 | some .bool=>some .bool
 | some (.int _)=>some .none
 | some .string=>some .none
 | some (.pointer e)=>(match CG P e with | some (_+1)=>some .ptr | _=>none)
 | some (.struct fs)=>(match Gh P 0 fs.toList with | some ks=>if !P.stoodInHeld t && !P.eqGuardType P.depth t then some (.agg ks) else none | none=>none)
 | some (.func _ _ _)=>some .func
 | some (.map _ _)=>some .map
 | _=>none
def dS (P:Program) (t:TypeId):Option Ni:=match P.underlying t with | some .string=>some .str | some (.int k)=>some (.int k) | some .bool=>some .bool | _=>none
def Ys (P:Program) (t:TypeId):Option AA:=match P.info? t with | some i=>(match i.zero with | some z=>lP z | none=>none) | none=>none
def jz (P:Program) (t:TypeId) (m k x:Operand):Option EL:=match P.underlying t,Ad m,Ad k,Ad x with
 | some (.map kt _),some rm,some rk,some rx=>(match dS P kt with | some q=>some (.aZ q rm rk rx) | none=>none)
 | _,_,_,_=>none
def wD (ro:Bool) (k:Nat):Operand->Option EL
 | .const (.slice none 0 0)=>if ro then some (.DE k) else some (.CD (.c .AL))
 | x=>match Ad x with | some r=>some (.CD r) | none=>none
def uJ (P:Program) (t:TypeId):Nat:=match P.underlying t with | some (.slice e)=>(CG P e).getD 0 | _=>0
def oy (P:Program) (op:BinOp) (t:TypeId) (x y:Operand):Option EL:=
 match P.underlying t,y,Ad x with
 | some (.slice _),.const (.slice none 0 0),some x=>(match op with | .eql=>some (.HB false x) | .neq=>some (.HB true x) | _=>none)
 | _,_,_=>none
def wE (P:Program) (op:BinOp) (t:TypeId) (x y:Operand):Option EL:=
 match sU P t,x,y with
 | some .ptr,.tmp a,.tmp b=>(match op with | .eql=>some (.peq false (.t a) (.t b)) | .neq=>some (.peq true (.t a) (.t b)) | _=>none)
 | _,_,_=>none
def fw (P:Program) (ro:Bool) (ty:TypeId):Op->Option EL
 | .move x=>(match Ad x with | some r=>some (.CD r) | none=>none)
 | .assign x=>wD ro (uJ P ty) x
 | .pick c a b=>(match Ad c,Ad a,Ad b with | some c,some a,some b=>some (.pick c a b) | _,_,_=>none)
 | .alloc t=>(match IK P t with | some z=>some (.alloc (xR P t) z) | none=>none)
 | .box t x=>(match Ad x with | some r=>some (.box (xR P t) r) | none=>none)
 | .build t parts=>(match IK P t,P.underlying t with
  | some z,some (.struct fs)=>if fs.toList.all (fun f=>(CG P f.type).isSome) then (match Gv P fs parts.toList with | some ps=>some (.build z ps) | none=>none) else none
  | some z,some (.array _ e)=>(match CG P e with
   | some n=>(match H_ n parts.toList with | some ps=>some (.build z ps) | none=>none)
   | none=>none)
  | _,_=>none)
 | .buildSlice t len parts=>(match P.underlying t with
  | some (.slice e)=>(match CG P e,IK P e with
   | some n,some z=>if len*n<=2 ^ 24/\0<n/\z.length=n then (match H_ n parts.toList with | some ps=>some (.Ax ro len n (List.replicate len z).flatten ps) | none=>none) else none
   | _,_=>none)
  | _=>none)
 | .load t x=>(match P.info? t,P.underlying t,Ad x with
  | some i,some u,some r=>if H4 u then some (.load i.size true r) else some (.load 1 false r)
  | _,_,_=>none)
 | .store t x v=>(match CG P t,Ad x,Ad v with | some n,some x,some v=>if n=0 then none else some (.store n x v) | _,_,_=>none)
 | .nilCheck x=>(match Ad x with | some r=>some (.Fg r) | none=>none)
 | .binOp op t x y u=>(match oy P op t x y with | some so=>some so | none=>match wE P op t x y with | some so=>some so | none=>(match sU P t,Ad x,Ad y with | some q,some x,some y=>some (.bin q op x y) | _,_,_=>none))
 | .unOp .not _ x=>(match Ad x with | some r=>some (.not r) | none=>none)
 | .unOp .neg _ x=>(match Ad x with | some r=>some (.neg r) | none=>none)
 | .convert s d x=>(match P.underlying s,P.underlying d,Ad x with
  | some _,some (.int k),some r=>some (.conv k r)
  | some .string,some .string,some r=>some (.Od r)
  | some .string,some (.slice e),some r=>(match P.underlying e with | some (.int .u8)=>some (.rn r) | _=>none)
  | some (.slice e),some (.slice _),some r=>if s=d then (match P.underlying e with | some (.int .u8)=>some (.mark r) | _=>none) else none
  | some (.slice e),some .string,some r=>(match P.underlying e with | some (.int .u8)=>some (.sA r) | _=>none)
  | _,_,_=>none)
 | .makeSlice t l c=>(match P.underlying t with
  | some (.slice e)=>(match CG P e,Tl P e,IK P e,Ad l,Ad c with
   | some n,some b,some z,some l,some c=>if 0<n/\0<b/\z.length=n then some (.Hq n b z l c) else none
   | _,_,_,_,_=>none)
  | _=>none)
 | .slice t x lo hi none=>(match P.underlying t,Ad x,SJ lo,SJ hi with
  | some .string,some x,some lo,some hi=>some (.slice 0 x lo hi)
  | some (.slice e),some x,some lo,some hi=>(match CG P e with | some (n+1)=>some (.slice (n+1) x lo hi) | _=>none)
  | some (.array n e),some x,some none,some none=>(match CG P e with | some 1=>some (.Ms n x) | _=>none)
  | _,_,_,_=>none)
 | .slice t x none (some h) (some m)=>(match P.underlying t,Ad x,Ad h,Ad m with
  | some (.slice e),some x,some h,some m=>(match CG P e with | some (n+1)=>some (.slice3 (n+1) x h m) | _=>none)
  | _,_,_,_=>none)
 | .fieldAddr s x f=>(match P.underlying s,Ad x with
  | some (.struct fs),some r=>(match fs[f]? with
   | some fd=>(match CG P fd.type with | some (n+1)=>some (.Bo fd.offset r) | _=>none)
   | none=>none)
  | _,_=>none)
 | .field t x f=>(match P.underlying t,Ad x with
  | some (.struct fs),some r=>(match fs[f]? with
   | some fd=>(match P.underlying fd.type,CG P fd.type with
    | some u,some n=>if H4 u then some (.field fd.offset n true r) else some (.field fd.offset 1 false r)
    | _,_=>none)
   | none=>none)
  | _,_=>none)
 | .indexAddr t x i=>(match P.underlying t,Ad x,Ad i with
  | some (.slice e),some x,some i=>(match CG P e with | some n=>some (.DT n none x i) | none=>none)
  | some (.array len e),some x,some i=>(match CG P e with | some n=>some (.DT n (some len) x i) | none=>none)
  | _,_,_=>none)
 | .index t x i=>(match P.underlying t,Ad x,Ad i with
  | some .string,some x,some i=>some (.index 1 none false x i)
  | some (.array len e),some x,some i=>(match P.underlying e,CG P e with
   | some u,some n=>if H4 u then some (.index n (some len) true x i) else (if n=1 then some (.index 1 (some len) false x i) else none)
   | _,_=>none)
  | _,_,_=>none)
 | .makeMap t r=>(match P.underlying t with
  | some (.map _ _)=>(match r with | none=>some .NR | some (.const (.int _ _))=>some .NR | some _=>none)
  | _=>none)
 | .lookup t m k ok=>(match P.underlying t,Ad m,Ad k with
  | some (.map kt e),some rm,some rk=>(match dS P kt,Ys P e with | some q,some z=>some (.LL q ok z rm rk) | _,_=>none)
  | _,_,_=>none)
 | .mapUpdate t m k x=>jz P t m k x
 | .insert t m k x=>jz P t m k x
 | .mapEntry t m k=>(match P.underlying t,Ad m,Ad k with
  | some (.map kt e),some rm,some rk=>(match dS P kt,Ys P e with | some q,some z=>some (.m_ q z rm rk) | _,_=>none)
  | _,_,_=>none)
 | .range t x=>(match P.underlying t,Ad x with | some (.map _ _),some r=>some (.Ll r) | _,_=>none)
 | .next x b=>(match b,Ad x with | false,some r=>some (.UK r) | _,_=>none)
 | .entry x=>(match Ad x with | some r=>some (.OA r) | none=>none)
 | .entryStore _ m i x=>(match Ad m,Ad i,Ad x with | some rm,some ri,some rx=>some (.nC rm ri rx) | _,_,_=>none)
 | .makeInterface t x=>(match P.underlying t,Ad x with | some (.interface _),_=>none | some _,some r=>some (.WR t r) | _,_=>none)
 | .makeFunc f first cap=>(match GK first.toList,GK cap.toList with | some a,some b=>some (.HJ f a b) | _,_=>none)
 | .extract x i=>(match Ad x with | some r=>some (.extract r i) | none=>none)
 | .call c=>(match c.callee,GK c.args.toList with
  | .builtin .len,some [x]=>(match c.argTypes[0]?.bind P.underlying with
   | some .string=>some (.len true x)
   | some (.slice _)=>some (.len false x)
   | _=>none)
  | .builtin .append,some [s,x]=>(match c.argTypes[0]?.bind P.underlying,c.argTypes[1]?.bind P.underlying with
   | some (.slice e),some u=>(match P.info? e with
    | some i=>(match i.zero,u with
     | some z,.slice _=>if 0<i.size/\0<i.bytes/\z.cells.size=i.size then some (.append i.size i.bytes s x) else none
     | some z,.string=>if 0<i.size/\0<i.bytes/\z.cells.size=i.size then some (.append i.size i.bytes s x) else none
     | _,_=>none)
    | none=>none)
   | _,_=>none)
  | .builtin .clear,some [x]=>(match c.argTypes[0]?.bind P.underlying with
   | some (.slice e)=>(match CG P e,IK P e with | some n,some z=>if 0<n/\z.length=n then some (.clear n z x) else none | _,_=>none)
   | _=>none)
  | .builtin .min,some xs=>some (.min xs)
  | .builtin .max,some xs=>some (.max xs)
  | .value (.func f),some xs=>if DC P f then some (.call f xs) else (match mE P f with | some k=>some (.ext k xs) | none=>none)
  | .value x,some xs=>(match Ad x with | some r=>some (.GZ r xs) | none=>none)
  | _,_=>none)
 | _=>none
section
variable {P : Program} {E : Env} {fz : Nat -> Prop} {S : AB} {w : World} {F : Frame} {a : Act} {K : AA -> AB -> Prop} {ro : Bool}
theorem Qe {x:AA} {v:Value} {K:List AA->Prop} (h:HR x K) (hr:Rel E fz w x v): ∃cs:List AA,K cs/\AZ E fz w cs v.cells.toList/\ ∀c∈v.cells.toList,c.oneCell'=true:=by
 have one: ∀ {y:AA} {u:Value},Rel E fz w y u->u.oneCell'=true->u.cells= #[u]->K [y]-> ∃cs:List AA,K cs/\AZ E fz w cs u.cells.toList/\ ∀c∈u.cells.toList,c.oneCell'=true:=by
  intro y u h1 h2 h3 h4;refine ⟨[y],h4,?_,?_⟩
  ·rw [h3];simp only [AZ];exact ⟨u,[],rfl,h1,rfl⟩
  ·rw [h3];simpa using h2
 cases x<;>simp only [HR] at h
 case agg cs=>
  simp only [Rel] at hr;obtain ⟨vs,rfl,h1,h2⟩:=hr;exact ⟨cs,h,by simpa [Value.cells] using h1,by simpa [Value.cells] using h2⟩
 all_goals first | exact h.elim | skip
 all_goals
  have hr':=hr;simp only [Rel] at hr'
 case tt=>subst hr';exact one hr rfl rfl h
 case ff=>subst hr';exact one hr rfl rfl h
 case bool=>subst hr';exact one hr rfl rfl h
 case int=>subst hr';exact one hr rfl rfl h
 case str=>subst hr';exact one hr rfl rfl h
 case B4=>subst hr';exact one hr rfl rfl h
 case ptr=>obtain ⟨_,_,_,_,_,rfl⟩:=hr';exact one hr rfl rfl h
 case GX=>obtain ⟨_,_,_,rfl,_⟩:=hr';exact one hr rfl rfl h
 case AL=>subst hr';exact one hr rfl rfl h
 case sl=>rcases hr' with ⟨_,_,rfl⟩ | ⟨_,_,_,_,_,_,_,_,rfl⟩<;>exact one hr rfl rfl h
 case Ez=>rcases hr' with ⟨_,_,_,rfl⟩ | ⟨_,_,_,_,_,rfl,_⟩<;>exact one hr rfl rfl h
 case fn=>obtain ⟨_,_,rfl,_,_⟩:=hr';exact one hr rfl rfl h
 case I3=>subst hr';exact one hr rfl rfl h
 case map=>obtain ⟨_,_,rfl⟩:=hr';exact one hr rfl rfl h
 case I4=>subst hr';exact one hr rfl rfl h
 case iface=>obtain ⟨_,rfl,_⟩:=hr';exact one hr rfl rfl h
 case M8=>subst hr';exact one hr rfl rfl h
theorem pY {n:Int} (h:AQ n):IntKind.i64.wrap n=n:=by
 unfold AQ at h;simp only [IntKind.wrap,IntKind.bits,IntKind.signed,Bool.true_and,decide_eq_true_eq,show (2:Int) ^ 64=18446744073709551616 from rfl,show (2:Int) ^ (64-1)=9223372036854775808 from rfl];split<;>omega
theorem NM {k:IntKind} {n:Int} {K:AA->Prop} (h:f_ k n K): ∃x,K x/\Rel E fz w x (.int k (k.wrap n)):=by
 unfold f_ at h;split at h
 ·exact ⟨_,h.2,by simp [Rel,pY h.1]⟩
 ·exact ⟨_,h,by simp [Rel]⟩
theorem Ak (st:St E fz S w) {o:Oper} {v:Value} {x:AA} (h:(execOp a.eval o).run P w= .ok (.value v) w) (hk:K x S) (hr:Rel E fz w x v):
  Al P ((execOp a.eval o).run P w) (CQ K E fz S w):=by rw [h];exact CQ.same st hk hr
theorem S_ (st:St E fz S w) (hF:CH E fz w F a.tmps) {o:Oper} {x:Operand} {r:AO} (ho:o.op= .move x\/o.op= .assign x) (hx:Ad x=some r)
  (h:AF P F S K (.CD r)):Al P ((execOp a.eval o).run P w) (CQ K E fz S w):=by
 simp only [AF,AD] at h;refine Ak st ?_ h (Ac hF hx);rcases ho with ho | ho<;>simp [execOp,ho]
theorem jI (st:St E fz S w) (hF:CH E fz w F a.tmps) {o:Oper} {c x y:Operand} {rc rx ry:AO} (ho:o.op= .pick c x y) (hc:Ad c=some rc) (hx:Ad x=some rx) (hy:Ad y=some ry)
  (h:AF P F S K (.pick rc rx ry)):Al P ((execOp a.eval o).run P w) (CQ K E fz S w):=by
 have h1:=Ac hF hc;have h2:=Ac hF hx;have h3:=Ac hF hy;simp only [AF,AD] at h;generalize rd F rc=C at*;cases C<;>simp only [Rel] at h1<;>first | exact h.elim | skip
 case tt=>exact Ak st (by simp [execOp,ho,h1,asBool]) h h2
 case ff=>exact Ak st (by simp [execOp,ho,h1,asBool]) h h3
 case bool b=>
  cases b
  ·exact Ak st (by simp [execOp,ho,h1,asBool]) (h.2 rfl) h3
  ·exact Ak st (by simp [execOp,ho,h1,asBool]) (h.1 rfl) h2
theorem ab (st:St E fz S w) (hF:CH E fz w F a.tmps) {o:Oper} {x:Operand} {r:AO} (ho:o.op= .nilCheck x) (hx:Ad x=some r)
  (h:AF P F S K (.Fg r)):Al P ((execOp a.eval o).run P w) (CQ K E fz S w):=by
 have h1:=Ac hF hx;simp only [AF,AD] at h;generalize rd F r=X at*;cases X<;>first | exact h.elim | skip
 case ptr l v off=>
  have h1':=h1;simp only [Rel] at h1';obtain ⟨_,_,_,_,_,e⟩:=h1';exact Ak st (by simp [execOp,ho,e]) h (e▸h1)
 case GX cs=>
  have h1':=h1;simp only [Rel] at h1';obtain ⟨_,_,_,e,_⟩:=h1';exact Ak st (by simp [execOp,ho,e]) h (e▸h1)
 case fn f xs ys=>
  have h1':=h1;simp only [Rel] at h1';obtain ⟨vs,us,e,_,_⟩:=h1';cases f<;>first | exact h.elim | skip
  exact Ak st (by simp [execOp,ho,e]) h (e▸h1)
 case map l v=>
  have h1':=h1;simp only [Rel] at h1';obtain ⟨_,_,e⟩:=h1';exact Ak st (by simp [execOp,ho,e]) h (e▸h1)
theorem fZ (st:St E fz S w) (hF:CH E fz w F a.tmps) {o:Oper} {x:Operand} {r:AO} {t:TypeId} (hx:Ad x=some r)
  (h:(o.op= .unOp .not t x/\AF P F S K (.not r))\/(o.op= .unOp .neg t x/\AF P F S K (.neg r))):Al P ((execOp a.eval o).run P w) (CQ K E fz S w):=by
 have h1:=Ac hF hx;rcases h with ⟨ho,h⟩ | ⟨ho,h⟩<;>simp only [AF,AD] at h<;>generalize rd F r=X at*
 ·cases X<;>simp only [lJ] at h<;>simp only [Rel] at h1<;>
   exact Ak st (by simp [execOp,ho,h1,Op.unary];rfl) h (by simp [Rel])
 ·cases X<;>simp only [jn] at h;simp only [Rel] at h1;obtain ⟨y,hy,hr⟩:=NM (E:=E) (fz:=fz) (w:=w) h;exact Ak st (by simp [execOp,ho,h1,Op.unary,Op.intArith];rfl) hy (by simpa using hr)
theorem g_ (st:St E fz S w) (hF:CH E fz w F a.tmps) {o:Oper} {x:Operand} {r:AO} {s d:TypeId} {u:TypeDesc} {k:IntKind} (ho:o.op= .convert s d x) (hs:P.underlying s=some u) (hd:P.underlying d=some (.int k)) (hx:Ad x=some r)
  (h:AF P F S K (.conv k r)):Al P ((execOp a.eval o).run P w) (CQ K E fz S w):=by
 have h1:=Ac hF hx;simp only [AF,AD] at h;generalize rd F r=X at*;cases X<;>simp only [jn] at h;simp only [Rel] at h1;obtain ⟨y,hy,hr⟩:=NM (E:=E) (fz:=fz) (w:=w) h;exact Ak st (by simp [execOp,ho,h1,convert,run_underlying hs,run_underlying hd,Conv.intToInt]) hy hr
theorem fT (st:St E fz S w) (hF:CH E fz w F a.tmps) {o:Oper} {x:Operand} {r:AO} {s d:TypeId} (ho:o.op= .convert s d x) (hs:P.underlying s=some .string) (hd:P.underlying d=some .string) (hx:Ad x=some r)
  (h:AF P F S K (.Od r)):Al P ((execOp a.eval o).run P w) (CQ K E fz S w):=by
 have h1:=Ac hF hx;simp only [AF,AD] at h;generalize rd F r=X at*;cases X<;>first | exact h.elim | skip
 have h1':=h1;simp only [Rel] at h1';exact Ak st (by simp [execOp,ho,h1',convert,run_underlying hs,run_underlying hd]) h (h1'▸h1)
theorem jD (st:St E fz S w) (hF:CH E fz w F a.tmps) {o:Oper} {t:TypeId} {d:TypeDesc} {x:Operand} {r:AO} (ho:o.op= .makeInterface t x) (ht:P.underlying t=some d) (hd: ∀m,d≠ .interface m) (hx:Ad x=some r)
  (h:AF P F S K (.WR t r)):Al P ((execOp a.eval o).run P w) (CQ K E fz S w):=by
 simp only [AF,AD] at h;refine Ak st (v:= .iface t (a.eval x)) ?_ h ?_
 ·simp only [execOp,ho,Instr.makeInterface,Sem.run_bind,run_underlying ht,Result.andThen_ok];cases d<;>first | rfl | exact absurd rfl (hd _)
 ·simp only [Rel];exact ⟨_,rfl,Ac hF hx⟩
theorem aX (st:St E fz S w) (hF:CH E fz w F a.tmps) {o:Oper} {f:Fn} {x y:Array Operand} {rx ry:List AO} (ho:o.op= .makeFunc f x y) (hx:GK x.toList=some rx) (hy:GK y.toList=some ry)
  (h:AF P F S K (.HJ f rx ry)):Al P ((execOp a.eval o).run P w) (CQ K E fz S w):=by
 simp only [AF,Ar] at h;refine Ak st (v:= .func f (x.map a.eval) (y.map a.eval)) (by simp [execOp,ho,Instr.makeFunc]) h ?_;simp only [Rel];exact ⟨x.toList.map a.eval,y.toList.map a.eval,by simp [<-Array.toList_map],FW hF hx,FW hF hy⟩
theorem Xb (st:St E fz S w) (hF:CH E fz w F a.tmps) {o:Oper} {x:Operand} {r:AO} {i:Nat} (ho:o.op= .extract x i) (hx:Ad x=some r)
  (h:AF P F S K (.extract r i)):Al P ((execOp a.eval o).run P w) (CQ K E fz S w):=by
 have h1:=Ac hF hx;simp only [AF,AD] at h;generalize rd F r=X at*;cases X<;>simp only [Cn] at h
 case DH xs=>
  simp only [Rel] at h1;obtain ⟨vs,e,hl⟩:=h1;cases hd:xs.drop i with
  | nil=>rw [hd] at h;exact h.elim
  | cons y ys=>
   rw [hd] at h;have hi:xs[i]?=some y:=by
    have:=congrArg (·[0]?) hd;simpa using this
   obtain ⟨v,hv,hr⟩:=hl.get hi;exact Ak st (by simp [execOp,ho,e,Instr.extract,hv]) h hr
 all_goals exact h.elim
theorem Ym (st:St E fz S w) (hF:CH E fz w F a.tmps) {o:Oper} {c:Call} {r:AO} {t:TypeId} {str:Bool} (ho:o.op= .call c) (hc:c.callee= .builtin .len) (hargs:GK c.args.toList=some [r])
  (ht:c.argTypes[0]?=some t) (hu:(str=true/\P.underlying t=some .string)\/(str=false/\ ∃e,P.underlying t=some (.slice e)))
  (h:AF P F S K (.len str r)):Al P ((execOp a.eval o).run P w) (CQ K E fz S w):=by
 have h1:=FW hF hargs;simp only [List.map_cons,List.map_nil,AZ] at h1;obtain ⟨v,us,e1,hr,rfl⟩:=h1;have e2:(c.args.map a.eval)[0]?=some v:=by rw [<-Array.getElem?_toList,Array.toList_map,e1];rfl
 simp only [AF,AD] at h;generalize rd F r=X at*;have go: ∀ {n:Nat},(Builtin.len_ c.argTypes o.type (c.args.map a.eval)).run P w= .ok (goInt n) w->K (.int .i64 (n:Int)) S->Al P ((execOp a.eval o).run P w) (CQ K E fz S w):=fun {n} hrun hk=>by
  refine Ak st (v:= .int .i64 n) ?_ hk (by simp [Rel]);simp [execOp,ho,resolve,hc,invoke,builtin,hrun,goInt]
 rcases hu with ⟨rfl,hu⟩ | ⟨rfl,e,hu⟩
 ·cases X<;>first | exact h.elim | skip
  rename_i s;simp only [Rel] at hr;subst hr;refine go (n:=s.length) ?_ h;simp [Builtin.len_,ht,e2,run_underlying hu];rfl
 ·have slice: ∀ {ao:Option Addr} {n cap:Nat},v= .slice ao n cap->K (.int .i64 (n:Int)) S->Al P ((execOp a.eval o).run P w) (CQ K E fz S w):=fun {ao n cap} hv hk=>by
   subst hv;exact go (by simp [Builtin.len_,ht,e2,run_underlying hu]) hk
  cases X<;>first | exact h.elim | skip
  case Ez n cs=>
   simp only [Rel] at hr;rcases hr with ⟨rfl,_,_,rfl⟩ | ⟨_,_,_,_,_,rfl,_⟩<;>exact slice rfl h
  case sl l ver off n=>
   simp only [Rel] at hr;rcases hr with ⟨rfl,_,rfl⟩ | ⟨_,_,_,_,_,_,_,_,rfl⟩<;>exact slice rfl h
  case AL=>
   simp only [Rel] at hr;exact slice hr h
end
end Go.Vc
end
section
namespace Go.Vc
section
variable {P : Program} {E : Env} {fz : Nat -> Prop} {S : AB} {w : World} {F : Frame} {a : Act} {K : AA -> AB -> Prop} {ro : Bool}
theorem YL {f:FuncId} {xs:List AA} {vals:List Value} (st:St E fz S w) (h:AV P f xs S K) (hr:AZ E fz w xs vals):
  Nl P f vals.toArray w fun e w''=> ∃v,e= .returned v/\CQ K E fz S w v w'':=
 (h.out E fz w vals st hr).mono fun e w' ⟨r,S',v,E',fz',he,hx,hs,hrel,hk⟩=>⟨v,he,r,S',E',fz',hk,hx,hs,hrel⟩
theorem NF {f:FuncId} {args:Array Value} (h:DC P f=true):(callFunc f args).run P w= .ok (.enter f args) w:=by
 unfold DC at h;cases hf:P.funcs[f]? with
 | none=>rw [hf] at h;cases h
 | some fn=>
  rw [hf] at h;simp only [Bool.and_eq_true,bne_iff_ne,ne_eq] at h;obtain ⟨h1,h2⟩:=h;have h3:fn.body.isNone=false:=by cases hh:fn.body<;>simp_all
  have h4:(fn.name == "runtime.NumGoroutine")=false:=by simpa using h2
  simp only [callFunc,Sem.run_bind,run_program,Result.andThen_ok,hf,h4,h3,Bool.false_eq_true,if_false,Sem.run_pure]
theorem Nl.calls {f:FuncId} {args:Array Value} {R:Ending->World->Prop} (h:Nl P f args w R) (ha:DC P f=true):Calls P f args w R:=by
 rcases h with ⟨_,h⟩ | ⟨v,w',h,_⟩
 ·exact h
 ·rw [NF ha] at h;cases h
theorem gU (st:St E fz S w) (hF:CH E fz w F a.tmps) {o:Oper} {c:Call} {f:FuncId} {xs:List AO} (ho:o.op= .call c) (hc:c.callee= .value (.func f)) (hargs:GK c.args.toList=some xs)
  (hf:DC P f=true) (h:AF P F S K (.call f xs)):Al P ((execOp a.eval o).run P w) (CQ K E fz S w):=by
 have h1:=FW hF hargs;simp only [AF,Ar] at h;have hrun:(execOp a.eval o).run P w= .ok (.enter f (c.args.map a.eval)) w:=by
  simp [execOp,ho,resolve,hc,Deferred.ofValue,invoke,Act.eval,NF hf]
 rw [hrun];have:=(YL st h h1).calls hf;simpa [Al,<-Array.toList_map] using this
theorem mH {fn:Func} (h:fn.name= "internal/bytealg.IndexByteString"):Extern.find fn=some Extern.BytealgIndexByte.indexByte:=by
 have h1:Extern.allGenericRows.lookup "internal/bytealg.IndexByteString" =none:=by kernel_rfl
 have h2:Extern.allTypedRows.lookup "internal/bytealg.IndexByteString" =none:=by kernel_rfl
 have h3:Extern.allRows.lookup "internal/bytealg.IndexByteString" =some Extern.BytealgIndexByte.indexByte:=by kernel_rfl
 simp only [Extern.find,h,h1,h2,h3,Option.map_none,HOrElse.hOrElse,OrElse.orElse,Option.orElse]
theorem pP {fn:Func} (h:fn.name= "internal/bytealg.CountString"):Extern.find fn=some Extern.BytealgCount.count:=by
 have h1:Extern.allGenericRows.lookup "internal/bytealg.CountString" =none:=by kernel_rfl
 have h2:Extern.allTypedRows.lookup "internal/bytealg.CountString" =none:=by kernel_rfl
 have h3:Extern.allRows.lookup "internal/bytealg.CountString" =some Extern.BytealgCount.count:=by kernel_rfl
 simp only [Extern.find,h,h1,h2,h3,Option.map_none,HOrElse.hOrElse,OrElse.orElse,Option.orElse]
theorem mF {f:FuncId} (h:mE P f=some .pZ) (args:Array Value) (w:World):(callFunc f args).run P w=((Extern.BytealgIndexByte.indexByte args).run P w).andThen fun v w'=>.ok (.value v) w':=by
 unfold mE at h;split at h
 ·rename_i fn hf;split at h
  ·rename_i hb;simp only [Bool.and_eq_true] at hb;split at h
   ·rename_i hn;have hn:=eq_of_beq hn;exact run_callFunc_extern hf (by rw [hn];rfl) hb.1 (Option.isNone_iff_eq_none.1 hb.2) (mH hn) args w
   ·split at h<;>cases h
  ·cases h
 ·cases h
theorem pN {f:FuncId} (h:mE P f=some .wJ) (args:Array Value) (w:World):(callFunc f args).run P w=((Extern.BytealgCount.count args).run P w).andThen fun v w'=>.ok (.value v) w':=by
 unfold mE at h;split at h
 ·rename_i fn hf;split at h
  ·rename_i hb;simp only [Bool.and_eq_true] at hb;split at h
   ·cases h
   ·split at h
    ·rename_i hn;have hn:=eq_of_beq hn;exact run_callFunc_extern hf (by rw [hn];rfl) hb.1 (Option.isNone_iff_eq_none.1 hb.2) (pP hn) args w
    ·cases h
  ·cases h
 ·cases h
theorem mG (st:St E fz S w) (hF:CH E fz w F a.tmps) {o:Oper} {c:Call} {f:FuncId} {xs:List AO} {k:gE} (ho:o.op= .call c) (hc:c.callee= .value (.func f)) (hargs:GK c.args.toList=some xs)
  (hf:mE P f=some k) (h:AF P F S K (.ext k xs)):Al P ((execOp a.eval o).run P w) (CQ K E fz S w):=by
 have h1:=FW hF hargs;simp only [AF,Ar] at h;have hrun: ∀v,((callFunc f (c.args.map a.eval)).run P w= .ok (.value v) w)->(execOp a.eval o).run P w= .ok (.value v) w:=fun v hv=>by
  simp [execOp,ho,resolve,hc,Deferred.ofValue,invoke,Act.eval,hv]
 have e0:c.args.map a.eval=(c.args.toList.map a.eval).toArray:=by apply Array.ext';simp
 generalize hX:xs.map (rd F)=X at*;unfold lH at h;split at h
 ·rename_i s n;simp only [AZ,Rel] at h1;obtain ⟨v,us,e1,rfl,u,us',rfl,rfl,rfl⟩:=h1;refine Ak st (hrun (.int .i64 (Lib.indexByte s n.toNat.toUInt8)) ?_) h (by simp only [Rel]);rw [mF hf,e0,e1,Lib.run_indexByteString];rfl
 ·rename_i s n;simp only [AZ,Rel] at h1;obtain ⟨v,us,e1,rfl,u,us',rfl,rfl,rfl⟩:=h1;refine Ak st (hrun (.int .i64 (Lib.countByte s n.toNat.toUInt8:Nat)) ?_) h (by simp only [Rel]);rw [pN hf,e0,e1,Lib.run_countString];rfl
 ·exact h.elim
theorem cG (st:St E fz S w) (hF:CH E fz w F a.tmps) {o:Oper} {c:Call} {x:Operand} {r:AO} {xs:List AO} (ho:o.op= .call c) (hc:c.callee= .value x) (hargs:GK c.args.toList=some xs)
  (hx:Ad x=some r) (h:AF P F S K (.GZ r xs)):Al P ((execOp a.eval o).run P w) (CQ K E fz S w):=by
 have h1:=FW hF hargs;have h2:=Ac hF hx;simp only [AF,AD,Ar] at h;generalize hX:rd F r=X at*;cases X<;>first | exact h.elim | skip
 rename_i f first cap
 cases f
 case func f=>
  cases first<;>first | exact h.elim | skip
  simp only [Rel] at h2;obtain ⟨vs,us,e,g1,g2⟩:=h2;simp only [AZ] at g1;subst g1;have:=YL st h.2 (h1.append g2);have e2:(c.args.toList.map a.eval++us).toArray=c.args.map a.eval++us.toArray:=by apply Array.ext';simp
  rw [e2] at this;rcases this with ⟨ha,this⟩ | ⟨v,w',q1,q2⟩
  ·have hrun:(execOp a.eval o).run P w= .ok (.enter f (c.args.map a.eval++us.toArray)) w:=by
    simp [execOp,ho,resolve,hc,Deferred.ofValue,e,invoke,NF ha]
   rw [hrun];exact this
  ·have hrun:(execOp a.eval o).run P w= .ok (.value v) w':=by
    simp [execOp,ho,resolve,hc,Deferred.ofValue,e,invoke,q1]
   rw [hrun];obtain ⟨v',e',hp⟩:=q2;cases e';exact hp
 case yield l=>
  cases first<;>first | exact h.elim | skip
  cases cap<;>first | exact h.elim | skip
  simp only [Rel,AZ] at h2;obtain ⟨vs,us,e,rfl,rfl⟩:=h2;obtain ⟨_,h⟩:=h;obtain ⟨fn,tmps,assign,body,hy,hR⟩:=h.out E fz w _ st h1;have e2:(c.args.toList.map a.eval).toArray=c.args.map a.eval:=by apply Array.ext';simp
  rw [e2] at hy;have hrun:(execOp a.eval o).run P w= .ok (.round l fn tmps assign body) w:=by
   simp [execOp,ho,resolve,hc,Deferred.ofValue,e,invoke,callFunc,hy]
  rw [hrun];exact RoundIn.mono hR fun e' w'' ⟨r,S',v,E',fz',q1,q2,q3,q4,q5⟩=>⟨v,q1,r,S',E',fz',q5,q2,q3,q4⟩
 all_goals exact h.elim
theorem p_: ∀(xs:List AA) (vs:List Value) (x:AA) (v:Value) {K:AA->Prop},AZ E fz w xs vs->Rel E fz w x v->Ud x K xs->
  ∃u y,(vs.foldlM Builtin.min2 v).run P w= .ok u w/\K y/\Rel E fz w y u
 | [],vs,x,v,K,hl,hr,h=>by
  simp only [AZ] at hl;subst hl;exact ⟨v,x,by simp,h,hr⟩
 | y::xs,vs,x,v,K,hl,hr,h=>by
  simp only [AZ] at hl;obtain ⟨u,us,rfl,h2,h3⟩:=hl;cases x<;>cases y<;>simp only [Ud] at h;rename_i k n k' m;obtain ⟨rfl,h⟩:=h;simp only [Rel] at hr h2;subst hr h2;obtain ⟨u',y',q1,q2,q3⟩:=p_ xs us _ (.int k (min n m)) h3 (by simp only [Rel]) h;refine ⟨u',y',?_,q2,q3⟩;simp only [List.foldlM_cons,Sem.run_bind,Builtin.min2,Sem.run_pure,Result.andThen_ok];have:(if m<n then m else n)=min n m:=by omega
  rw [this];exact q1
theorem py: ∀(xs:List AA) (vs:List Value) (x:AA) (v:Value) {K:AA->Prop},AZ E fz w xs vs->Rel E fz w x v->Uc x K xs->
  ∃u y,(vs.foldlM Builtin.max2 v).run P w= .ok u w/\K y/\Rel E fz w y u
 | [],vs,x,v,K,hl,hr,h=>by
  simp only [AZ] at hl;subst hl;exact ⟨v,x,by simp,h,hr⟩
 | y::xs,vs,x,v,K,hl,hr,h=>by
  simp only [AZ] at hl;obtain ⟨u,us,rfl,h2,h3⟩:=hl;cases x<;>cases y<;>simp only [Uc] at h;rename_i k n k' m;obtain ⟨rfl,h⟩:=h;simp only [Rel] at hr h2;subst hr h2;obtain ⟨u',y',q1,q2,q3⟩:=py xs us _ (.int k (max n m)) h3 (by simp only [Rel]) h;refine ⟨u',y',?_,q2,q3⟩;simp only [List.foldlM_cons,Sem.run_bind,Builtin.max2,Sem.run_pure,Result.andThen_ok];have:(if n<m then m else n)=max n m:=by omega
  rw [this];exact q1
theorem Rg (st:St E fz S w) (hF:CH E fz w F a.tmps) {o:Oper} {c:Call} {xs:List AO} (ho:o.op= .call c) (hargs:GK c.args.toList=some xs)
  (h:(c.callee= .builtin .min/\AF P F S K (.min xs))\/(c.callee= .builtin .max/\AF P F S K (.max xs))):Al P ((execOp a.eval o).run P w) (CQ K E fz S w):=by
 have h1:=FW hF hargs;rcases h with ⟨hc,h⟩ | ⟨hc,h⟩<;>simp only [AF,Ar] at h<;>generalize xs.map (rd F)=ys at* <;>cases ys<;>first | exact h.elim | skip
 all_goals
  rename_i y ys;simp only [AZ] at h1;obtain ⟨v,us,e,h2,h3⟩:=h1
 ·obtain ⟨u,z,q1,q2,q3⟩:=p_ (P:=P) ys us y v h3 h2 h;exact Ak st (by simp [execOp,ho,resolve,hc,invoke,builtin,Builtin.min_,e,q1]) q2 q3
 ·obtain ⟨u,z,q1,q2,q3⟩:=py (P:=P) ys us y v h3 h2 h;exact Ak st (by simp [execOp,ho,resolve,hc,invoke,builtin,Builtin.max_,e,q1]) q2 q3
theorem sS {op:BinOp} {r:Bool} {K:AA->Prop} (h:YR op r K):(op= .eql/\K (.bool r))\/(op= .neq/\K (.bool (!r))):=by
 cases op<;>simp only [YR] at h<;>first | exact h.elim | skip
 ·exact .inl ⟨rfl,h⟩
 ·exact .inr ⟨rfl,h⟩
theorem Fx (s:List UInt8):(⟨s.toArray⟩:ByteArray).toList=s:=by rw [ByteArray.toList_eq]
theorem Zh (a b:Int):(a == b)=decide (a=b):=by
 by_cases h:a=b<;>simp [h]
theorem L7 (a b:List UInt8):(a == b)=decide (a=b):=by
 by_cases h:a=b<;>simp [h]
theorem cD (a b:Bool):(a == b)=decide (a=b):=by
 by_cases h:a=b<;>simp [h]
theorem Vu (d:Nat): ∀(fs:List Field) (ks:List FK) (off:Nat) (xs ys:List AA) (vs us:List Value) (av au:List Value) {K:Bool->Prop},Hy P off fs=some ks->AZ E fz w xs vs->AZ E fz w ys us->
  (∀(i:Nat) v,vs[i]?=some v->av[off+i]?=some v)->(∀(i:Nat) v,us[i]?=some v->au[off+i]?=some v)->BC ks xs ys K->
  ∃r,(Op.eqFields (d+1) av.toArray au.toArray fs).run P w= .ok r w/\K r
 | [],ks,off,xs,ys,vs,us,av,au,K,hf,_,_,_,_,h=>by
  simp only [Hy] at hf;cases hf;cases xs<;>cases ys<;>simp only [BC] at h;exact ⟨true,by simp [Op.eqFields],h⟩
 | f::fs,ks,off,xs,ys,vs,us,av,au,K,hf,hx,hy,h1,h2,h=>by
  simp only [Hy] at hf;split at hf
  case isFalse=>cases hf
  rename_i hname;simp only [Bool.and_eq_true,bne_iff_ne,ne_eq,beq_iff_eq] at hname;obtain ⟨fname,foff⟩:=hname;have main: ∀ {x y:AA} {xs' ys':List AA} {ks':List FK} {dsc:TypeDesc} {q:Bool} {v u:Value} {vs' us':List Value},xs=x::xs'->ys=y::ys'->vs=v::vs'->us=u::us'->P.underlying f.type=some dsc->H4 dsc=false->
    Hy P (off+1) fs=some ks'->AZ E fz w xs' vs'->AZ E fz w ys' us'->
    (Op.equalIn (d+1) f.type v u).run P w= .ok q w->(BC ks' xs' ys' fun r=>K (q && r))-> ∃r,(Op.eqFields (d+1) av.toArray au.toArray (f::fs)).run P w= .ok r w/\K r:=by
   intro x y xs' ys' ks' dsc q v u vs' us' ex ey ev eu hd hagg hfs hxs hys hq hk;subst ex ey ev eu;have g1:av[off]?=some v:=by simpa using h1 0 v rfl
   have g2:au[off]?=some u:=by simpa using h2 0 u rfl
   have n1: ∀(i:Nat) v',vs'[i]?=some v'->av[off+1+i]?=some v':=fun i v' hi=>by have:=h1 (i+1) v' (by simpa using hi);rwa [show off+(i+1)=off+1+i by omega] at this
   have n2: ∀(i:Nat) v',us'[i]?=some v'->au[off+1+i]?=some v':=fun i v' hi=>by have:=h2 (i+1) v' (by simpa using hi);rwa [show off+(i+1)=off+1+i by omega] at this
   have hpart: ∀(l:List Value) z,l[off]?=some z->(part f.type l.toArray f.offset).run P w= .ok z w:=fun l z hz=>by
    have:(isAgg f.type).run P w= .ok false w:=by
     simp only [isAgg,Sem.run_bind,run_underlying hd,Result.andThen_ok];cases dsc<;>first | rfl | cases hagg
    simp [part,this,foff,hz]
   simp only [Op.eqFields];rw [if_pos fname];simp only [Sem.run_bind,hpart av v g1,hpart au u g2,Result.andThen_ok,hq];obtain ⟨r,q1,q2⟩:=Vu d fs ks' (off+1) xs' ys' vs' us' av au hfs hxs hys n1 n2 hk;cases q
   ·exact ⟨false,by simp,by simpa using q2⟩
   ·exact ⟨r,by simpa using q1,by simpa using q2⟩
  split at hf
  ·rename_i kk ks' hd hfs;cases hf;cases xs with
   | nil=>simp only [BC] at h
   | cons x xs=>
    cases ys with
    | nil=>cases x<;>simp only [BC] at h
    | cons y ys=>
     simp only [AZ] at hx hy;obtain ⟨v,vs,rfl,hv,hvs⟩:=hx;obtain ⟨u,us,rfl,hu,hus⟩:=hy;cases x<;>cases y<;>simp only [BC] at h;rename_i k n k' m;obtain ⟨rfl,h⟩:=h;simp only [Rel] at hv hu;subst hv hu;exact main (q:=decide (n=m)) rfl rfl rfl rfl hd rfl hfs hvs hus (by simp [Op.equalIn,run_underlying hd,Zh]) h
  ·rename_i ks' hd hfs;cases hf;cases xs with
   | nil=>simp only [BC] at h
   | cons x xs=>
    cases ys with
    | nil=>cases x<;>simp only [BC] at h
    | cons y ys=>
     simp only [AZ] at hx hy;obtain ⟨v,vs,rfl,hv,hvs⟩:=hx;obtain ⟨u,us,rfl,hu,hus⟩:=hy;cases x<;>cases y<;>simp only [BC] at h;rename_i n m;simp only [Rel] at hv hu;subst hv hu;exact main (q:=decide (n=m)) rfl rfl rfl rfl hd rfl hfs hvs hus (by simp [Op.equalIn,run_underlying hd,beq_toListBytes,Fx,L7]) h
  ·rename_i ks' hd hfs;cases hf;cases xs with
   | nil=>simp only [BC] at h
   | cons x xs=>
    cases ys with
    | nil=>cases x<;>simp only [BC] at h
    | cons y ys=>
     simp only [AZ] at hx hy;obtain ⟨v,vs,rfl,hv,hvs⟩:=hx;obtain ⟨u,us,rfl,hu,hus⟩:=hy;cases x<;>cases y<;>simp only [BC] at h;rename_i n m;simp only [Rel] at hv hu;subst hv hu;exact main (q:=decide (n=m)) rfl rfl rfl rfl hd rfl hfs hvs hus (by simp [Op.equalIn,run_underlying hd,cD]) h
  ·cases hf
theorem Jb: ∀ {k1 k2:List FK} {xs ys:List AA} {K:Bool->Prop},BC (k1++k2) xs ys K->
  xs.length=ys.length/\k1.length<=xs.length/\BC k1 (xs.take k1.length) (ys.take k1.length) fun r=>BC k2 (xs.drop k1.length) (ys.drop k1.length) fun q=>K (r && q)
 | [],k2,xs,ys,K,h=>by
  refine ⟨?_,Nat.zero_le _,?_⟩
  ·have: ∀(k:List FK) (xs ys:List AA) (K:Bool->Prop),BC k xs ys K->xs.length=ys.length:=by
    intro k
    induction k with
    | nil=>intro xs ys K h;cases xs<;>cases ys<;>simp only [BC] at h;rfl
    | cons k ks ih=>
     intro xs ys K h;cases xs with
     | nil=>cases k<;>simp only [BC] at h
     | cons x xs=>
      cases ys with
      | nil=>cases k<;>cases x<;>simp only [BC] at h
      | cons y ys=>
       simp only [List.length_cons];cases k<;>cases x<;>cases y<;>simp only [BC] at h
       ·rw [ih _ _ _ h.2]
       ·rw [ih _ _ _ h]
       ·rw [ih _ _ _ h]
   exact this _ _ _ _ (by simpa using h)
  ·simpa [BC] using h
 | k::k1,k2,[],ys,K,h=>by cases k<;>simp only [List.cons_append,BC] at h
 | k::k1,k2,x::xs,[],K,h=>by cases k<;>cases x<;>simp only [List.cons_append,BC] at h
 | k::k1,k2,x::xs,y::ys,K,h=>by
  cases k<;>cases x<;>cases y<;>simp only [List.cons_append,BC] at h
  ·obtain ⟨h1,h2,h3⟩:=Jb (k1:=k1) h.2;refine ⟨by simp [h1],by simpa using h2,?_⟩;simp only [List.length_cons,List.take_succ_cons,List.drop_succ_cons,BC,Bool.and_assoc];exact ⟨h.1,h3⟩
  ·obtain ⟨h1,h2,h3⟩:=Jb (k1:=k1) h;refine ⟨by simp [h1],by simpa using h2,?_⟩;simp only [List.length_cons,List.take_succ_cons,List.drop_succ_cons,BC,Bool.and_assoc];exact h3
  ·obtain ⟨h1,h2,h3⟩:=Jb (k1:=k1) h;refine ⟨by simp [h1],by simpa using h2,?_⟩;simp only [List.length_cons,List.take_succ_cons,List.drop_succ_cons,BC,Bool.and_assoc];exact h3
theorem Pf {n:Nat} {a b:Array Value} {f:Field} {fs:List Field} {r1 r2:Bool} (h1:(Op.eqFields n a b [f]).run P w= .ok r1 w) (h2:(Op.eqFields n a b fs).run P w= .ok r2 w):
  (Op.eqFields n a b (f::fs)).run P w= .ok (r1 && r2) w:=by
 rw [Op.eqFields] at h1 |-;by_cases hn:f.name≠ "_"
 ·rw [if_pos hn] at h1 |-;simp only [Sem.run_bind] at h1 |-;cases e1:Sem.run P (part f.type a f.offset) w with
  | halt x w1=>rw [e1] at h1;simp [Result.andThen] at h1
  | ok x w1=>
   rw [e1] at h1;simp only [Result.andThen_ok] at h1 |-;cases e2:Sem.run P (part f.type b f.offset) w1 with
   | halt x w1=>rw [e2] at h1;simp [Result.andThen] at h1
   | ok y w2=>
    rw [e2] at h1;simp only [Result.andThen_ok] at h1 |-;cases e3:Sem.run P (Op.equalIn n f.type x y) w2 with
    | halt x w1=>rw [e3] at h1;simp [Result.andThen] at h1
    | ok q w3=>
     rw [e3] at h1;simp only [Result.andThen_ok] at h1 |-;cases q
     ·simp at h1 |-;obtain ⟨rfl,rfl⟩:=h1;simp
     ·simp [Op.eqFields] at h1 |-;obtain ⟨rfl,rfl⟩:=h1;simpa using h2
 ·rw [if_neg hn] at h1 |-;simp [Op.eqFields] at h1;subst h1;simpa using h2
theorem ni {t:TypeId} {n:Nat} (h:CG P t=some n) (w:World):(Go.sizeOf t).run P w= .ok n w:=by
 unfold CG at h;split at h
 ·rename_i i hi;cases h;simp [Go.sizeOf,typeInfo,hi]
 ·cases h
theorem Sa (d:Nat): ∀(fs:List Field) (ks:List FK) (off:Nat) (xs ys:List AA) (vs us:List Value) (av au:List Value) {K:Bool->Prop},Gh P off fs=some ks->AZ E fz w xs vs->AZ E fz w ys us->
  (∀(i:Nat) v,vs[i]?=some v->av[off+i]?=some v)->(∀(i:Nat) v,us[i]?=some v->au[off+i]?=some v)->BC ks xs ys K->
  ∃r,(Op.eqFields (d+2) av.toArray au.toArray fs).run P w= .ok r w/\K r
 | [],ks,off,xs,ys,vs,us,av,au,K,hf,_,_,_,_,h=>by
  simp only [Gh] at hf;cases hf;cases xs<;>cases ys<;>simp only [BC] at h;exact ⟨true,by simp [Op.eqFields],h⟩
 | f::fs,ks,off,xs,ys,vs,us,av,au,K,hf,hx,hy,h1,h2,h=>by
  have part1: ∀ {xs:List AA} {vs:List Value} (n:Nat),AZ E fz w xs vs->AZ E fz w (xs.take n) (vs.take n):=fun {xs vs} n hr=>by
   refine AZ.mk (by simp [hr.length]) fun i x v hx hv=>?_;rw [List.getElem?_take] at hx hv;split at hx
   ·obtain ⟨v',q1,q2⟩:=hr.get hx;rename_i hi;rw [if_pos hi,q1] at hv;cases hv;exact q2
   ·cases hx
  have part2: ∀ {xs:List AA} {vs:List Value} (n:Nat),AZ E fz w xs vs->AZ E fz w (xs.drop n) (vs.drop n):=fun {xs vs} n hr=>by
   refine AZ.mk (by simp [hr.length]) fun i x v hx hv=>?_;rw [List.getElem?_drop] at hx hv;obtain ⟨v',q1,q2⟩:=hr.get hx;rw [q1] at hv;cases hv;exact q2
  have at1: ∀ {vs av:List Value} (n:Nat),(∀(i:Nat) v,vs[i]?=some v->av[off+i]?=some v)-> ∀(i:Nat) v,(vs.take n)[i]?=some v->av[off+i]?=some v:=fun n h i v hv=>by
   rw [List.getElem?_take] at hv;split at hv
   ·exact h i v hv
   ·cases hv
  have at2: ∀ {vs av:List Value} (n:Nat),(∀(i:Nat) v,vs[i]?=some v->av[off+i]?=some v)-> ∀(i:Nat) v,(vs.drop n)[i]?=some v->av[off+n+i]?=some v:=fun n h i v hv=>by
   rw [List.getElem?_drop] at hv;rw [Nat.add_assoc];exact h _ v hv
  simp only [Gh] at hf;split at hf
  ·rename_i ks1 hk1;split at hf<;>cases hf;rename_i ks2 hk2;obtain ⟨l1,l2,h⟩:=Jb h;obtain ⟨r1,q1,q2⟩:=Vu (P:=P) (w:=w) (d+1) [f] ks1 off _ _ _ _ av au hk1 (part1 ks1.length hx) (part1 ks1.length hy) (at1 _ h1) (at1 _ h2) h;obtain ⟨r2,q3,q4⟩:=Sa d fs ks2 (off+ks1.length) _ _ _ _ av au hk2 (part2 ks1.length hx) (part2 ks1.length hy) (at2 _ h1) (at2 _ h2) q2;exact ⟨_,Pf q1 q3,q4⟩
  ·split at hf
   case isFalse=>cases hf
   rename_i hname;simp only [Bool.and_eq_true,bne_iff_ne,ne_eq,beq_iff_eq] at hname;obtain ⟨fname,foff⟩:=hname;split at hf
   case h_2=>cases hf
   rename_i gs hu;split at hf
   case h_2=>cases hf
   rename_i ks1 n hk1 hn;split at hf
   case isFalse=>cases hf
   rename_i hc;simp only [Bool.and_eq_true,Bool.not_eq_true',beq_iff_eq] at hc;obtain ⟨hc1,hc2⟩:=hc;split at hf<;>cases hf;rename_i ks2 hk2;obtain ⟨l1,l2,h⟩:=Jb h;have hext: ∀l:List Value,l.toArray.extract off (off+n)=((l.drop off).take n).toArray:=fun l=>by simp
   have pos: ∀ {vs av:List Value},(∀(i:Nat) v,vs[i]?=some v->av[off+i]?=some v)-> ∀(i:Nat) v,(vs.take ks1.length)[i]?=some v->((av.drop off).take n)[0+i]?=some v:=fun {vs av} h i v hv=>by
    rw [List.getElem?_take] at hv;split at hv
    ·rename_i hi;rw [Nat.zero_add,List.getElem?_take,if_pos (by omega),List.getElem?_drop];exact h i v hv
    ·cases hv
   obtain ⟨r1,q1,q2⟩:=Vu (P:=P) (w:=w) d gs.toList ks1 0 _ _ _ _ ((av.drop off).take n) ((au.drop off).take n) hk1 (part1 ks1.length hx) (part1 ks1.length hy) (pos h1) (pos h2) h;have hfo:P.fieldsOf f.type=gs:=by simp [Program.fieldsOf,hu]
   have q1':(Op.eqFields (d+2) av.toArray au.toArray [f]).run P w= .ok r1 w:=by
    have hag: ∀w,(isAgg f.type).run P w= .ok true w:=fun w=>by simp [isAgg,run_underlying hu]
    have hp: ∀l:List Value,(part f.type l.toArray f.offset).run P w= .ok (.agg ((l.drop off).take n).toArray) w:=fun l=>by
     unfold part;simp only [Sem.run_bind,hag,Result.andThen_ok,if_true,ni hn,foff,hext,Sem.run_pure]
    simp only [Op.eqFields];rw [if_pos fname];simp only [Sem.run_bind,hp,Result.andThen_ok];rw [run_equalIn_struct w (d+1) f.type _ _ (by rw [hfo];exact hu) hc2,hfo,q1];cases r1<;>simp
   obtain ⟨r2,q3,q4⟩:=Sa d fs ks2 (off+ks1.length) _ _ _ _ av au hk2 (part2 ks1.length hx) (part2 ks1.length hy) (at2 _ h1) (at2 _ h2) q2;exact ⟨_,Pf q1' q3,q4⟩
theorem sE {op:BinOp} {k:IntKind} {x y:Int} {t:TypeId} {K:AA->Prop} (h:JE op k x y K): ∃v z,(binOp op t (.int k x) (.int k y)).run P w= .ok v w/\K z/\Rel E fz w z v:=by
 cases op<;>simp only [JE] at h<;>first | exact h.elim | skip
 case add=>obtain ⟨z,h1,h2⟩:=NM (E:=E) (fz:=fz) (w:=w) h;exact ⟨_,z,by simp [binOp_add,Op.intArith],h1,h2⟩
 case sub=>obtain ⟨z,h1,h2⟩:=NM (E:=E) (fz:=fz) (w:=w) h;exact ⟨_,z,by simp [binOp_sub,Op.intArith],h1,h2⟩
 case mul=>obtain ⟨z,h1,h2⟩:=NM (E:=E) (fz:=fz) (w:=w) h;exact ⟨_,z,by simp [binOp_mul,Op.intArith],h1,h2⟩
 case quo=>obtain ⟨z,h1,h2⟩:=NM (E:=E) (fz:=fz) (w:=w) h.2;exact ⟨_,z,by simp [binOp_quo,Op.intDiv,h.1],h1,h2⟩
 case rem=>exact ⟨_,_,by simp [binOp_rem,Op.intDiv,h.1];rfl,h.2,by simp [Rel]⟩
 case and=>exact ⟨_,_,by simp [binOp_and,Op.intBits];rfl,h,by simp [Rel]⟩
 case or=>exact ⟨_,_,by simp [binOp_or,Op.intBits];rfl,h,by simp [Rel]⟩
 case xor=>exact ⟨_,_,by simp [binOp_xor,Op.intBits];rfl,h,by simp [Rel]⟩
 case eql=>exact ⟨_,_,by simp [binOp_eql];rfl,h,by simp [Rel,Zh]⟩
 case neq=>exact ⟨_,_,by simp [binOp_neq];rfl,h,by simp [Rel,bne,Zh]⟩
 case lss=>exact ⟨.bool (decide (x<y)),_,by rw [binOp_lss];rfl,h,by simp [Rel]⟩
 case leq=>exact ⟨.bool (decide (x<=y)),_,by rw [binOp_leq];rfl,h,by simp [Rel]⟩
 case gtr=>exact ⟨.bool (decide (y<x)),_,by rw [binOp_gtr];rfl,h,by simp [Rel]⟩
 case geq=>exact ⟨.bool (decide (y<=x)),_,by rw [binOp_geq];rfl,h,by simp [Rel]⟩
theorem sF {op:BinOp} {x y:List UInt8} {t:TypeId} {K:AA->Prop} (h:NJ op x y K): ∃v z,(binOp op t (.string ⟨x.toArray⟩) (.string ⟨y.toArray⟩)).run P w= .ok v w/\K z/\Rel E fz w z v:=by
 have hb: ∀op',op'=op->binOp op' t (.string ⟨x.toArray⟩) (.string ⟨y.toArray⟩)=Op.stringOp op' ⟨x.toArray⟩ ⟨y.toArray⟩:=fun op' e=>by
  subst e;cases op'<;>simp only [NJ] at h<;>first | exact h.elim | rfl
 rw [hb op rfl];have hsz: ∀l:List UInt8,(⟨l.toArray⟩:ByteArray).size=l.length:=fun l=>by simp [ByteArray.size]
 cases op<;>simp only [NJ] at h<;>first | exact h.elim | skip
 case add=>
  refine ⟨.string (⟨x.toArray⟩++⟨y.toArray⟩),_,?_,h.2,?_⟩
  ·have h1:=h.1.2;simp only [Op.stringOp,hsz];rw [if_neg (by simp only [IntKind.max_i64];omega)];simp
  ·simp only [Rel];congr 1
 case eql=>exact ⟨_,_,by simp [Op.stringOp,Fx];rfl,h,by simp [Rel,L7]⟩
 case neq=>exact ⟨_,_,by simp [Op.stringOp,Fx];rfl,h,by simp [Rel,L7]⟩
 case lss=>exact ⟨_,_,by simp [Op.stringOp,Fx];rfl,h,by simp [Rel]⟩
 case leq=>exact ⟨_,_,by simp [Op.stringOp,Fx];rfl,h,by simp [Rel,L7]⟩
 case gtr=>exact ⟨_,_,by simp [Op.stringOp,Fx];rfl,h,by simp [Rel,L7]⟩
 case geq=>exact ⟨_,_,by simp [Op.stringOp,Fx];rfl,h,by simp [Rel]⟩
theorem D8 (t:TypeId) (v u:Value):Op.equal t v u=Op.equalIn (9999+1) t v u:=rfl
theorem Jz {op:BinOp} {t:TypeId} {v u:Value} {r:Bool} {K:AA->Prop} (hb:binOp .eql t v u=(do pure (.bool (<-Op.equal t v u)))/\binOp .neq t v u=(do pure (.bool (!(<-Op.equal t v u)))))
  (hr:(Op.equal t v u).run P w= .ok r w) (h:YR op r K): ∃v' z,(binOp op t v u).run P w= .ok v' w/\K z/\Rel E fz w z v':=by
 rcases sS h with ⟨rfl,hk⟩ | ⟨rfl,hk⟩
 ·exact ⟨.bool r,_,by rw [hb.1];simp [hr],hk,by simp [Rel]⟩
 ·exact ⟨.bool (!r),_,by rw [hb.2];simp [hr],hk,by simp [Rel]⟩
end
section
variable {P : Program}
theorem pJ (w:World) (d:Nat) {t:TypeId} {e:TypeId} (ht:P.underlying t=some (.pointer e)):(Op.equalIn (d+1) t (.pointer none) (.pointer none)).run P w= .ok true w:=by
 simp [Op.equalIn,run_underlying ht]
theorem aB (w:World) (d:Nat) {t:TypeId} {e:TypeId} {x:Addr} (ht:P.underlying t=some (.pointer e)):(Op.equalIn (d+1) t (.pointer (some x)) (.pointer none)).run P w= .ok false w:=by
 simp [Op.equalIn,run_underlying ht]
theorem aA (w:World) (d:Nat) {t:TypeId} {e:TypeId} {x:Addr} (ht:P.underlying t=some (.pointer e)):(Op.equalIn (d+1) t (.pointer none) (.pointer (some x))).run P w= .ok false w:=by
 simp [Op.equalIn,run_underlying ht]
theorem u0 (w:World) (d:Nat) {t:TypeId} {e1 e2:Array TypeId} {e3:Bool} (ht:P.underlying t=some (.func e1 e2 e3)):(Op.equalIn (d+1) t (.nilFunc) (.nilFunc)).run P w= .ok true w:=by
 simp [Op.equalIn,run_underlying ht]
theorem u4 (w:World) (d:Nat) {t:TypeId} {e1 e2:Array TypeId} {e3:Bool} {f:Fn} {x y:Array Value} (ht:P.underlying t=some (.func e1 e2 e3)):(Op.equalIn (d+1) t (.func f x y) (.nilFunc)).run P w= .ok false w:=by
 simp [Op.equalIn,run_underlying ht]
theorem u5 (w:World) (d:Nat) {t:TypeId} {e1 e2:TypeId} (ht:P.underlying t=some (.map e1 e2)):(Op.equalIn (d+1) t (.map none) (.map none)).run P w= .ok true w:=by
 simp [Op.equalIn,run_underlying ht]
theorem u6 (w:World) (d:Nat) {t:TypeId} {e1 e2:TypeId} {b:Nat} (ht:P.underlying t=some (.map e1 e2)):(Op.equalIn (d+1) t (.map (some b)) (.map none)).run P w= .ok false w:=by
 simp [Op.equalIn,run_underlying ht]
end
section
variable {P : Program} {E : Env} {fz : Nat -> Prop} {S : AB} {w : World} {F : Frame} {a : Act} {K : AA -> AB -> Prop} {ro : Bool}
theorem HT {t:TypeId} {q:lN} (hq:sU P t=some q):match q with
  | .ptr=> ∃e,P.underlying t=some (.pointer e)
  | .func=> ∃e1 e2 e3,P.underlying t=some (.func e1 e2 e3)
  | .map=> ∃e1 e2,P.underlying t=some (.map e1 e2)
  | _=>True:=by
 unfold sU at hq;split at hq
 case h_4 e hu=>
  split at hq
  ·cases hq;exact ⟨e,hu⟩
  ·cases hq
 case h_5 fs hu=>
  split at hq
  ·split at hq
   ·cases hq;trivial
   ·cases hq
  ·cases hq
 case h_6 e1 e2 e3 hu=>cases hq;exact ⟨e1,e2,e3,hu⟩
 case h_7 e1 e2 hu=>cases hq;exact ⟨e1,e2,hu⟩
 all_goals cases hq
 all_goals trivial
theorem lj (st:St E fz S w) (hF:CH E fz w F a.tmps) {o:Oper} {op:BinOp} {t u:TypeId} {x y:Operand} {rx ry:AO} {q:lN} (ho:o.op= .binOp op t x y u) (hq:sU P t=some q) (hx:Ad x=some rx) (hy:Ad y=some ry)
  (h:AF P F S K (.bin q op rx ry)):Al P ((execOp a.eval o).run P w) (CQ K E fz S w):=by
 have h1:=Ac hF hx;have h2:=Ac hF hy;simp only [AF,AD] at h;generalize rd F rx=X at*;generalize rd F ry=Y at*;have fin: ∀ {v z},(eqGuard op t x y (a.eval x) (a.eval y)).run P w= .ok () w->(binOp op t (a.eval x) (a.eval y)).run P w= .ok v w->K z S->Rel E fz w z v->Al P ((execOp a.eval o).run P w) (CQ K E fz S w):=fun {v z} hg hr hk hrel=>
  Ak st (by simp [execOp,ho,hg,hr]) hk hrel
 have guard: ∀ {v u:Value},a.eval x=v->a.eval y=u->(∀d,v≠ .nilIface/\v≠ .agg d)->(eqGuard op t x y (a.eval x) (a.eval y)).run P w= .ok () w:=fun {v u} e1 e2 hne=>by
  rw [e1,e2];have:eqGuard op t x y v u=pure ():=by
   cases v<;>first | (cases op<;>rfl) | exact ((hne #[]).1 rfl).elim | (rename_i cs;exact ((hne cs).2 rfl).elim)
  rw [this];exact Sem.run_pure P w ()
 cases X<;>cases Y<;>simp only [HI] at h<;>first | exact h.elim | skip
 case int.int k n k' m=>
  simp only [Rel] at h1 h2;have hg:=guard h1 h2 (fun d=>⟨by simp,by simp⟩);rw [h1,h2] at fin hg;have shl:op= .shl-> ∃v z,(binOp op t (.int k n) (.int k' m)).run P w= .ok v w/\K z S/\Rel E fz w z v:=fun e=>by
   subst e;simp only at h;obtain ⟨z,g1,g2⟩:=NM (E:=E) (fz:=fz) (w:=w) h.2;exact ⟨_,z,by rw [binOp_shl];simp [Op.shift,Int.not_lt.2 h.1],g1,g2⟩
  have shr:op= .shr-> ∃v z,(binOp op t (.int k n) (.int k' m)).run P w= .ok v w/\K z S/\Rel E fz w z v:=fun e=>by
   subst e;simp only at h;exact ⟨_,_,by rw [binOp_shr];simp [Op.shift,Int.not_lt.2 h.1];rfl,h.2,by simp [Rel]⟩
  have rest:op≠ .shl->op≠ .shr-> ∃v z,(binOp op t (.int k n) (.int k' m)).run P w= .ok v w/\K z S/\Rel E fz w z v:=fun e1 e2=>by
   have h':k=k'/\JE op k n m fun r=>K r S:=by cases op<;>first | exact h | exact (e1 rfl).elim | exact (e2 rfl).elim
   obtain ⟨rfl,h'⟩:=h';exact sE h'
  by_cases e1:op= .shl
  ·obtain ⟨v,z,g1,g2,g3⟩:=shl e1;exact fin hg g1 g2 g3
  ·by_cases e2:op= .shr
   ·obtain ⟨v,z,g1,g2,g3⟩:=shr e2;exact fin hg g1 g2 g3
   ·obtain ⟨v,z,g1,g2,g3⟩:=rest e1 e2;exact fin hg g1 g2 g3
 case str.str n m=>
  simp only [Rel] at h1 h2;have hg:=guard h1 h2 (fun d=>⟨by simp,by simp⟩);obtain ⟨v,z,g1,g2,g3⟩:=sF (P:=P) (E:=E) (fz:=fz) (w:=w) (t:=t) h;exact fin hg (by rw [h1,h2];exact g1) g2 g3
 case bool.bool n m=>
  simp only [Rel] at h1 h2;have hg:=guard h1 h2 (fun d=>⟨by simp,by simp⟩);cases q<;>simp only at h;have ht:P.underlying t=some .bool:=by
   unfold sU at hq;split at hq<;>first | assumption | (cases hq;done) | skip
   all_goals (split at hq<;>first | (cases hq;done) | (split at hq<;>cases hq))
  obtain ⟨v,z,g1,g2,g3⟩:=Jz (P:=P) (E:=E) (fz:=fz) (w:=w) (t:=t) (v:= .bool n) (u:= .bool m) (r:=n == m) ⟨rfl,rfl⟩ (by rw [D8,run_equalIn_bool' w _ t n m ht]) (K:=fun r=>K r S) (by rw [cD];exact h);exact fin hg (by rw [h1,h2];exact g1) g2 g3
 case agg.agg xs ys=>
  simp only [Rel] at h1 h2;obtain ⟨vs,e1,hl1,_⟩:=h1;obtain ⟨us,e2,hl2,_⟩:=h2;cases q<;>simp only at h;rename_i ks;have ht: ∃fs:Array Field,P.underlying t=some (.struct fs)/\Gh P 0 fs.toList=some ks/\P.stoodInHeld t=false/\P.eqGuardType P.depth t=false:=by
   unfold sU at hq;split at hq
   case h_5 fs hu=>
    split at hq
    ·rename_i ks' hk;split at hq
     ·rename_i hc;cases hq;simp only [Bool.and_eq_true,Bool.not_eq_true'] at hc;exact ⟨fs,hu,hk,hc.1,hc.2⟩
     ·cases hq
    ·cases hq
   all_goals first | (cases hq;done) | (split at hq<;>cases hq)
  obtain ⟨fs,hu,hk,hp,hm⟩:=ht;have hfo:P.fieldsOf t=fs:=by simp [Program.fieldsOf,hu]
  have key: ∃r,(Op.equal t (.agg vs.toArray) (.agg us.toArray)).run P w= .ok r w/\YR op r fun r=>K r S:=by
   obtain ⟨r,q1,q2⟩:=Sa (P:=P) (E:=E) (fz:=fz) (w:=w) 9997 fs.toList ks 0 xs ys vs us vs us hk hl1 hl2 (fun i v h=>by simpa using h) (fun i v h=>by simpa using h) h;refine ⟨r,?_,q2⟩;rw [D8,run_equalIn_struct w 9999 t _ _ (by rw [hfo];exact hu) hp,hfo];exact q1
  obtain ⟨r,q1,q2⟩:=key;obtain ⟨v,z,g1,g2,g3⟩:=Jz (P:=P) (E:=E) (fz:=fz) (w:=w) (t:=t) ⟨rfl,rfl⟩ q1 q2;exact fin (by rw [e1,e2];exact run_eqGuard_agg w op t x y _ _ hm) (by rw [e1,e2];exact g1) g2 g3
 case B4.B4=>
  cases q<;>simp only at h;obtain ⟨e,ht⟩:=HT hq;simp only [Rel] at h1 h2;obtain ⟨v,z,g1,g2,g3⟩:=Jz (P:=P) (E:=E) (fz:=fz) (w:=w) (t:=t) (v:= .pointer none) (u:= .pointer none) ⟨rfl,rfl⟩ (by rw [D8];exact pJ w 9999 ht) h;exact fin (guard h1 h2 (fun d=>⟨by simp,by simp⟩)) (by rw [h1,h2];exact g1) g2 g3
 case ptr.B4=>
  cases q<;>simp only at h;obtain ⟨e,ht⟩:=HT hq;simp only [Rel] at h1 h2;obtain ⟨b,base,cap,k,_,h1⟩:=h1;obtain ⟨v,z,g1,g2,g3⟩:=Jz (P:=P) (E:=E) (fz:=fz) (w:=w) (t:=t) (v:= .pointer (some ⟨b,_,none⟩)) (u:= .pointer none) ⟨rfl,rfl⟩ (by rw [D8];exact aB w 9999 ht) h;exact fin (guard h1 h2 (fun d=>⟨by simp,by simp⟩)) (by rw [h1,h2];exact g1) g2 g3
 case B4.ptr=>
  cases q<;>simp only at h;obtain ⟨e,ht⟩:=HT hq;simp only [Rel] at h1 h2;obtain ⟨b,base,cap,k,_,h2⟩:=h2;obtain ⟨v,z,g1,g2,g3⟩:=Jz (P:=P) (E:=E) (fz:=fz) (w:=w) (t:=t) (v:= .pointer none) (u:= .pointer (some ⟨b,_,none⟩)) ⟨rfl,rfl⟩ (by rw [D8];exact aA w 9999 ht) h;exact fin (guard h1 h2 (fun d=>⟨by simp,by simp⟩)) (by rw [h1,h2];exact g1) g2 g3
 case GX.B4=>
  cases q<;>simp only at h;obtain ⟨e,ht⟩:=HT hq;simp only [Rel] at h1 h2;obtain ⟨b,off,_,h1,_⟩:=h1;obtain ⟨v,z,g1,g2,g3⟩:=Jz (P:=P) (E:=E) (fz:=fz) (w:=w) (t:=t) (v:= .pointer (some ⟨b,off,none⟩)) (u:= .pointer none) ⟨rfl,rfl⟩ (by rw [D8];exact aB w 9999 ht) h;exact fin (guard h1 h2 (fun d=>⟨by simp,by simp⟩)) (by rw [h1,h2];exact g1) g2 g3
 case B4.GX=>
  cases q<;>simp only at h;obtain ⟨e,ht⟩:=HT hq;simp only [Rel] at h1 h2;obtain ⟨b,off,_,h2,_⟩:=h2;obtain ⟨v,z,g1,g2,g3⟩:=Jz (P:=P) (E:=E) (fz:=fz) (w:=w) (t:=t) (v:= .pointer none) (u:= .pointer (some ⟨b,off,none⟩)) ⟨rfl,rfl⟩ (by rw [D8];exact aA w 9999 ht) h;exact fin (guard h1 h2 (fun d=>⟨by simp,by simp⟩)) (by rw [h1,h2];exact g1) g2 g3
 case I3.I3=>
  cases q<;>simp only at h;obtain ⟨e,e2,e3,ht⟩:=HT hq;simp only [Rel] at h1 h2;obtain ⟨v,z,g1,g2,g3⟩:=Jz (P:=P) (E:=E) (fz:=fz) (w:=w) (t:=t) (v:= .nilFunc) (u:= .nilFunc) ⟨rfl,rfl⟩ (by rw [D8];exact u0 w 9999 ht) h;exact fin (guard h1 h2 (fun d=>⟨by simp,by simp⟩)) (by rw [h1,h2];exact g1) g2 g3
 case fn.I3 f0 _ _=>
  cases q<;>simp only at h;obtain ⟨e,e2,e3,ht⟩:=HT hq;simp only [Rel] at h1 h2;obtain ⟨vs,us,h1,_,_⟩:=h1;obtain ⟨v,z,g1,g2,g3⟩:=Jz (P:=P) (E:=E) (fz:=fz) (w:=w) (t:=t) (v:= .func f0 vs.toArray us.toArray) (u:= .nilFunc) ⟨rfl,rfl⟩ (by rw [D8];exact u4 w 9999 ht) h;exact fin (guard h1 h2 (fun d=>⟨by simp,by simp⟩)) (by rw [h1,h2];exact g1) g2 g3
 case I4.I4=>
  cases q<;>simp only at h;obtain ⟨e,e2,ht⟩:=HT hq;simp only [Rel] at h1 h2;obtain ⟨v,z,g1,g2,g3⟩:=Jz (P:=P) (E:=E) (fz:=fz) (w:=w) (t:=t) (v:= .map none) (u:= .map none) ⟨rfl,rfl⟩ (by rw [D8];exact u5 w 9999 ht) h;exact fin (guard h1 h2 (fun d=>⟨by simp,by simp⟩)) (by rw [h1,h2];exact g1) g2 g3
 case map.I4=>
  cases q<;>simp only at h;obtain ⟨e,e2,ht⟩:=HT hq;simp only [Rel] at h1 h2;obtain ⟨b,_,h1⟩:=h1;obtain ⟨v,z,g1,g2,g3⟩:=Jz (P:=P) (E:=E) (fz:=fz) (w:=w) (t:=t) (v:= .map (some b)) (u:= .map none) ⟨rfl,rfl⟩ (by rw [D8];exact u6 w 9999 ht) h;exact fin (guard h1 h2 (fun d=>⟨by simp,by simp⟩)) (by rw [h1,h2];exact g1) g2 g3
end
end Go.Vc
end
section
namespace Go.Vc
section
variable {P : Program} {E : Env} {fz : Nat -> Prop} {S : AB} {w : World} {F : Frame} {a : Act} {K : AA -> AB -> Prop} {ro : Bool}
theorem C_ (st:St E fz S w) {o:Oper} {v:Value} {w':World} (h:(execOp a.eval o).run P w= .ok (.value v) w') (hp:CQ K E fz S w v w'):
  Al P ((execOp a.eval o).run P w) (CQ K E fz S w):=by rw [h];exact hp
theorem Hg {t:TypeId} {i:TypeInfo} (h:P.info? t=some i) (w:World):(typeInfo t).run P w= .ok i w:=by
 simp [typeInfo,h]
theorem Dt {t:TypeId} {n:Nat} (h:CG P t=some n) (w:World):(sizeOf t).run P w= .ok n w:=by
 unfold CG at h;split at h
 ·rename_i i hi;cases h;simp [sizeOf,Hg hi]
 ·cases h
theorem OQ {t:TypeId} {z:List AA} (h:IK P t=some z) (w:World): ∃v:Value,(zeroValue t).run P w= .ok v w/\(∀E fz w,AZ E fz w z v.cells.toList)/\ ∀c∈v.cells.toList,c.oneCell'=true:=by
 unfold IK at h;split at h
 ·rename_i i hi;split at h
  ·rename_i v hv;exact ⟨v,by simp [zeroValue,Hg hi,hv],fun E fz w=>(KW h).1,(KW (E:=fun _=>none) (fz:=fun _=>False) (w:=w) h).2⟩
  ·cases h
 ·cases h
theorem IJ {t:TypeId} {u:TypeDesc} (h:P.underlying t=some u) (w:World):(isAgg t).run P w= .ok (H4 u) w:=by
 simp only [isAgg,Sem.run_bind,run_underlying h,Result.andThen_ok];cases u<;>rfl
theorem UL (st:St E fz S w) {cs:List AA} {v:Value} {T:TypeId} {k:Nat} (hr:AZ E fz w cs v.cells.toList) (h1: ∀c∈v.cells.toList,c.oneCell'=true)
  (h: ∀ver,K (.ptr S.length ver 0) (S++[.row ver k cs])):CQ K E fz S w (.pointer (some ⟨w.heap.size,0,none⟩)) (w.alloc (.cells v.cells T)):=by
 obtain ⟨ver,E',g1,g2,g3⟩:=LM (w':=w.alloc (.cells v.cells T)) st (rest:=[]) (T:=T) k hr h1 (by rw [List.append_nil];rfl) rfl rfl (Tp.of rfl (Nat.le_refl _));refine ⟨.ptr S.length ver 0,_,E',fz,h ver,g3,g2,?_⟩;simp only [Rel];exact ⟨_,_,_,_,g1,rfl⟩
theorem bx (st:St E fz S w) {o:Oper} {t:TypeId} {z:List AA} {k:Nat} (ho:o.op= .alloc t) (hz:IK P t=some z)
  (h:AF P F S K (.alloc k z)):Al P ((execOp a.eval o).run P w) (CQ K E fz S w):=by
 simp only [AF,A5] at h;obtain ⟨v,g1,g2,g3⟩:=OQ hz w;exact C_ st (by simp [execOp,ho,Instr.alloc,g1,newVar,newRow];rfl) (UL st (g2 E fz w) g3 h)
theorem lk (st:St E fz S w) (hF:CH E fz w F a.tmps) {o:Oper} {t:TypeId} {x:Operand} {r:AO} {k:Nat} (ho:o.op= .box t x) (hx:Ad x=some r)
  (h:AF P F S K (.box k r)):Al P ((execOp a.eval o).run P w) (CQ K E fz S w):=by
 simp only [AF,AD,A5] at h;obtain ⟨cs,h1,h2,h3⟩:=Qe h (Ac hF hx);exact C_ st (by simp [execOp,ho,Instr.box,newVar,newRow];rfl) (UL st h2 h3 h1)
theorem Tq (st:St E fz S w) {n:Nat} {ag:Bool} {x:AA} {v:Value} {Q:AA->Prop} (h:I7 S n ag x Q) (hr:Rel E fz w x v):
  ∃b off,v= .pointer (some ⟨b,off,none⟩)/\ ∃(xs:List AA) (vs:List Value),xs.length=n/\AZ E fz w xs vs/\(∀c∈vs,c.oneCell'=true)/\
   (loadCells ⟨b,off,none⟩ n).run P w= .ok vs.toArray w/\(∀(j:Nat) v,vs[j]?=some v->w.cell? ⟨b,off+j,none⟩=some v)/\Lk ag xs Q:=by
 have fin: ∀ {b off:Nat} {cs xs:List AA},Ck E fz w b off cs->takeN n cs=some xs->Lk ag xs Q-> ∃(xs:List AA) (vs:List Value),xs.length=n/\AZ E fz w xs vs/\(∀c∈vs,c.oneCell'=true)/\
   (loadCells ⟨b,off,none⟩ n).run P w= .ok vs.toArray w/\(∀(j:Nat) v,vs[j]?=some v->w.cell? ⟨b,off+j,none⟩=some v)/\Lk ag xs Q:=fun {b off cs xs} hc ht hk=>by
  obtain ⟨e,hl⟩:=Mf ht;have hlen:xs.length=n:=by rw [e];simp;omega
  have hc':Ck E fz w b off xs:=e▸hc.take n;obtain ⟨vs,g1,g2,g3,g4⟩:=OP (P:=P) hc';rw [hlen] at g3;exact ⟨xs,vs,hlen,g1,g2,g3,g4,hk⟩
 cases x<;>simp only [I7] at h
 case ptr l ver off=>
  obtain ⟨k,cs,hl,h⟩:=AP.1 h;have h': ∃xs,takeN n (cs.drop off)=some xs/\Lk ag xs Q:=by
   cases k with
   | zero=>simpa only [Cn,Dz] using h
   | succ k=>exact h
  obtain ⟨xs,ht,hk⟩:=h';simp only [Rel] at hr;obtain ⟨b,base,cap,kk,hE,rfl⟩:=hr;refine ⟨b,base+off,rfl,?_⟩;rcases st.ok l _ hl with ⟨g1,g2⟩ | ⟨b',base',cap',arr,T,lo,hi,g1,g2,g3,g4,g5,g6,g7⟩
  ·rw [hE] at g1;cases g1
  ·rw [hE] at g1;cases g1;exact fin (g6.drop off) ht hk
 case GX cs=>
  simp only [Dz] at h;obtain ⟨xs,ht,hk⟩:=h;simp only [Rel] at hr;obtain ⟨b,off,_,rfl,hc⟩:=hr;exact ⟨b,off,rfl,fin hc ht hk⟩
theorem iv (st:St E fz S w) (hF:CH E fz w F a.tmps) {o:Oper} {t:TypeId} {x:Operand} {r:AO} {i:TypeInfo} {u:TypeDesc} (ho:o.op= .load t x) (hi:P.info? t=some i) (hu:P.underlying t=some u) (hx:Ad x=some r)
  (h:AF P F S K (if H4 u then .load i.size true r else .load 1 false r)):Al P ((execOp a.eval o).run P w) (CQ K E fz S w):=by
 have hr:=Ac hF hx;cases hag:H4 u
 ·rw [hag] at h;simp only [Bool.false_eq_true,if_false,AF,AD] at h;obtain ⟨b,off,e,xs,vs,g1,g2,g3,g4,g5,hk⟩:=Tq (P:=P) st h hr;rcases Ij.1 hk with ⟨h0,_⟩ | ⟨_,y,rfl,hk⟩
  ·cases h0
  ·simp only [AZ] at g2;obtain ⟨v,us,rfl,hv,rfl⟩:=g2;have hc:=g5 0 v rfl;refine Ak st (v:=v) ?_ hk hv;simp [execOp,ho,e,Instr.loadAt,Instr.sureAddr,loadVar,IJ hu,hag,hc];simpa using hc▸rfl
 ·rw [hag] at h;simp only [if_true,AF,AD] at h;obtain ⟨b,off,e,xs,vs,g1,g2,g3,g4,g5,hk⟩:=Tq (P:=P) st h hr;rcases Ij.1 hk with ⟨_,hk⟩ | ⟨h0,_⟩
  ·refine Ak st (v:= .agg vs.toArray) ?_ hk ?_
   ·simp [execOp,ho,e,Instr.loadAt,Instr.sureAddr,loadVar,IJ hu,hag,sizeOf,Hg hi,g4]
   ·simp only [Rel];exact ⟨vs,rfl,g2,g3⟩
  ·cases h0
theorem fS (st:St E fz S w) (hF:CH E fz w F a.tmps) {o:Oper} {t:TypeId} {x y:Operand} {rx ry:AO} {n:Nat} (ho:o.op= .store t x y) (hn:CG P t=some n) (h0:n≠0) (hx:Ad x=some rx) (hy:Ad y=some ry)
  (h:AF P F S K (.store n rx ry)):Al P ((execOp a.eval o).run P w) (CQ K E fz S w):=by
 have hr1:=Ac hF hx;have hr2:=Ac hF hy;simp only [AF,AD] at h;generalize rd F rx=X at*;cases X<;>first | exact h.elim | skip
 case ptr l ver off=>
  simp only at h;obtain ⟨k,cs,hl,h⟩:=AP.1 h;obtain ⟨ys,⟨hlen,hfit,hk⟩,hys,hone⟩:=Qe h hr2;simp only [Fo,Cj] at hk;simp only [Rel] at hr1;obtain ⟨b,base,cap,kk,hE,e⟩:=hr1;obtain ⟨w',q1,q2,q3⟩:=Y7 (P:=P) (off:=off) st hl (by omega) (fun e=>by subst e;simp at hlen;omega) hys hone hE;have hsz:(a.eval y).cells.size=n:=by have:=hys.length;simp at this;omega
  have hrun:(execOp a.eval o).run P w= .ok .skip w':=by
   simp [execOp,ho,e,Instr.storeAt,Instr.sureAddr,storeVar,Dt hn,hsz,q1]
  rw [hrun];exact ⟨.C3,_,E,fz,hk.2,q3,q2,by simp [Rel]⟩
theorem cz (st:St E fz S w) (hF:CH E fz w F a.tmps) {o:Oper} {s:TypeId} {x:Operand} {r:AO} {f n:Nat} {fs:Array Field} {fd:Field} (ho:o.op= .fieldAddr s x f) (hs:P.underlying s=some (.struct fs)) (hf:fs[f]?=some fd) (hn:CG P fd.type=some (n+1)) (hx:Ad x=some r)
  (h:AF P F S K (.Bo fd.offset r)):Al P ((execOp a.eval o).run P w) (CQ K E fz S w):=by
 have hr:=Ac hF hx;simp only [AF,AD] at h;generalize rd F r=X at*;have go: ∀ {b off:Nat} {y:AA},a.eval x= .pointer (some ⟨b,off,none⟩)->K y S->Rel E fz w y (.pointer (some ⟨b,off+fd.offset,none⟩))->Al P ((execOp a.eval o).run P w) (CQ K E fz S w):=fun {b off y} e hk hrel=>by
  refine Ak st ?_ hk hrel;simp [execOp,ho,Instr.fieldAt,run_underlying hs,hf,e,Instr.sureAddr,fieldPlace,Dt hn,IY]
 cases X<;>first | exact h.elim | skip
 case ptr l ver off=>
  simp only [Rel] at hr;obtain ⟨b,base,cap,k,hE,e⟩:=hr;exact go e h (by simp only [Rel];exact ⟨b,base,cap,k,hE,by rw [Nat.add_assoc]⟩)
 case GX cs=>
  simp only [Cn] at h;simp only [Rel] at hr;obtain ⟨b,off,hb,e,hc⟩:=hr;exact go e h (by simp only [Rel];exact ⟨b,off+fd.offset,hb,rfl,hc.drop _⟩)
theorem c8 (st:St E fz S w) (hF:CH E fz w F a.tmps) {o:Oper} {s:TypeId} {x:Operand} {r:AO} {f n:Nat} {fs:Array Field} {fd:Field} {u:TypeDesc} (ho:o.op= .field s x f) (hs:P.underlying s=some (.struct fs)) (hf:fs[f]?=some fd) (hu:P.underlying fd.type=some u) (hn:CG P fd.type=some n) (hx:Ad x=some r)
  (h:AF P F S K (if H4 u then .field fd.offset n true r else .field fd.offset 1 false r)):Al P ((execOp a.eval o).run P w) (CQ K E fz S w):=by
 have hr:=Ac hF hx;cases hag:H4 u
 ·rw [hag] at h;simp only [Bool.false_eq_true,if_false,AF,AD] at h;generalize rd F r=X at*;cases X<;>first | exact h.elim | skip
  simp only [Cn,Dz] at h;obtain ⟨xs,ht,hk⟩:=h;rcases Ij.1 hk with ⟨h0,_⟩ | ⟨_,y,rfl,hk⟩
  ·cases h0
  ·simp only [Rel] at hr;obtain ⟨vs,e,hl,hone⟩:=hr;obtain ⟨e2,hle⟩:=Mf ht;rename_i cs _ _;have hy:cs[fd.offset]?=some y:=by
    have:=congrArg (·[0]?) e2;simp [List.getElem?_take,List.getElem?_drop] at this;exact this.symm
   obtain ⟨v,hv,hrel⟩:=hl.get hy;exact Ak st (by simp [execOp,ho,Instr.field,run_underlying hs,hf,e,asAgg,part,IJ hu,hag,hv]) hk hrel
 ·rw [hag] at h;simp only [if_true,AF,AD] at h;generalize rd F r=X at*;cases X<;>first | exact h.elim | skip
  simp only [Cn,Dz] at h;obtain ⟨xs,ht,hk⟩:=h;rcases Ij.1 hk with ⟨_,hk⟩ | ⟨h0,_⟩
  ·simp only [Rel] at hr;obtain ⟨vs,e,hl,hone⟩:=hr;obtain ⟨e2,hle⟩:=Mf ht;refine Ak st (v:= .agg ((vs.drop fd.offset).take n).toArray) ?_ hk ?_
   ·simp [execOp,ho,Instr.field,run_underlying hs,hf,e,asAgg,part,IJ hu,hag,Dt hn]
   ·simp only [Rel];exact ⟨_,rfl,e2▸(hl.drop _).take _,fun c hc=>hone c (List.mem_of_mem_drop (List.mem_of_mem_take hc))⟩
  ·cases h0
end
end Go.Vc
end
section
namespace Go.Vc
def PS (x y:AA):Prop:= ∀E fz w v,Rel E fz w x v->Rel E fz w y v
inductive bn:List AA->List AA->Prop
 | nil:bn [] []
 | cons {x y:AA} {xs ys:List AA} (h:PS x y) (hs:bn xs ys):bn (x::xs) (y::ys)
inductive oU:Ob->Ob->Prop
 | refl (o:Ob):oU o o
 | dead (o:Ob):oU o .dead
 | row {v k:Nat} {cs ds:List AA} (h:bn cs ds):oU (.row v k cs) (.row v k ds)
 | XE {v k:Nat} {cs:List AA} (n:Nat):oU (.row v k cs) (.row v k (cs.take n))
theorem PS.refl (x:AA):PS x x:=fun _ _ _ _ h=>h
theorem PS.sl {l l' v o n:Nat}:PS (.sl l v o n) (.sl l' v o n):=fun _ _ _ _ h=>by simpa [Rel] using h
theorem PS.ptr {l l' v o:Nat}:PS (.ptr l v o) (.ptr l' v o):=fun _ _ _ _ h=>by simpa [Rel] using h
theorem PS.map {l l' v:Nat}:PS (.map l v) (.map l' v):=fun _ _ _ _ h=>by simpa [Rel] using h
theorem PS.C3 {x:AA}:PS x .C3:=fun _ _ _ _ h=>by simp [Rel]
theorem bn.refl: ∀(xs:List AA),bn xs xs
 | []=>.nil
 | x::xs=>.cons (.refl x) (bn.refl xs)
theorem bn.rel {xs ys:List AA} (h:bn xs ys) {E:Env} {fz:Nat->Prop} {w:World} {vs:List Value} (hr:AZ E fz w xs vs):AZ E fz w ys vs:=by
 induction h generalizing vs with
 | nil=>exact hr
 | cons h _ ih=>
  simp only [AZ] at*;obtain ⟨v,us,rfl,h1,h2⟩:=hr;exact ⟨v,us,rfl,h _ _ _ _ h1,ih h2⟩
theorem bn.xn {xs ys:List AA} (h:bn xs ys) {E:Env} {fz:Nat->Prop} {w:World} {b off:Nat} (hr:Ck E fz w b off xs):Ck E fz w b off ys:=by
 induction h generalizing off with
 | nil=>exact hr
 | cons h _ ih=>
  simp only [Ck] at*;obtain ⟨⟨c,h1,h2,h3⟩,h4⟩:=hr;exact ⟨⟨c,h1,h2,h _ _ _ _ h3⟩,ih h4⟩
theorem bn.length {xs ys:List AA} (h:bn xs ys):ys.length=xs.length:=by
 induction h with
 | nil=>rfl
 | cons _ _ ih=>simp [ih]
theorem PS.agg {xs ys:List AA} (h:bn xs ys):PS (.agg xs) (.agg ys):=fun _ _ _ _ hr=>by
 simp only [Rel] at*;obtain ⟨vs,h1,h2,h3⟩:=hr;exact ⟨vs,h1,h.rel h2,h3⟩
theorem PS.DH {xs ys:List AA} (h:bn xs ys):PS (.DH xs) (.DH ys):=fun _ _ _ _ hr=>by
 simp only [Rel] at*;obtain ⟨vs,h1,h2⟩:=hr;exact ⟨vs,h1,h.rel h2⟩
theorem oU.ok {o o':Ob} (h:oU o o') {E:Env} {fz:Nat->Prop} {w:World} (hr:Ql E fz w o):Ql E fz w o':=by
 cases h with
 | refl=>exact hr
 | dead=>trivial
 | row h=>
  rcases hr with ⟨h1,h0⟩ | ⟨b,base,cap,arr,T,lo,hi,h1,h2,h3,h4,h5,h6,h7⟩
  ·exact .inl ⟨h1,by have:=h.length;subst h0;exact List.length_eq_zero_iff.1 this⟩
  ·exact .inr ⟨b,base,cap,arr,T,lo,hi,h1,h2,h3,by rw [h.length];exact h4,h5,h.xn h6,h7⟩
 | XE n=>
  rcases hr with ⟨h1,h0⟩ | ⟨b,base,cap,arr,T,lo,hi,h1,h2,h3,h4,h5,h6,h7⟩
  ·exact .inl ⟨h1,by subst h0;simp⟩
  ·exact .inr ⟨b,base,cap,arr,T,lo,hi,h1,h2,h3,by simp only [List.length_take];omega,h5,h6.take n,h7⟩
theorem oU.block {o o':Ob} (h:oU o o') {E:Env} {b:Nat} (hb:AU E o'=some b):AU E o=some b:=by
 cases h with
 | refl=>exact hb
 | dead=>simp [AU] at hb
 | row h=>exact hb
 | XE n=>exact hb
structure Sub (φ:Nat->Nat) (S' S:AB):Prop where
 inj: ∀l l',l<S'.length->l'<S'.length->φ l=φ l'->l=l'
 at_: ∀(l:Nat) o,S'[l]?=some o-> ∃o0,S[φ l]?=some o0/\oU o0 o
theorem Sub.own {φ:Nat->Nat} {S' S:AB} (h:Sub φ S' S) {E:Env} {l b:Nat} (ho:Dh E S' l b):Dh E S (φ l) b/\l<S'.length:=by
 obtain ⟨o,h1,h2⟩:=ho;obtain ⟨o0,g1,g2⟩:=h.at_ l o h1;exact ⟨⟨o0,g1,g2.block h2⟩,(List.getElem?_eq_some_iff.1 h1).1⟩
theorem Sub.nil {φ:Nat->Nat} {S:AB}:Sub φ [] S:=⟨fun l l' h=>absurd h (Nat.not_lt_zero _),fun l o h=>by simp at h⟩
theorem Sub.refl {S:AB}:Sub id S S:=⟨fun l l' _ _ h=>h,fun l o h=>⟨o,h,.refl o⟩⟩
section
variable {P : Program} {f : FuncId} {args : List AA}
theorem St.choose {E:Env} {fz:Nat->Prop} {S S':AB} {w:World} {φ:Nat->Nat} (st:St E fz S w) (h:Sub φ S' S):St E fz S' w where
 ok l o hl:=by
  obtain ⟨o0,g1,g2⟩:=h.at_ l o hl;exact g2.ok (st.ok _ _ g1)
 sep l l' b h1 h2:=by
  obtain ⟨g1,i1⟩:=h.own h1;obtain ⟨g2,i2⟩:=h.own h2;exact h.inj l l' i1 i2 (st.sep _ _ _ g1 g2)
 Gi:=st.Gi
 fresh:=st.fresh
theorem AV.bh {S:AB} {R K:AA->AB->Prop} (h:AV P f args S R)
  (hK: ∀r S',R r S'-> ∃r' φ S'',PS r r'/\Sub φ S'' S'/\K r' S''):AV P f args S K:=by
 refine ⟨fun E fz w vals st hrel=>(h.out E fz w vals st hrel).mono fun e w' ⟨r,S',v,E',fz',h1,h2,h3,h4,h5⟩=>?_⟩
 ·obtain ⟨r',φ,S'',g1,g2,g3⟩:=hK r S' h5;exact ⟨r',S'',v,E',fz',h1,⟨h2.env,h2.Yf,h2.IE,h2.AW,fun b ⟨l,hb⟩=>h2.own b ⟨_,(g2.own hb).1⟩,h2.size,h2.os,h2.output,h2.tape⟩,h3.choose g2,g1 _ _ _ _ h4,g3⟩
theorem AV.aE {S:AB} {R K:AA->AB->Prop} (h:AV P f args [] R)
  (hK: ∀r S',R r S'-> ∃r' φ S'',PS r r'/\Sub φ S'' S'/\K r' (S++S'')):AV P f args S K:=by
 refine ⟨fun E fz w vals st hrel=>?_⟩;have st0:St E fz [] w:=⟨fun l o h=>by simp at h,fun l l' b ⟨o,h,_⟩=>by simp at h,st.Gi,st.fresh⟩
 have no: ∀b,¬Own E [] b:=fun b ⟨l,o,h,_⟩=>by simp at h
 refine (h.out E fz w vals st0 hrel).mono fun e w' ⟨r,S',v,E',fz',h1,h2,h3,h4,h5⟩=>?_;obtain ⟨r',φ,S'',g1,g2,g3⟩:=hK r S' h5;have st2:=h3.choose g2;have kp: ∀l b,Dh E S l b->w'.heap[b]?=w.heap[b]?/\ ¬fz' b:=fun l b ho=>by
  have hlt:=st.Ey ho;refine ⟨h2.AW b hlt.1 (no b),fun hf=>?_⟩;rcases h2.IE b hf with q | q | q
  ·exact hlt.2 q
  ·exact no b q
  ·omega
 have fk: ∀b,fz b->w'.heap[b]?=w.heap[b]?:=fun b hb=>h2.AW b (st.Gi b hb) (no b);have new: ∀l b,Dh E' S'' l b->w.heap.size<=b:=fun l b ho=>by
  rcases h2.own b ⟨_,(g2.own ho).1⟩ with q | q
  ·exact absurd q (no b)
  ·exact q
 have split: ∀l b,Dh E' (S++S'') l b->(l<S.length/\Dh E S l b)\/(S.length<=l/\Dh E' S'' (l-S.length) b):=fun l b ⟨o,q1,q2⟩=>by
  by_cases hl:l<S.length
  ·rw [List.getElem?_append_left hl] at q1;exact .inl ⟨hl,o,q1,by rw [<-(st.ok l o q1).block h2.env];exact q2⟩
  ·rw [List.getElem?_append_right (by omega)] at q1;exact .inr ⟨by omega,o,q1,q2⟩
 refine ⟨r',S++S'',v,E',fz',h1,⟨h2.env,h2.Yf,fun b hb=>?_,fun b hb hn=>h2.AW b hb (no b),fun b ⟨l,hb⟩=>?_,h2.size,h2.os,h2.output,h2.tape⟩,⟨fun l o hl=>?_,fun l l' b q1 q2=>?_,h3.Gi,h3.fresh⟩,g1 _ _ _ _ h4,g3⟩
 ·rcases h2.IE b hb with q | q | q
  ·exact .inl q
  ·exact absurd q (no b)
  ·exact .inr (.inr q)
 ·rcases split l b hb with ⟨_,q⟩ | ⟨_,q⟩
  ·exact .inl ⟨l,q⟩
  ·exact .inr (new _ _ q)
 ·by_cases hlt:l<S.length
  ·rw [List.getElem?_append_left hlt] at hl;exact (st.ok l o hl).mono h2.env h2.Yf fk fun b hb=>kp l b ⟨o,hl,hb⟩
  ·rw [List.getElem?_append_right (by omega)] at hl;exact st2.ok _ _ hl
 ·rcases split l b q1 with ⟨a1,a2⟩ | ⟨a1,a2⟩<;>rcases split l' b q2 with ⟨b1,b2⟩ | ⟨b1,b2⟩
  ·exact st.sep _ _ _ a2 b2
  ·have:=(st.Ey a2).1;have:=new _ _ b2;omega
  ·have:=(st.Ey b2).1;have:=new _ _ a2;omega
  ·have:=st2.sep _ _ _ a2 b2;omega
end
theorem Sub.put {S:AB} {i:Nat} {o:Ob} (hi:i<S.length):Sub (fun l=>if l=i then S.length else l) (S.set i o) (S++[o]):=by
 refine ⟨fun l l' h1 h2 h=>?_,fun l o' h=>?_⟩
 ·simp only [List.length_set] at h1 h2;replace h:(if l=i then S.length else l)=(if l'=i then S.length else l'):=h;split at h<;>split at h<;>omega
 ·by_cases e:l=i
  ·subst e;rw [List.getElem?_set_self hi] at h;cases h;exact ⟨o,by simp,.refl o⟩
  ·rw [List.getElem?_set_ne (fun q=>e q.symm)] at h;refine ⟨o',?_,.refl o'⟩;show (S++[o])[if l=i then S.length else l]?=some o';rw [if_neg e,List.getElem?_append_left (List.getElem?_eq_some_iff.1 h).1,h]
theorem CQ.sub {K K':AA->AB->Prop} {E:Env} {fz:Nat->Prop} {S:AB} {w:World} {v:Value} {w':World} (h:CQ K E fz S w v w')
  (hK: ∀r S',K r S'-> ∃r' φ S'',PS r r'/\Sub φ S'' S'/\K' r' S''):CQ K' E fz S w v w':=by
 obtain ⟨r,S',E',fz',h5,h2,h3,h4⟩:=h;obtain ⟨r',φ,S'',g1,g2,g3⟩:=hK r S' h5;exact ⟨r',S'',E',fz',g3,⟨h2.env,h2.Yf,h2.IE,h2.AW,fun b ⟨l,hb⟩=>h2.own b ⟨_,(g2.own hb).1⟩,h2.size,h2.os,h2.output,h2.tape⟩,h3.choose g2,g1 _ _ _ _ h4⟩
theorem Al.mono {P:Program} {r:Result Next} {Φ Ψ:Value->World->Prop} (h:Al P r Φ) (hm: ∀v w,Φ v w->Ψ v w):Al P r Ψ:=by
 unfold Al at h |-;split at h<;>first | exact hm _ _ h | exact h.elim | skip
 ·exact h.mono fun e w'' ⟨v,he,hv⟩=>⟨v,he,hm _ _ hv⟩
 ·exact RoundIn.mono h fun e w'' ⟨v,he,hv⟩=>⟨v,he,hm _ _ hv⟩
theorem AV.kept {P:Program} {f:FuncId} {args:List AA} {S:AB} {i k:Nat} {cs:List AA} {K:AA->AB->Prop} (hi:i<S.length)
  (h:AV P f args [] (fun r S'=> ∃v,r= .ptr 0 v 0/\S'=[.row v k cs])) (hK: ∀v,K (.ptr i v 0) (S.set i (.row v k cs))):AV P f args S K:=
 (h.aE (K:=fun r S'=> ∃v,r= .ptr S.length v 0/\S'=S++[.row v k cs]) fun r S' ⟨v,e1,e2⟩=>⟨.ptr S.length v 0,id,[.row v k cs],e1▸ .ptr,e2▸ .refl,v,rfl,rfl⟩).bh
  fun r S' ⟨v,e1,e2⟩=>by subst e1;subst e2;exact ⟨.ptr i v 0,_,_,.ptr,Sub.put hi,hK v⟩
end Go.Vc
end
end
