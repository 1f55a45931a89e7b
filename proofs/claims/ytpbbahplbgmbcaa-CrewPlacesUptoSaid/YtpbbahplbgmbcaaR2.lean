/- Part of the proof of crewPlacesUpto_holds: the whole is true of every input. Conditions: none. -/
import Derived.Test.YtpbbahplbgmbcaaR1
import Derived.Calls
import Derived.Alone
import Derived.Laws.World
import Derived.Laws.Cells
import Derived.Lib.Bytealg
import Derived.Laws.StructEq
import Derived.Laws.Append
import Derived.Laws.Entries
import Derived.Laws.Slices
import Derived.Laws.Small
import Derived.Laws.Bits
import Derived.Laws.Strings
import Derived.OrdersIn
import Derived.Sort.LoopGhostIn
import Derived.RangeFuncIn
import Derived.RangeFuncRecord
import Derived.RangeFuncSeq
set_option linter.all false
section
section
namespace Go.Vc
inductive AVal where
 | junk
 | tt
 | ff
 | bool (b:Bool)
 | int (k:IntKind) (n:Int)
 | str (s:List UInt8)
 | nilp
 | ptr (l v off:Nat)
 | rop (cs:List AVal)
 | nils
 | sl (l v off len:Nat)
 | ros (len:Nat) (cs:List AVal)
 | agg (cs:List AVal)
 | tup (cs:List AVal)
 | fn (f:Fn) (first cap:List AVal)
 | nilf
 | map (l v:Nat)
 | nilm
 | iface (t:TypeId) (x:AVal)
 | nili
 | cst (v:Value)
 deriving Inhabited
inductive Bk where
 | nil
 | real (b base cap k:Nat)
 | mapb (b:Nat)
abbrev Env:=Nat→Option Bk
mutual
def Rel (E:Env) (fz:Nat→Prop) (w:World):AVal→Value→Prop
 | .junk,_=>True
 | .tt,v=>v= .bool true
 | .ff,v=>v= .bool false
 | .bool b,v=>v= .bool b
 | .int k n,v=>v= .int k n
 | .str s,v=>v= .string ⟨s.toArray⟩
 | .nilp,v=>v= .pointer none
 | .ptr _ x off,v=> ∃b base cap k,E x=some (.real b base cap k)∧v= .pointer (some ⟨b,base+off,none⟩)
 | .rop cs,v=> ∃b off,fz b∧v= .pointer (some ⟨b,off,none⟩)∧RelC E fz w b off cs
 | .nils,v=>v= .slice none 0 0
 | .sl _ x off len,v=>(len=0∧ ∃a,v= .slice a 0 0)∨
   ∃b base cap k c,E x=some (.real b base cap k)∧len≤c∧off+c*k≤cap∧v= .slice (some ⟨b,base+off,none⟩) len c
 | .ros len cs,v=>(len=0∧ ∃a c,v= .slice a 0 c)∨
   ∃b off c,fz b∧len≤c∧v= .slice (some ⟨b,off,none⟩) len c∧RelC E fz w b off cs
 | .agg cs,v=> ∃vs:List Value,v= .agg vs.toArray∧RelL E fz w cs vs∧ ∀c∈vs,c.oneCell'=true
 | .tup cs,v=> ∃vs:List Value,v= .tuple vs.toArray∧RelL E fz w cs vs
 | .fn f xs ys,v=> ∃vs us:List Value,v= .func f vs.toArray us.toArray∧RelL E fz w xs vs∧RelL E fz w ys us
 | .nilf,v=>v= .nilFunc
 | .map _ x,v=> ∃b,E x=some (.mapb b)∧v= .map (some b)
 | .nilm,v=>v= .map none
 | .iface t x,v=> ∃u,v= .iface t u∧Rel E fz w x u
 | .nili,v=>v= .nilIface
 | .cst u,v=>v=u
def RelL (E:Env) (fz:Nat→Prop) (w:World):List AVal→List Value→Prop
 | [],vs=>vs=[]
 | x::xs,vs=> ∃v us,vs=v::us∧Rel E fz w x v∧RelL E fz w xs us
def RelC (E:Env) (fz:Nat→Prop) (w:World) (b:Nat):Nat→List AVal→Prop
 | _,[]=>True
 | off,x::xs=>(∃c,w.cell? ⟨b,off,none⟩=some c∧c.oneCell'=true∧Rel E fz w x c)∧RelC E fz w b (off+1) xs
end
theorem cell_of_heap {w w':World} {b o:Nat} (h:w'.heap[b]?=w.heap[b]?):w'.cell? ⟨b,o,none⟩=w.cell? ⟨b,o,none⟩:=by
 unfold World.cell?;simp only [h]
section
variable {E E' : Env} {fz fz' : Nat → Prop} {w w' : World}
mutual
theorem Rel.mono (hE: ∀v x,E v=some x→E' v=some x) (hf: ∀b,fz b→fz' b) (hw: ∀b,fz b→w'.heap[b]?=w.heap[b]?):
  ∀(x:AVal) {v:Value},Rel E fz w x v→Rel E' fz' w' x v
 | .junk,_,_=>by simp [Rel]
 | .tt,_,h=>by simpa [Rel] using h
 | .ff,_,h=>by simpa [Rel] using h
 | .bool _,_,h=>by simpa [Rel] using h
 | .int _ _,_,h=>by simpa [Rel] using h
 | .str _,_,h=>by simpa [Rel] using h
 | .nilp,_,h=>by simpa [Rel] using h
 | .ptr _ _ _,_,h=>by
  simp only [Rel] at*
  obtain ⟨b,base,cap,k,h1,h2⟩:=h
  exact ⟨b,base,cap,k,hE _ _ h1,h2⟩
 | .rop cs,_,h=>by
  simp only [Rel] at*
  obtain ⟨b,off,h1,h2,h3⟩:=h
  exact ⟨b,off,hf _ h1,h2,RelC.mono hE hf hw cs (hw b h1) h3⟩
 | .nils,_,h=>by simpa [Rel] using h
 | .sl _ _ _ _,_,h=>by
  simp only [Rel] at*
  rcases h with h | ⟨b,base,cap,k,c,h1,h2⟩
  ·exact .inl h
  ·exact .inr ⟨b,base,cap,k,c,hE _ _ h1,h2⟩
 | .ros _ cs,_,h=>by
  simp only [Rel] at*
  rcases h with h | ⟨b,off,c,h1,h2,h3,h4⟩
  ·exact .inl h
  ·exact .inr ⟨b,off,c,hf _ h1,h2,h3,RelC.mono hE hf hw cs (hw b h1) h4⟩
 | .agg cs,_,h=>by
  simp only [Rel] at*
  obtain ⟨vs,h1,h2,h3⟩:=h
  exact ⟨vs,h1,RelL.mono hE hf hw cs h2,h3⟩
 | .tup cs,_,h=>by
  simp only [Rel] at*
  obtain ⟨vs,h1,h2⟩:=h
  exact ⟨vs,h1,RelL.mono hE hf hw cs h2⟩
 | .fn _ xs ys,_,h=>by
  simp only [Rel] at*
  obtain ⟨vs,us,h1,h2,h3⟩:=h
  exact ⟨vs,us,h1,RelL.mono hE hf hw xs h2,RelL.mono hE hf hw ys h3⟩
 | .nilf,_,h=>by simpa [Rel] using h
 | .map _ _,_,h=>by
  simp only [Rel] at*
  obtain ⟨b,h1,h2⟩:=h
  exact ⟨b,hE _ _ h1,h2⟩
 | .nilm,_,h=>by simpa [Rel] using h
 | .iface _ x,_,h=>by
  simp only [Rel] at*
  obtain ⟨u,h1,h2⟩:=h
  exact ⟨u,h1,Rel.mono hE hf hw x h2⟩
 | .nili,_,h=>by simpa [Rel] using h
 | .cst _,_,h=>by simpa [Rel] using h
theorem RelL.mono (hE: ∀v x,E v=some x→E' v=some x) (hf: ∀b,fz b→fz' b) (hw: ∀b,fz b→w'.heap[b]?=w.heap[b]?):
  ∀(xs:List AVal) {vs:List Value},RelL E fz w xs vs→RelL E' fz' w' xs vs
 | [],_,h=>by simpa [RelL] using h
 | x::xs,_,h=>by
  simp only [RelL] at*
  obtain ⟨v,us,h1,h2,h3⟩:=h
  exact ⟨v,us,h1,Rel.mono hE hf hw x h2,RelL.mono hE hf hw xs h3⟩
theorem RelC.mono (hE: ∀v x,E v=some x→E' v=some x) (hf: ∀b,fz b→fz' b) (hw: ∀b,fz b→w'.heap[b]?=w.heap[b]?) {b:Nat}:
  ∀(xs:List AVal) {off:Nat},w'.heap[b]?=w.heap[b]?→RelC E fz w b off xs→RelC E' fz' w' b off xs
 | [],_,_,_=>by simp [RelC]
 | x::xs,off,hb,h=>by
  simp only [RelC] at*
  obtain ⟨⟨c,h1,h2,h3⟩,h4⟩:=h
  exact ⟨⟨c,by rw [cell_of_heap hb];exact h1,h2,Rel.mono hE hf hw x h3⟩,RelC.mono hE hf hw xs hb h4⟩
end
end
section
variable {E : Env} {fz : Nat → Prop} {w : World}
theorem RelL.length: ∀ {xs:List AVal} {vs:List Value},RelL E fz w xs vs→vs.length=xs.length
 | [],_,h=>by simp only [RelL] at h;simp [h]
 | x::xs,_,h=>by
  simp only [RelL] at h
  obtain ⟨v,us,rfl,_,h3⟩:=h
  simp [RelL.length h3]
theorem RelL.get: ∀ {xs:List AVal} {vs:List Value},RelL E fz w xs vs→ ∀ {i:Nat} {x:AVal},xs[i]?=some x→ ∃v,vs[i]?=some v∧Rel E fz w x v
 | [],_,_,i,x,hx=>by simp at hx
 | y::xs,_,h,i,x,hx=>by
  simp only [RelL] at h
  obtain ⟨v,us,rfl,h2,h3⟩:=h
  cases i with
  | zero=>simp at hx;subst hx;exact ⟨v,by simp,h2⟩
  | succ i=>simp at hx;simpa using RelL.get h3 hx
theorem RelL.mk: ∀ {xs:List AVal} {vs:List Value},vs.length=xs.length→(∀(i:Nat) x v,xs[i]?=some x→vs[i]?=some v→Rel E fz w x v)→RelL E fz w xs vs
 | [],vs,h,_=>by simp only [RelL];exact List.length_eq_zero_iff.1 h
 | x::xs,[],h,_=>by simp at h
 | x::xs,v::vs,h,hr=>by
  simp only [RelL]
  refine ⟨v,vs,rfl,hr 0 x v rfl rfl,RelL.mk (by simpa using h) fun i x v hx hv=>hr (i+1) x v (by simpa using hx) (by simpa using hv)⟩
theorem RelL.append {xs ys:List AVal} {vs us:List Value} (h:RelL E fz w xs vs) (h':RelL E fz w ys us):RelL E fz w (xs++ys) (vs++us):=by
 have hl:=h.length
 refine RelL.mk (by simp [h.length,h'.length]) fun i x v hx hv=>?_
 by_cases hi:i<xs.length
 ·rw [List.getElem?_append_left hi] at hx
  rw [List.getElem?_append_left (by omega)] at hv
  obtain ⟨v',h1,h2⟩:=h.get hx
  rw [hv] at h1;cases h1;exact h2
 ·rw [List.getElem?_append_right (by omega)] at hx
  rw [List.getElem?_append_right (by omega),hl] at hv
  obtain ⟨v',h1,h2⟩:=h'.get hx
  rw [hv] at h1;cases h1;exact h2
theorem RelL.drop {xs:List AVal} {vs:List Value} (n:Nat) (h:RelL E fz w xs vs):RelL E fz w (xs.drop n) (vs.drop n):=by
 refine RelL.mk (by simp [h.length]) fun i x v hx hv=>?_
 rw [List.getElem?_drop] at hx hv
 obtain ⟨v',h1,h2⟩:=h.get hx
 rw [hv] at h1;cases h1;exact h2
theorem RelL.take {xs:List AVal} {vs:List Value} (n:Nat) (h:RelL E fz w xs vs):RelL E fz w (xs.take n) (vs.take n):=by
 refine RelL.mk (by simp [h.length]) fun i x v hx hv=>?_
 rw [List.getElem?_take] at hx hv
 split at hx
 ·rename_i hi
  rw [if_pos hi] at hv
  obtain ⟨v',h1,h2⟩:=h.get hx
  rw [hv] at h1;cases h1;exact h2
 ·cases hx
theorem RelC.get {b:Nat}: ∀ {xs:List AVal} {off:Nat},RelC E fz w b off xs→ ∀ {i:Nat} {x:AVal},xs[i]?=some x→
  ∃c,w.cell? ⟨b,off+i,none⟩=some c∧c.oneCell'=true∧Rel E fz w x c
 | [],_,_,i,x,hx=>by simp at hx
 | y::xs,off,h,i,x,hx=>by
  simp only [RelC] at h
  cases i with
  | zero=>simp at hx;subst hx;exact h.1
  | succ i=>
   simp at hx
   have:=RelC.get h.2 hx
   rwa [show off+1+i=off+(i+1) by omega] at this
theorem RelC.mk {b:Nat}: ∀ {xs:List AVal} {off:Nat},(∀(i:Nat) x,xs[i]?=some x→ ∃c,w.cell? ⟨b,off+i,none⟩=some c∧c.oneCell'=true∧Rel E fz w x c)→
  RelC E fz w b off xs
 | [],_,_=>by simp [RelC]
 | x::xs,off,h=>by
  simp only [RelC]
  refine ⟨h 0 x rfl,RelC.mk fun i y hy=>?_⟩
  have:=h (i+1) y (by simpa using hy)
  rwa [show off+(i+1)=off+1+i by omega] at this
theorem RelC.drop {b off:Nat} {xs:List AVal} (n:Nat) (h:RelC E fz w b off xs):RelC E fz w b (off+n) (xs.drop n):=
 RelC.mk fun i x hx=>by
  rw [List.getElem?_drop] at hx
  have:=h.get hx
  rwa [show off+(n+i)=off+n+i by omega] at this
theorem RelC.take {b off:Nat} {xs:List AVal} (n:Nat) (h:RelC E fz w b off xs):RelC E fz w b off (xs.take n):=
 RelC.mk fun i x hx=>by
  rw [List.getElem?_take] at hx
  split at hx
  ·exact h.get hx
  ·cases hx
theorem RelC.append {b off:Nat} {xs ys:List AVal} (h:RelC E fz w b off xs) (h':RelC E fz w b (off+xs.length) ys):RelC E fz w b off (xs++ys):=
 RelC.mk fun i x hx=>by
  by_cases hi:i<xs.length
  ·rw [List.getElem?_append_left hi] at hx;exact h.get hx
  ·rw [List.getElem?_append_right (by omega)] at hx
   have:=h'.get hx
   rwa [show off+xs.length+(i-xs.length)=off+i by omega] at this
theorem RelC.read {b off:Nat} {xs:List AVal} (h:RelC E fz w b off xs): ∃vs:List Value,RelL E fz w xs vs∧(∀c∈vs,c.oneCell'=true)∧
  ∀(j:Nat) v,vs[j]?=some v→w.cell? ⟨b,off+j,none⟩=some v:=by
 induction xs generalizing off with
 | nil=>exact ⟨[],by simp [RelL],by simp,by simp⟩
 | cons x xs ih=>
  simp only [RelC] at h
  obtain ⟨⟨c,h1,h2,h3⟩,h4⟩:=h
  obtain ⟨vs,g1,g2,g3⟩:=ih h4
  refine ⟨c::vs,by simp only [RelL];exact ⟨c,vs,rfl,h3,g1⟩,by simpa [h2] using g2,fun j v hv=>?_⟩
  cases j with
  | zero=>simp at hv;subst hv;simpa using h1
  | succ j=>
   have:=g3 j v (by simpa using hv)
   rwa [show off+1+j=off+(j+1) by omega] at this
end
end Go.Vc
end
section
namespace Go.Vc
abbrev Frame:=List (Nat×AVal)
def Frame.get:Frame→Nat→AVal
 | [],_=>.junk
 | (k,x)::F,n=>match Nat.beq k n with | true=>x | false=>Frame.get F n
inductive Ob where
 | dead
 | row (v k:Nat) (cs:List AVal)
 | mapo (v:Nat) (es:List (AVal×AVal))
 | loopo (b:Nat) (L:Loop) (F:Frame)
 | itero (v mv since last:Nat) (seen:List Nat)
 deriving Inhabited
abbrev Store:=List Ob
def obBlock (E:Env):Ob→Option Nat
 | .dead=>none
 | .row v _ _=>match E v with | some (.real b _ _ _)=>some b | _=>none
 | .mapo v _=>match E v with | some (.mapb b)=>some b | _=>none
 | .loopo b _ _=>some b
 | .itero v _ _ _ _=>match E v with | some (.real b _ _ _)=>some b | _=>none
def OwnAt (E:Env) (S:Store) (l b:Nat):Prop:= ∃o,S[l]?=some o∧obBlock E o=some b
def Own (E:Env) (S:Store) (b:Nat):Prop:= ∃l,OwnAt E S l b
inductive RelE (E:Env) (fz:Nat→Prop) (w:World):List (AVal×AVal)→List MapEntry→Prop
 | nil:RelE E fz w [] []
 | cons {k v:AVal} {m:MapEntry} {es:List (AVal×AVal)} {ms:List MapEntry} (hk:Rel E fz w k m.key) (hv:Rel E fz w v m.val) (h:RelE E fz w es ms):
   RelE E fz w ((k,v)::es) (m::ms)
theorem RelE.mono {E E':Env} {fz fz':Nat→Prop} {w w':World} (hE: ∀v x,E v=some x→E' v=some x) (hf: ∀b,fz b→fz' b) (hw: ∀b,fz b→w'.heap[b]?=w.heap[b]?)
  {es:List (AVal×AVal)} {ms:List MapEntry} (h:RelE E fz w es ms):RelE E' fz' w' es ms:=by
 induction h with
 | nil=>exact .nil
 | cons hk hv _ ih=>exact .cons (hk.mono hE hf hw) (hv.mono hE hf hw) ih
def ObOk (E:Env) (fz:Nat→Prop) (w:World):Ob→Prop
 | .dead=>True
 | .row v k cs=>(E v=some .nil∧cs=[])∨ ∃b base cap arr T lo hi,E v=some (.real b base cap k)∧w.heap[b]?=some (.cells arr T (lo,hi))∧
   base+cap≤arr.size∧cs.length≤cap∧(lo=hi∨(k=1∧arr.size≤lo))∧RelC E fz w b base cs∧ ¬fz b
 | .mapo v es=> ∃b entries clock,E v=some (.mapb b)∧w.heap[b]?=some (.map entries clock)∧(RelE E fz w es entries.toList∧clock=entries.size∧ ∀(i:Nat) m,entries[i]?=some m→m.born=i)∧ ¬fz b
 | .itero v mv since last seen=> ∃b m,E v=some (.real b 0 0 0)∧E mv=some (.mapb m)∧w.heap[b]?=some (.mapIter (some m) since seen.toArray last)∧since≤last∧ ¬fz b
 | .loopo b L F=>w.heap[b]?=some (.loop L)∧L.state= .ready∧L.pending=none∧(∀n,Rel E fz w (F.get n) (L.tmps.getD n undef))∧ ¬fz b
structure St (E:Env) (fz:Nat→Prop) (S:Store) (w:World):Prop where
 ok: ∀(l:Nat) o,S[l]?=some o→ObOk E fz w o
 sep: ∀l l' b,OwnAt E S l b→OwnAt E S l' b→l=l'
 fzlt: ∀b,fz b→b<w.heap.size
 fresh: ∃n,∀v,n≤v→E v=none
def Dm:Prop:=False
abbrev Tp (w w':World):Prop:=w'.tape=w.tape∧(Dm→w.drawn≤w'.drawn)
theorem Tp.of {w w':World} (h:w'.tape=w.tape) (h':w.drawn≤w'.drawn):Tp w w':=⟨h,fun _=>h'⟩
theorem Tp.refl {w:World}:Tp w w:=⟨rfl,fun _=>Nat.le_refl _⟩
theorem Tp.trans {w w1 w2:World} (h:Tp w w1) (h':Tp w1 w2):Tp w w2:=⟨h'.1.trans h.1,fun d=>Nat.le_trans (h.2 d) (h'.2 d)⟩
structure Ext (E:Env) (fz:Nat→Prop) (S:Store) (w:World) (E':Env) (fz':Nat→Prop) (S':Store) (w':World):Prop where
 env: ∀v x,E v=some x→E' v=some x
 frz: ∀b,fz b→fz' b
 fznew: ∀b,fz' b→fz b∨Own E S b∨w.heap.size≤b
 keep: ∀b,b<w.heap.size→ ¬Own E S b→w'.heap[b]?=w.heap[b]?
 own: ∀b,Own E' S' b→Own E S b∨w.heap.size≤b
 size:w.heap.size≤w'.heap.size
 os:w'.os=w.os
 output:w'.output=w.output
 tape:Tp w w'
theorem Ext.refl {E:Env} {fz:Nat→Prop} {S:Store} {w:World}:Ext E fz S w E fz S w:=
 ⟨fun _ _ h=>h,fun _ h=>h,fun _ h=>.inl h,fun _ _ _=>rfl,fun _ h=>.inl h,Nat.le_refl _,rfl,rfl,Tp.refl⟩
theorem Ext.trans {E E1 E2:Env} {fz fz1 fz2:Nat→Prop} {S S1 S2:Store} {w w1 w2:World} (h:Ext E fz S w E1 fz1 S1 w1) (h':Ext E1 fz1 S1 w1 E2 fz2 S2 w2):
  Ext E fz S w E2 fz2 S2 w2 where
 env v x hx:=h'.env v x (h.env v x hx)
 frz b hb:=h'.frz b (h.frz b hb)
 fznew b hb:=by
  rcases h'.fznew b hb with h1 | h1 | h1
  ·exact h.fznew b h1
  ·exact .inr (h.own b h1)
  ·exact .inr (.inr (Nat.le_trans h.size h1))
 keep b hb hn:=by
  rw [h'.keep b (Nat.lt_of_lt_of_le hb h.size) (fun ho=>?_),h.keep b hb hn]
  rcases h.own b ho with h1 | h1
  ·exact hn h1
  ·omega
 own b hb:=by
  rcases h'.own b hb with h1 | h1
  ·exact h.own b h1
  ·exact .inr (Nat.le_trans h.size h1)
 size:=Nat.le_trans h.size h'.size
 os:=h'.os.trans h.os
 output:=h'.output.trans h.output
 tape:=h.tape.trans h'.tape
theorem ObOk.lt {E:Env} {fz:Nat→Prop} {w:World} {o:Ob} {b:Nat} (h:ObOk E fz w o) (hb:obBlock E o=some b):b<w.heap.size∧ ¬fz b:=by
 have lt: ∀ {x:Obj},w.heap[b]?=some x→b<w.heap.size:=fun {x} hx=>by
  rcases Nat.lt_or_ge b w.heap.size with h | h
  ·exact h
  ·simp [Array.getElem?_eq_none h] at hx
 cases o with
 | dead=>simp [obBlock] at hb
 | row v k cs=>
  rcases h with ⟨h1,_⟩ | ⟨b',base,cap,arr,T,lo,hi,h1,h2,_,_,_,_,h3⟩
  ·simp [obBlock,h1] at hb
  ·simp [obBlock,h1] at hb;subst hb;exact ⟨lt h2,h3⟩
 | mapo v es=>
  obtain ⟨b',en,cl,h1,h2,_,h3⟩:=h
  simp [obBlock,h1] at hb;subst hb;exact ⟨lt h2,h3⟩
 | loopo b' L F=>
  obtain ⟨h1,_,_,_,h3⟩:=h
  simp [obBlock] at hb;subst hb;exact ⟨lt h1,h3⟩
 | itero v mv since last seen=>
  obtain ⟨b',m,h1,_,h2,_,h3⟩:=h
  simp [obBlock,h1] at hb;subst hb;exact ⟨lt h2,h3⟩
theorem ObOk.block {E E':Env} {fz:Nat→Prop} {w:World} {o:Ob} (h:ObOk E fz w o) (hE: ∀v x,E v=some x→E' v=some x):obBlock E' o=obBlock E o:=by
 cases o with
 | dead=>rfl
 | row v k cs=>
  rcases h with ⟨h1,_⟩ | ⟨b',base,cap,arr,T,lo,hi,h1,_⟩
  ·simp [obBlock,h1,hE _ _ h1]
  ·simp [obBlock,h1,hE _ _ h1]
 | mapo v es=>
  obtain ⟨b',en,cl,h1,_⟩:=h
  simp [obBlock,h1,hE _ _ h1]
 | loopo b' L F=>rfl
 | itero v mv since last seen=>
  obtain ⟨b',m,h1,_⟩:=h
  simp [obBlock,h1,hE _ _ h1]
theorem ObOk.mono {E E':Env} {fz fz':Nat→Prop} {w w':World} {o:Ob} (h:ObOk E fz w o) (hE: ∀v x,E v=some x→E' v=some x) (hf: ∀b,fz b→fz' b)
  (hw: ∀b,fz b→w'.heap[b]?=w.heap[b]?) (hb: ∀b,obBlock E o=some b→w'.heap[b]?=w.heap[b]?∧ ¬fz' b):ObOk E' fz' w' o:=by
 cases o with
 | dead=>trivial
 | row v k cs=>
  rcases h with ⟨h1,h0⟩ | ⟨b,base,cap,arr,T,lo,hi,h1,h2,h3,h4,h5,h6,h7⟩
  ·exact .inl ⟨hE _ _ h1,h0⟩
  ·have hbb:=hb b (by simp [obBlock,h1])
   exact .inr ⟨b,base,cap,arr,T,lo,hi,hE _ _ h1,by rw [hbb.1];exact h2,h3,h4,h5,RelC.mono hE hf hw cs hbb.1 h6,hbb.2⟩
 | mapo v es=>
  obtain ⟨b,en,cl,h1,h2,h3,h4⟩:=h
  have hbb:=hb b (by simp [obBlock,h1])
  exact ⟨b,en,cl,hE _ _ h1,by rw [hbb.1];exact h2,⟨h3.1.mono hE hf hw,h3.2⟩,hbb.2⟩
 | itero v mv since last seen=>
  obtain ⟨b,m,h1,h2,h3,h4,h5⟩:=h
  have hbb:=hb b (by simp [obBlock,h1])
  exact ⟨b,m,hE _ _ h1,hE _ _ h2,by rw [hbb.1];exact h3,h4,hbb.2⟩
 | loopo b L F=>
  obtain ⟨h1,h2,h3,h4,h5⟩:=h
  have hbb:=hb b rfl
  exact ⟨by rw [hbb.1];exact h1,h2,h3,fun n=>Rel.mono hE hf hw _ (h4 n),hbb.2⟩
section
variable {E E' : Env} {fz fz' : Nat → Prop} {S S' : Store} {w w' : World}
theorem St.own_lt (st:St E fz S w) {l b:Nat} (h:OwnAt E S l b):b<w.heap.size∧ ¬fz b:=by
 obtain ⟨o,h1,h2⟩:=h
 exact (st.ok l o h1).lt h2
theorem St.fz_keep (st:St E fz S w) (h:Ext E fz S w E' fz' S' w'): ∀b,fz b→w'.heap[b]?=w.heap[b]?:=
 fun b hb=>h.keep b (st.fzlt b hb) fun ⟨_,ho⟩=>(st.own_lt ho).2 hb
theorem St.rel (st:St E fz S w) (h:Ext E fz S w E' fz' S' w') {x:AVal} {v:Value} (hr:Rel E fz w x v):Rel E' fz' w' x v:=
 hr.mono h.env h.frz (st.fz_keep h)
theorem St.upd (st:St E fz S w) (l:Nat) (o:Ob) (hE: ∀v x,E v=some x→E' v=some x) (hn: ∃n,∀v,n≤v→E' v=none)
  (hS: ∀l':Nat,l'≠l→S'[l']?=S[l']?) (hl:S'[l]?=some o) (hsz:w.heap.size≤w'.heap.size)
  (hw: ∀b,b<w.heap.size→ ¬OwnAt E S l b→w'.heap[b]?=w.heap[b]?)
  (hb: ∀b,obBlock E' o=some b→OwnAt E S l b∨w.heap.size≤b) (ho:ObOk E' fz w' o)
  (h1:w'.os=w.os) (h2:w'.output=w.output) (h3:Tp w w'):St E' fz S' w'∧Ext E fz S w E' fz S' w':=by
 have keep: ∀b,fz b→w'.heap[b]?=w.heap[b]?:=fun b hb=>hw b (st.fzlt b hb) fun ho=>(st.own_lt ho).2 hb
 have back: ∀(l' b:Nat),l'≠l→OwnAt E' S' l' b→OwnAt E S l' b:=fun l' b hne ⟨o',g1,g2⟩=>by
  rw [hS l' hne] at g1
  exact ⟨o',g1,by rw [←(st.ok l' o' g1).block hE];exact g2⟩
 refine ⟨⟨fun l' o' hl'=>?_,fun l' l'' b g1 g2=>?_,fun b hb=>Nat.lt_of_lt_of_le (st.fzlt b hb) hsz,hn⟩,
  ⟨hE,fun _ h=>h,fun _ h=>.inl h,fun b hb hno=>hw b hb fun hh=>hno ⟨l,hh⟩,fun b ⟨l',g⟩=>?_,hsz,h1,h2,h3⟩⟩
 ·by_cases hne:l'=l
  ·subst hne;rw [hl] at hl';cases hl';exact ho
  ·rw [hS l' hne] at hl'
   refine (st.ok l' o' hl').mono hE (fun _ h=>h) keep fun b hb'=>⟨hw b (st.own_lt ⟨o',hl',hb'⟩).1 fun hh=>hne (st.sep _ _ _ ⟨o',hl',hb'⟩ hh),(st.own_lt ⟨o',hl',hb'⟩).2⟩
 ·have fromL: ∀(b l'':Nat),l''≠l→OwnAt E' S' l b→OwnAt E' S' l'' b→False:=fun b l'' hne g1 g2=>by
   obtain ⟨o',q1,q2⟩:=g1
   rw [hl] at q1;cases q1
   have g2':=back l'' b hne g2
   rcases hb b q2 with hh | hh
   ·exact hne (st.sep _ _ _ g2' hh)
   ·have:=(st.own_lt g2').1;omega
  by_cases e1:l'=l
  ·by_cases e2:l''=l
   ·rw [e1,e2]
   ·subst e1;exact (fromL b l'' e2 g1 g2).elim
  ·by_cases e2:l''=l
   ·subst e2;exact (fromL b l' e1 g2 g1).elim
   ·exact st.sep _ _ _ (back l' b e1 g1) (back l'' b e2 g2)
 ·by_cases hne:l'=l
  ·subst hne
   obtain ⟨o',q1,q2⟩:=g
   rw [hl] at q1;cases q1
   rcases hb b q2 with hh | hh
   ·exact .inl ⟨_,hh⟩
   ·exact .inr hh
  ·exact .inl ⟨l',back l' b hne g⟩
theorem St.itf (st:St E fz S w) {w₁:World} (h:Go.Vk.Itf w w₁):St E fz S w₁∧Ext E fz S w E fz S w₁:=by
 have ht: ∀b:Nat,b<w.heap.size→w₁.heap[b]?=w.heap[b]?:=fun b hb=>h.get hb
 refine ⟨⟨fun l o hl=>(st.ok l o hl).mono (fun _ _ h=>h) (fun _ h=>h) (fun b hb=>ht b (st.fzlt b hb)) fun b hb=>⟨ht b (st.own_lt ⟨o,hl,hb⟩).1,(st.own_lt ⟨o,hl,hb⟩).2⟩,st.sep,fun b hb=>Nat.lt_of_lt_of_le (st.fzlt b hb) h.size,st.fresh⟩,
  ⟨fun _ _ h=>h,fun _ h=>h,fun _ h=>.inl h,fun b hb _=>ht b hb,fun _ h=>.inl h,h.size,h.os,h.output,⟨h.tape,fun d=>d.elim⟩⟩⟩
theorem St.same (st:St E fz S w) (hh:w'.heap=w.heap) (h1:w'.os=w.os) (h2:w'.output=w.output) (h3:Tp w w'):St E fz S w'∧Ext E fz S w E fz S w':=by
 have ht: ∀b:Nat,w'.heap[b]?=w.heap[b]?:=fun b=>by rw [hh]
 refine ⟨⟨fun l o hl=>(st.ok l o hl).mono (fun _ _ h=>h) (fun _ h=>h) (fun b _=>ht b) fun b hb=>⟨ht b,(st.own_lt ⟨o,hl,hb⟩).2⟩,st.sep,fun b hb=>by rw [hh];exact st.fzlt b hb,st.fresh⟩,
  ⟨fun _ _ h=>h,fun _ h=>h,fun _ h=>.inl h,fun b _ _=>ht b,fun _ h=>.inl h,by rw [hh];exact Nat.le_refl _,h1,h2,h3⟩⟩
end
end Go.Vc
end
section
namespace Go.Vc
inductive Rand where
 | t (n:Nat)
 | c (x:AVal)
 deriving Inhabited
def getK:Frame→Nat→(AVal→Prop)→Prop
 | [],_,K=>K .junk
 | (k,x)::F,n,K=>match Nat.beq k n with | true=>K x | false=>getK F n K
def rd (F:Frame):Rand→AVal
 | .t n=>F.get n
 | .c x=>x
def rdK (F:Frame) (x:Rand) (K:AVal→Prop):Prop:=match x with | .t n=>getK F n K | .c x=>K x
def rdsK (F:Frame) (xs:List Rand) (K:List AVal→Prop):Prop:=
 match xs with | []=>K [] | x::xs=>rdK F x fun v=>rdsK F xs fun vs=>K (v::vs)
def wInt (x:AVal) (K:IntKind→Int→Prop):Prop:=match x with | .int k n=>K k n | _=>False
def wBool (x:AVal) (K:Bool→Prop):Prop:=match x with | .bool b=>K b | .tt=>K true | .ff=>K false | _=>False
def wIdx (x:AVal) (K:Nat→Prop):Prop:=match x with | .int _ n=> ∃j:Nat,n=(j:Int)∧K j | _=>False
def wStr (x:AVal) (K:List UInt8→Prop):Prop:=match x with | .str s=>K s | _=>False
def wCells (x:AVal) (K:List AVal→Prop):Prop:=
 match x with | .agg cs=>K cs | .tup _=>False | .junk=>False | .cst _=>False | x=>K [x]
def takeN:Nat→List AVal→Option (List AVal)
 | 0,_=>some []
 | n+1,x::xs=>match takeN n xs with | some ys=>some (x::ys) | none=>none
 | _+1,[]=>none
def over:List AVal→List AVal→List AVal
 | [],_=>[]
 | cs,[]=>cs
 | _::cs,y::ys=>y::over cs ys
def setCells:List AVal→Nat→List AVal→List AVal
 | cs,0,ys=>over cs ys
 | [],_+1,_=>[]
 | c::cs,n+1,ys=>c::setCells cs n ys
def wSet (S:Store) (l:Nat) (o:Ob) (K:Store→Prop):Prop:=
 match S,l with
 | [],_=>False
 | _::S,0=>K (o::S)
 | a::S,l+1=>wSet S l o (fun S'=>K (a::S'))
def wGet (S:Store) (l:Nat) (K:Ob→Prop):Prop:=
 match S,l with
 | [],_=>False
 | o::_,0=>K o
 | _::S,l+1=>wGet S l K
def overK:List AVal→List AVal→(List AVal→Prop)→Prop
 | [],_,K=>K []
 | c::cs,[],K=>K (c::cs)
 | _::cs,y::ys,K=>overK cs ys fun zs=>K (y::zs)
def setCellsK:List AVal→Nat→List AVal→(List AVal→Prop)→Prop
 | cs,0,ys,K=>overK cs ys K
 | [],_+1,_,K=>K []
 | c::cs,n+1,ys,K=>setCellsK cs n ys fun zs=>K (c::zs)
def setRowK (k:Nat) (cs:List AVal) (off:Nat) (ys:List AVal) (K:List AVal→Prop):Prop:=
 match k with | 0=>setCellsK cs off ys K | _+1=>K (setCells cs off ys)
def dropK:Nat→List AVal→(List AVal→Prop)→Prop
 | 0,cs,K=>K cs
 | n+1,_::cs,K=>dropK n cs K
 | _+1,[],K=>K []
def takeK:Nat→List AVal→(List AVal→Prop)→Prop
 | 0,_,K=>K []
 | n+1,x::xs,K=>takeK n xs fun ys=>K (x::ys)
 | _+1,[],_=>False
def mkVK (ag:Bool) (xs:List AVal) (K:AVal→Prop):Prop:=
 match ag with | true=>K (.agg xs) | false=>match xs with | [x]=>K x | _=>False
def wRow (S:Store) (l v:Nat) (K:Nat→List AVal→Prop):Prop:=
 wGet S l fun o=>match o with | .row v' k cs=>v=v'∧K k cs | _=>False
def wMap (S:Store) (l v:Nat) (K:List (AVal×AVal)→Prop):Prop:=
 wGet S l fun o=>match o with | .mapo v' es=>v=v'∧K es | _=>False
def wIter (S:Store) (l v:Nat) (K:Nat→Nat→Nat→List Nat→Prop):Prop:=
 wGet S l fun o=>match o with | .itero v' mv since last seen=>v=v'∧K mv since last seen | _=>False
inductive KeyQ where | str | int (k:IntKind) | bool
 deriving Inhabited
def keyOk:KeyQ→AVal→Bool
 | .str,.str _=>true
 | .int k,.int k' _=>decide (k=k')
 | .bool,.bool _=>true
 | _,_=>false
def keySame:AVal→AVal→Bool
 | .str a,.str b=>a == b
 | .int _ a,.int _ b=>a == b
 | .bool a,.bool b=>a == b
 | _,_=>false
def keyAt (y:AVal):List (AVal×AVal)→Option (Nat×AVal)
 | []=>none
 | (k,v)::r=>match keySame y k with | true=>some (0,v) | false=>match keyAt y r with | some (i,x)=>some (i+1,x) | none=>none
def keyPut (y x:AVal) (es:List (AVal×AVal)):List (AVal×AVal):=match keyAt y es with | some (i,_)=>es.set i (y,x) | none=>es++[(y,x)]
def lookV (ok:Bool) (x:AVal) (b:Bool):AVal:=match ok with | true=>.tup [x,.bool b] | false=>x
def wLoad (S:Store) (n:Nat) (ag:Bool) (x:AVal) (K:AVal→Prop):Prop:=
 match x with
 | .rop cs=>takeK n cs fun xs=>mkVK ag xs K
 | .ptr l v off=>wRow S l v fun k cs=>match k with
  | 0=>dropK off cs fun ds=>takeK n ds fun xs=>mkVK ag xs K
  | _+1=> ∃xs,takeN n (cs.drop off)=some xs∧mkVK ag xs K
 | _=>False
def wFill (F:Frame) (cs:List AVal) (K:List AVal→Prop):List (Nat×Nat×Rand)→Prop
 | []=>K cs
 | (off,n,x)::rest=>rdK F x fun x=>wCells x fun ys=>ys.length=n∧off+n≤cs.length∧setCellsK cs off ys fun cs'=>wFill F cs' K rest
def inI64 (n:Int):Prop:= -9223372036854775808≤n∧n≤9223372036854775807
def wMk (k:IntKind) (n:Int) (K:AVal→Prop):Prop:=
 match k with | .i64=>inI64 n∧K (.int .i64 n) | k=>K (.int k (k.wrap n))
def intBin (op:BinOp) (k:IntKind) (a b:Int) (K:AVal→Prop):Prop:=
 match op with
 | .add=>wMk k (a+b) K
 | .sub=>wMk k (a-b) K
 | .mul=>wMk k (a*b) K
 | .quo=>b≠0∧wMk k (a.tdiv b) K
 | .rem=>b≠0∧K (.int k (a.tmod b))
 | .eql=>K (.bool (decide (a=b)))
 | .neq=>K (.bool (!decide (a=b)))
 | .lss=>K (.bool (decide (a<b)))
 | .leq=>K (.bool (decide (a≤b)))
 | .gtr=>K (.bool (decide (b<a)))
 | .geq=>K (.bool (decide (b≤a)))
 | .and=>K (.int k (k.wrap ((BitVec.ofInt k.bits a) &&& (BitVec.ofInt k.bits b)).toNat))
 | .or=>K (.int k (k.wrap ((BitVec.ofInt k.bits a) ||| (BitVec.ofInt k.bits b)).toNat))
 | .xor=>K (.int k (k.wrap ((BitVec.ofInt k.bits a) ^^^ (BitVec.ofInt k.bits b)).toNat))
 | _=>False
def strBin (op:BinOp) (a b:List UInt8) (K:AVal→Prop):Prop:=
 match op with
 | .add=>inI64 (a.length+b.length)∧K (.str (a++b))
 | .eql=>K (.bool (decide (a=b)))
 | .neq=>K (.bool (!decide (a=b)))
 | .lss=>K (.bool (Op.bytesLess a b))
 | .leq=>K (.bool (Op.bytesLess a b || decide (a=b)))
 | .gtr=>K (.bool (!(Op.bytesLess a b || decide (a=b))))
 | .geq=>K (.bool (!Op.bytesLess a b))
 | _=>False
inductive FK where
 | int
 | str
 | bool
 deriving Inhabited
def cellsEq:List FK→List AVal→List AVal→(Bool→Prop)→Prop
 | [],[],[],K=>K true
 | .int::ks,.int k a::xs,.int k' b::ys,K=>k=k'∧cellsEq ks xs ys fun r=>K (decide (a=b) && r)
 | .str::ks,.str a::xs,.str b::ys,K=>cellsEq ks xs ys fun r=>K (decide (a=b) && r)
 | .bool::ks,.bool a::xs,.bool b::ys,K=>cellsEq ks xs ys fun r=>K (decide (a=b) && r)
 | _,_,_,_=>False
def eqK (op:BinOp) (r:Bool) (K:AVal→Prop):Prop:=
 match op with | .eql=>K (.bool r) | .neq=>K (.bool (!r)) | _=>False
inductive EqQ where
 | none
 | bool
 | ptr
 | agg (ks:List FK)
 | func
 | map
 deriving Inhabited
def vcBin (q:EqQ) (op:BinOp) (x y:AVal) (K:AVal→Prop):Prop:=
 match x,y with
 | .int k a,.int k' b=>
  match op with
  | .shl=>0≤b∧wMk k (a*2 ^ (min b.toNat k.bits)) K
  | .shr=>0≤b∧K (.int k (a.fdiv (2 ^ (min b.toNat k.bits))))
  | op=>k=k'∧intBin op k a b K
 | .str a,.str b=>strBin op a b K
 | .bool a,.bool b=>match q with | .bool=>eqK op (decide (a=b)) K | _=>False
 | .agg xs,.agg ys=>match q with | .agg ks=>cellsEq ks xs ys fun r=>eqK op r K | _=>False
 | .nilp,.nilp=>match q with | .ptr=>eqK op true K | _=>False
 | .ptr _ _ _,.nilp=>match q with | .ptr=>eqK op false K | _=>False
 | .nilp,.ptr _ _ _=>match q with | .ptr=>eqK op false K | _=>False
 | .rop _,.nilp=>match q with | .ptr=>eqK op false K | _=>False
 | .nilp,.rop _=>match q with | .ptr=>eqK op false K | _=>False
 | .nilf,.nilf=>match q with | .func=>eqK op true K | _=>False
 | .fn _ _ _,.nilf=>match q with | .func=>eqK op false K | _=>False
 | .nilm,.nilm=>match q with | .map=>eqK op true K | _=>False
 | .map _ _,.nilm=>match q with | .map=>eqK op false K | _=>False
 | _,_=>False
def subL (cs:List AVal) (off n:Nat):List AVal:=(cs.drop off).take n
def callable (P:Program) (f:FuncId):Bool:=match P.funcs[f]? with | some fn=>fn.body.isSome && fn.name != "runtime.NumGoroutine" | none=>false
def XCalls (P:Program) (f:FuncId) (args:Array Value) (w:World) (R:Ending→World→Prop):Prop:=callable P f=true∧Go.Vk.CallsV P f args w R
theorem XCalls.mono {P:Program} {f:FuncId} {args:Array Value} {w:World} {R R':Ending→World→Prop} (h:XCalls P f args w R) (hr: ∀e w',R e w'→R' e w'):XCalls P f args w R':=⟨h.1,h.2.mono hr⟩
structure ACalls (P:Program) (f:FuncId) (args:List AVal) (S:Store) (R:AVal→Store→Prop):Prop where
 out: ∀E fz w vals,St E fz S w→RelL E fz w args vals→
  XCalls P f vals.toArray w fun e w'=> ∃r S' v E' fz',e= .returned v∧Ext E fz S w E' fz' S' w'∧St E' fz' S' w'∧Rel E' fz' w' r v∧R r S'
structure YCalls (P:Program) (l:Nat) (args:List AVal) (S:Store) (R:AVal→Store→Prop):Prop where
 out:False
inductive ExtK where
 | idxb
 | cnt
 deriving Inhabited
def vcExt (k:ExtK) (xs:List AVal) (K:AVal→Prop):Prop:=
 match k,xs with
 | .idxb,[.str s,.int .u8 c]=>K (.int .i64 (Lib.indexByte s c.toNat.toUInt8))
 | .cnt,[.str s,.int .u8 c]=>K (.int .i64 (Lib.countByte s c.toNat.toUInt8:Nat))
 | _,_=>False
inductive SOp where
 | mov (x:Rand)
 | newnil (k:Nat)
 | pick (c a b:Rand)
 | alloc (k:Nat) (z:List AVal)
 | box (k:Nat) (x:Rand)
 | build (z:List AVal) (parts:List (Nat×Nat×Rand))
 | bslice (ro:Bool) (len k:Nat) (z:List AVal) (parts:List (Nat×Nat×Rand))
 | load (n:Nat) (ag:Bool) (x:Rand)
 | store (n:Nat) (x v:Rand)
 | nilchk (x:Rand)
 | bin (q:EqQ) (op:BinOp) (x y:Rand)
 | strid (x:Rand)
 | not (x:Rand)
 | neg (x:Rand)
 | conv (k:IntKind) (x:Rand)
 | mkslice (k bytes:Nat) (z:List AVal) (len cap:Rand)
 | slice (k:Nat) (x:Rand) (lo hi:Option Rand)
 | faddr (off:Nat) (x:Rand)
 | field (off n:Nat) (ag:Bool) (x:Rand)
 | iaddr (k:Nat) (arr:Option Nat) (x i:Rand)
 | index (k:Nat) (arr:Option Nat) (ag:Bool) (x i:Rand)
 | len (str:Bool) (x:Rand)
 | append (k bytes:Nat) (s x:Rand)
 | appk (k bytes:Nat) (s x:Rand)
 | min (xs:List Rand)
 | max (xs:List Rand)
 | mkfunc (f:Fn) (first cap:List Rand)
 | extract (x:Rand) (i:Nat)
 | ext (k:ExtK) (args:List Rand)
 | call (f:FuncId) (args:List Rand)
 | callv (x:Rand) (args:List Rand)
 | rcall (f:FuncId) (args:List Rand)
 | clres (d k:Nat) (f:FuncId) (args:List Rand)
 | bad
 | isnil (neg:Bool) (x:Rand)
 | peq (neg:Bool) (x y:Rand)
 | aslice (n:Nat) (x:Rand)
 | mkres (d k bytes:Nat) (z:List AVal) (len cap:Rand)
 | clear (k:Nat) (z:List AVal) (x:Rand)
 | s2b (x:Rand)
 | b2s (x:Rand)
 | mark (x:Rand)
 | again (t n:Nat) (ag:Bool) (x:Rand)
 | alres (d k:Nat) (z:List AVal)
 | mapres (d:Nat)
 | calres (d k:Nat) (f:FuncId) (args zs:List Rand)
 | mkif (t:TypeId) (x:Rand)
 | slice3 (k:Nat) (x h m:Rand)
 | mkmap
 | mlook (q:KeyQ) (ok:Bool) (z:AVal) (m k:Rand)
 | mupd (q:KeyQ) (m k x:Rand)
 | ment (q:KeyQ) (z:AVal) (m k:Rand)
 | mset (m i x:Rand)
 | mrange (x:Rand)
 | mnext (x:Rand)
 | mentry (x:Rand)
 deriving Inhabited
def wSrc (S:Store) (k:Nat) (x:AVal) (K:Nat→List AVal→Prop):Prop:=
 match x with
 | .nils=>K 0 []
 | .ros n cs=>n*k≤cs.length∧K n (cs.take (n*k))
 | .sl l v off n=>wRow S l v fun _ cs=>off+n*k≤cs.length∧K n (subL cs off (n*k))
 | .str s=>k=1∧K s.length (s.map fun c=>.int .u8 c.toNat)
 | _=>False
def wLo (F:Frame) (x:Option Rand) (K:Nat→Prop):Prop:=match x with | none=>K 0 | some r=>rdK F r fun x=>wIdx x K
def wHi (F:Frame) (n:Nat) (x:Option Rand) (K:Nat→Prop):Prop:=match x with | none=>K n | some r=>rdK F r fun x=>wIdx x K
def vcMin (a:AVal) (K:AVal→Prop):List AVal→Prop
 | []=>K a
 | b::rest=>match a,b with | .int k x,.int k' y=>k=k'∧vcMin (.int k (Min.min x y)) K rest | _,_=>False
def vcMax (a:AVal) (K:AVal→Prop):List AVal→Prop
 | []=>K a
 | b::rest=>match a,b with | .int k x,.int k' y=>k=k'∧vcMax (.int k (Max.max x y)) K rest | _,_=>False
def wPush (S:Store) (o:Ob) (K:Nat→Store→Prop):Prop:=
 match S with
 | []=>K 0 [o]
 | a::S=>wPush S o fun n S'=>K (n+1) (a::S')
def byteCells (ys:List AVal) (K:List UInt8→Prop):Prop:= ∃ns:List Int,ys=ns.map (AVal.int .u8)∧K (ns.map fun n=>UInt8.ofNat n.toNat)
def wBytes (S:Store) (x:AVal) (K:List UInt8→Prop):Prop:=
 match x with
 | .nils=>K []
 | .ros n cs=>n≤cs.length∧byteCells (cs.take n) K
 | .sl l v off n=>wRow S l v fun _ cs=>off+n≤cs.length∧byteCells (subL cs off n) K
 | _=>False
def vcOp (P:Program) (F:Frame) (S:Store) (K:AVal→Store→Prop):SOp→Prop
 | .mov x=>rdK F x fun x=>K x S
 | .newnil k=> ∀v,wPush S (.row v k []) fun l S'=>K (.sl l v 0 0) S'
 | .pick c a b=>rdK F c fun c=>match c with
  | .tt=>rdK F a fun x=>K x S
  | .ff=>rdK F b fun x=>K x S
  | .bool c=>(c=true→rdK F a fun x=>K x S)∧(c=false→rdK F b fun x=>K x S)
  | _=>False
 | .alloc k z=> ∀v,wPush S (.row v k z) fun l S'=>K (.ptr l v 0) S'
 | .box k x=>rdK F x fun x=>wCells x fun cs=> ∀v,wPush S (.row v k cs) fun l S'=>K (.ptr l v 0) S'
 | .build z parts=>wFill F z (fun cs=>K (.agg cs) S) parts
 | .bslice ro len k z parts=>wFill F z (fun cs=>match ro with
  | true=>K (.ros len cs) S
  | false=> ∀v,wPush S (.row v k cs) fun l S'=>K (.sl l v 0 len) S') parts
 | .load n ag x=>rdK F x fun x=>wLoad S n ag x fun r=>K r S
 | .store n x v=>rdK F x fun x=>match x with
  | .ptr l ver off=>wRow S l ver fun k cs=>rdK F v fun v=>wCells v fun ys=>ys.length=n∧off+n≤cs.length∧
    setRowK k cs off ys fun cs'=>wSet S l (.row ver k cs') fun S'=>K .junk S'
  | _=>False
 | .nilchk x=>rdK F x fun x=>match x with
  | .ptr l v off=>K (.ptr l v off) S
  | .rop cs=>K (.rop cs) S
  | .fn (.func f) a b=>K (.fn (.func f) a b) S
  | .map l v=>K (.map l v) S
  | _=>False
 | .bin q op x y=>rdK F x fun x=>rdK F y fun y=>vcBin q op x y fun r=>K r S
 | .strid x=>rdK F x fun x=>match x with | .str s=>K (.str s) S | _=>False
 | .not x=>rdK F x fun x=>wBool x fun b=>K (.bool (!b)) S
 | .neg x=>rdK F x fun x=>wInt x fun k n=>wMk k (0-n) fun r=>K r S
 | .conv k x=>rdK F x fun x=>wInt x fun _ n=>wMk k n fun r=>K r S
 | .mkslice k bytes z len cap=>rdK F len fun x=>rdK F cap fun y=>wIdx x fun n=>(y=x∨ ∃kc,∃c:Nat,y= .int kc (c:Int)∧n≤c∧bytes*c≤140737488355328)∧bytes*n≤140737488355328∧
   ∀v,wPush S (.row v k (List.replicate n z).flatten) fun l S'=>K (.sl l v 0 n) S'
 | .slice k x lo hi=>rdK F x fun x=>match k with
  | 0=>match x with
   | .str s=>wHi F s.length hi fun h=>wLo F lo fun j=>j≤h∧h≤s.length∧K (.str ((s.take h).drop j)) S
   | _=>False
  | k+1=>match x with
   | .ros n cs=>wHi F n hi fun h=>wLo F lo fun j=>j≤h∧h≤n∧n*(k+1)≤cs.length∧K (.ros (h-j) (subL cs (j*(k+1)) ((h-j)*(k+1)))) S
   | .sl l v off n=>wHi F n hi fun h=>wLo F lo fun j=>j≤h∧h≤n∧wRow S l v fun k' _=>k'=k+1∧K (.sl l v (off+j*(k+1)) (h-j)) S
   | .nils=>wHi F 0 hi fun h=>wLo F lo fun j=>j=0∧h=0∧K .nils S
   | _=>False
 | .faddr off x=>rdK F x fun x=>match x with
  | .ptr l v o=>K (.ptr l v (o+off)) S
  | .rop cs=>dropK off cs fun cs'=>K (.rop cs') S
  | _=>False
 | .field off n ag x=>rdK F x fun x=>match x with
  | .agg cs=>dropK off cs fun ds=>takeK n ds fun xs=>mkVK ag xs fun r=>K r S
  | _=>False
 | .iaddr k arr x i=>rdK F x fun x=>rdK F i fun i=>wIdx i fun j=>match x,arr with
  | .ros n cs,none=>j<n∧ ∃xs,takeN k (cs.drop (j*k))=some xs∧K (.rop xs) S
  | .sl l v off n,none=>j<n∧wRow S l v fun k' _=>(k'=k∨k'=0)∧K (.ptr l v (off+j*k)) S
  | .ptr l v off,some n=>j<n∧K (.ptr l v (off+j*k)) S
  | .rop cs,some n=>j<n∧K (.rop (cs.drop (j*k))) S
  | _,_=>False
 | .index k arr ag x i=>rdK F x fun x=>rdK F i fun i=>wIdx i fun j=>match x,arr with
  | .str s,none=> ∃c,s[j]?=some c∧K (.int .u8 (c.toNat:Int)) S
  | .agg cs,some n=>j<n∧ ∃xs,takeN k (cs.drop (j*k))=some xs∧mkVK ag xs fun r=>K r S
  | _,_=>False
 | .len str x=>rdK F x fun x=>match str with
  | true=>match x with
   | .str s=>K (.int .i64 (s.length:Int)) S
   | _=>False
  | false=>match x with
   | .ros n _=>K (.int .i64 (n:Int)) S
   | .sl _ _ _ n=>K (.int .i64 (n:Int)) S
   | .nils=>K (.int .i64 ((0:Nat):Int)) S
   | _=>False
 | .append k bytes s x=>rdK F s fun s=>rdK F x fun x=>wSrc S k x fun n ys=>match s with
  | .nils=>n*bytes≤140737488355328∧ ∀v,wPush S (.row v k ys) fun l S'=>K (.sl l v 0 n) S'
  | .sl l ver off len=>wRow S l ver fun k' cs=>k'=k∧off+len*k≤cs.length∧(len+n)*bytes≤140737488355328∧
    ∀v,wSet S l (.row v k (subL cs off (len*k)++ys)) fun S'=>K (.sl l v 0 (len+n)) S'
  | _=>False
 | .appk k bytes s x=>rdK F s fun s=>rdK F x fun x=>wSrc S k x fun n ys=>0<n∧match s with
  | .nils=>n*bytes≤140737488355328∧ ∀v,wPush S (.row v k ys) fun l S'=>K (.sl l v 0 n) S'
  | .sl l ver off len=>wRow S l ver fun k' cs=>k'=k∧off+len*k≤cs.length∧(len+n)*bytes≤140737488355328∧
    (wSet S l (.row ver k (cs.take (off+len*k)++ys)) fun S'=>K (.sl l ver off (len+n)) S')∧ ∀v,wPush S (.row v k (subL cs off (len*k)++ys)) fun l' S'=>K (.sl l' v 0 (len+n)) S'
  | _=>False
 | .min xs=>rdsK F xs fun vs=>match vs with | []=>False | x::rest=>vcMin x (fun r=>K r S) rest
 | .max xs=>rdsK F xs fun vs=>match vs with | []=>False | x::rest=>vcMax x (fun r=>K r S) rest
 | .mkfunc f first cap=>rdsK F first fun xs=>rdsK F cap fun ys=>K (.fn f xs ys) S
 | .extract x i=>rdK F x fun x=>match x with | .tup xs=>dropK i xs fun ds=>(match ds with | y::_=>K y S | []=>False) | _=>False
 | .ext k args=>rdsK F args fun xs=>vcExt k xs fun r=>K r S
 | .call f args=>rdsK F args fun xs=>ACalls P f xs S K
 | .clres d k f args=>rdsK F args fun xs=> ∃n cs,ACalls P f xs S (fun r S'=> ∃v,r= .sl S.length v 0 n∧S'=S++[.row v k cs])∧0<d∧d≤S.length∧S[S.length-d]?=some .dead∧
   ∀v,K (.sl (S.length-d) v 0 n) (S.set (S.length-d) (.row v k cs))
 | .rcall f args=>rdsK F args fun xs=> ∃r0,ACalls P f xs [] (fun r _=>r=r0)∧K r0 S
 | .callv x args=>rdK F x fun x=>match x with | .fn (.func f) [] cap=>True∧rdsK F args fun xs=>ACalls P f (xs++cap) S K | .fn (.yield l) [] []=>True∧rdsK F args fun xs=>YCalls P l xs S K | _=>False
 | .bad=>False
 | .peq neg x y=>rdK F x fun x=>rdK F y fun y=>match x,y with
  | .ptr l v off,.ptr l' v' off'=>wRow S l v fun k _=>k=0∧wRow S l' v' fun k' _=>k'=0∧K (.bool (decide (l=l'∧off=off') != neg)) S
  | .ptr _ _ _,.nilp=>K (.bool neg) S
  | .nilp,.ptr _ _ _=>K (.bool neg) S
  | .rop _,.nilp=>K (.bool neg) S
  | .nilp,.rop _=>K (.bool neg) S
  | .nilp,.nilp=>K (.bool (!neg)) S
  | _,_=>False
 | .aslice n x=>rdK F x fun x=>match x with
  | .ptr l v off=>wRow S l v fun k cs=>k=0∧off+n≤cs.length∧K (.sl l v off n) S
  | _=>False
 | .isnil neg x=>rdK F x fun x=>match x with
  | .nils=>K (.bool (!neg)) S
  | .ros n _=> ∀b:Bool,(b=true→n=0)→K (.bool (b != neg)) S
  | .sl _ _ _ n=> ∀b:Bool,(b=true→n=0)→K (.bool (b != neg)) S
  | _=>False
 | .mkres d k bytes z len cap=>rdK F len fun x=>rdK F cap fun y=>wIdx x fun n=>y=x∧bytes*n≤140737488355328∧0<d∧d≤S.length∧S[S.length-d]?=some .dead∧
   ∀v,K (.sl (S.length-d) v 0 n) (S.set (S.length-d) (.row v k (List.replicate n z).flatten))
 | .alres d k z=>0<d∧d≤S.length∧S[S.length-d]?=some .dead∧ ∀v,K (.ptr (S.length-d) v 0) (S.set (S.length-d) (.row v k z))
 | .mapres d=>0<d∧d≤S.length∧S[S.length-d]?=some .dead∧ ∀v,K (.map (S.length-d) v) (S.set (S.length-d) (.mapo v []))
 | .calres d k f args zs=>rdsK F args fun xs=>rdsK F zs fun cs=>ACalls P f xs [] (fun r S'=> ∃v,r= .ptr 0 v 0∧S'=[.row v k cs])∧0<d∧d≤S.length∧S[S.length-d]?=some .dead∧
   ∀v,K (.ptr (S.length-d) v 0) (S.set (S.length-d) (.row v k cs))
 | .mkif t x=>rdK F x fun x=>K (.iface t x) S
 | .slice3 k x h m=>rdK F x fun x=>rdK F h fun y=>rdK F m fun z=>wIdx y fun n=>z=y∧match x with
  | .sl l v off len=>n≤len∧wRow S l v fun k' _=>k'=k∧K (.sl l v off n) S
  | .nils=>n=0∧K .nils S
  | _=>False
 | .clear k z x=>rdK F x fun x=>match x with
  | .nils=>K .junk S
  | .sl l v off n=>wRow S l v fun k' cs=>k'=k∧off+n*k≤cs.length∧wSet S l (.row v k (setCells cs off (List.replicate n z).flatten)) fun S'=>K .junk S'
  | _=>False
 | .s2b x=>rdK F x fun x=>match x with
  | .str s=> ∀v,wPush S (.row v 1 (s.map fun c=>.int .u8 c.toNat)) fun l S'=>K (.sl l v 0 s.length) S'
  | _=>False
 | .b2s x=>rdK F x fun x=>wBytes S x fun bs=>K (.str bs) S
 | .mark x=>rdK F x fun x=>match x with | .sl l v off n=>0<n∧wRow S l v fun k _=>k=1∧K (.sl l v off n) S | _=>False
 | .again t n ag x=>rdK F x fun x=>rdK F (.t t) fun y=>wLoad S n ag x fun r=>r=y∧K .junk S
 | .mkmap=> ∀v,wPush S (.mapo v []) fun l S'=>K (.map l v) S'
 | .mlook q ok z m k=>rdK F m fun x=>rdK F k fun y=>keyOk q y=true∧match x with
  | .nilm=>K (lookV ok z false) S
  | .map l v=>wMap S l v fun es=>(∀e∈es,keyOk q e.1=true)∧K (match keyAt y es with | some (_,u)=>lookV ok u true | none=>lookV ok z false) S
  | _=>False
 | .mupd q m k x=>rdK F m fun m=>rdK F k fun y=>rdK F x fun u=>keyOk q y=true∧match m with
  | .map l v=>wMap S l v fun es=>(∀e∈es,keyOk q e.1=true)∧wSet S l (.mapo v (keyPut y u es)) fun S'=>K .junk S'
  | _=>False
 | .ment q z m k=>rdK F m fun m=>rdK F k fun y=>keyOk q y=true∧match m with
  | .map l v=>wMap S l v fun es=>(∀e∈es,keyOk q e.1=true)∧match keyAt y es with
   | some (i,u)=>wSet S l (.mapo v (es.set i (y,u))) fun S'=>K (.tup [u,.int .i64 (i:Int)]) S'
   | none=>wSet S l (.mapo v (es++[(y,z)])) fun S'=>K (.tup [z,.int .i64 (es.length:Int)]) S'
  | _=>False
 | .mrange x=>rdK F x fun x=>match x with
  | .map l v=>wMap S l v fun es=> ∀v',wPush S (.itero v' v es.length es.length []) fun l' S'=>K (.ptr l' v' 0) S'
  | _=>False
 | .mnext x=>rdK F x fun x=>match x with
  | .ptr l v 0=>wIter S l v fun mv since last seen=> ∃(lm:Nat) (es:List (AVal×AVal)),S[lm]?=some (Ob.mapo mv es)∧es.length=since∧((∀i:Nat,i<es.length→i∈seen)→K (.tup [.bool false]) S)∧
    ∀(i:Nat) (e:AVal×AVal),es[i]?=some e→i ∉ seen→wSet S l (.itero v mv since es.length (seen++[i])) fun S'=>K (.tup [.bool true,e.1,e.2]) S'
  | _=>False
 | .mentry x=>rdK F x fun x=>match x with
  | .ptr l v 0=>wIter S l v fun mv since last seen=> ∃(lm:Nat) (es:List (AVal×AVal)) (i:Nat) (e:AVal×AVal),S[lm]?=some (Ob.mapo mv es)∧last=es.length∧seen.getLast?=some i∧es[i]?=some e∧K (.tup [e.1,e.2]) S
  | _=>False
 | .mset m i x=>rdK F m fun m=>rdK F i fun y=>rdK F x fun u=>wIdx y fun j=>match m with
  | .map l v=>wMap S l v fun es=>match es[j]? with
   | some e=>wSet S l (.mapo v (es.set j (e.1,u))) fun S'=>K .junk S'
   | none=>False
  | _=>False
structure GOp where
 dst:Option Nat
 op:SOp
 guard:Option (Nat×Bool)
 isG:Bool
 chk:List (Nat×Nat×Bool×Rand)
 deriving Inhabited
def againG (k:Nat×Nat×Bool×Rand):GOp:=⟨none,.again k.1 k.2.1 k.2.2.1 k.2.2.2,none,false,[]⟩
def expandG:List GOp→List GOp
 | []=>[]
 | o::l=>o::(o.chk.map againG++expandG l)
def realB (o:GOp):Bool:=match o.op with | .again _ _ _ _=>false | _=>true
def realG:List GOp→List GOp
 | []=>[]
 | o::l=>match realB o with | true=>o::realG l | false=>realG l
def putF (F:Frame) (d:Option Nat) (x:AVal):Frame:=match d with | some d=>(d,x)::F | none=>F
def splitG (isG:Bool) (x:AVal) (K:AVal→Prop):Prop:=
 match isG with
 | false=>K x
 | true=>match x with
  | .bool b=>(b=true→K .tt)∧(b=false→K .ff)
  | .tt=>K .tt
  | .ff=>K .ff
  | _=>False
def vcOps (P:Program) (K:Frame→Store→Prop):List GOp→Frame→Store→Prop
 | [],F,S=>K F S
 | o::rest,F,S=>
  match o.guard with
  | none=>vcOp P F S (fun x S'=>splitG o.isG x fun x=>vcOps P K rest (putF F o.dst x) S') o.op
  | some (g,want)=>getK F g fun c=>match c with
   | .tt=>match want with
    | true=>vcOp P F S (fun x S'=>splitG o.isG x fun x=>vcOps P K rest (putF F o.dst x) S') o.op
    | false=>vcOps P K rest (putF F o.dst (.tup [])) S
   | .ff=>match want with
    | false=>vcOp P F S (fun x S'=>splitG o.isG x fun x=>vcOps P K rest (putF F o.dst x) S') o.op
    | true=>vcOps P K rest (putF F o.dst (.tup [])) S
   | .tup _=>vcOps P K rest (putF F o.dst (.tup [])) S
   | _=>False
def SOp.quiet:SOp→Bool
 | .mov _ | .pick _ _ _ | .build _ _ | .load _ _ _ | .nilchk _ | .bin _ _ _ _ | .strid _ | .not _ | .neg _ | .conv _ _ | .slice _ _ _ _ | .faddr _ _ | .field _ _ _ _
 | .iaddr _ _ _ _ | .index _ _ _ _ _ | .len _ _ | .min _ | .max _ | .mkfunc _ _ _ | .extract _ _ | .ext _ _ | .call _ _ | .callv _ _ | .b2s _ | .again _ _ _ _ | .mkif _ _ | .slice3 _ _ _ _ | .mlook _ _ _ _ _ | .rcall _ _=>true
 | .bslice ro _ _ _ _=>ro
 | _=>false
def vcOpD (P:Program) (F:Frame) (S:Store) (K:AVal→Store→Prop):SOp→Prop
 | .call f args=>rdsK F args fun xs=> ∃r0,ACalls P f xs S (fun r S'=>r=r0∧S'=S)∧K r0 S
 | .callv x args=>rdK F x fun x=>match x with
  | .fn (.func f) [] cap=>True∧rdsK F args fun xs=> ∃r0,ACalls P f (xs++cap) S (fun r S'=>r=r0∧S'=S)∧K r0 S
  | _=>False
 | so=>vcOp P F S K so
def vcOpsD (P:Program) (K:Frame→Store→Prop):Nat→List GOp→Frame→Store→Prop
 | 0,l,F,S=>vcOps P K l F S
 | _+1,[],F,S=>K F S
 | m+1,o::rest,F,S=>
  match o.guard with
  | none=>vcOpD P F S (fun x S'=>splitG o.isG x fun x=>vcOpsD P K m rest (putF F o.dst x) S') o.op
  | some (g,want)=>getK F g fun c=>match c with
   | .tt=>match want with
    | true=>vcOpD P F S (fun x S'=>splitG o.isG x fun x=>vcOpsD P K m rest (putF F o.dst x) S') o.op
    | false=>vcOpsD P K m rest (putF F o.dst (.tup [])) S
   | .ff=>match want with
    | false=>vcOpD P F S (fun x S'=>splitG o.isG x fun x=>vcOpsD P K m rest (putF F o.dst x) S') o.op
    | true=>vcOpsD P K m rest (putF F o.dst (.tup [])) S
   | .tup _=>vcOpsD P K m rest (putF F o.dst (.tup [])) S
   | _=>False
def extK (P:Program) (f:FuncId):Option ExtK:=
 match P.funcs[f]? with
 | some fn=>(match fn.body.isNone && (Extern.findNext fn).isNone with
  | true=>if fn.name == "internal/bytealg.IndexByteString" then some .idxb else if fn.name == "internal/bytealg.CountString" then some .cnt else none
  | false=>none)
 | none=>none
inductive SExit where
 | normal
 | exit (id:Nat)
 | ret
 deriving DecidableEq
inductive SCode where
 | skip
 | ops (l:List GOp) (draw:Option (Nat×Nat×List Nat)) (keep:List Nat)
 | seq (a b:SCode)
 | join (keep W:List Nat) (n:Nat) (a b:SCode)
 | cond (x:Rand) (a b:SCode)
 | block (id:Nat) (a:SCode)
 | loop (keep W:List Nat) (n:Nat) (a:SCode)
 | exit (id:Nat)
 | ret
 deriving Inhabited
def onlyK (keep:List Nat) (F:Frame) (K:Frame→Prop):Prop:=
 match keep with
 | []=>K []
 | t::keep=>getK F t fun x=>onlyK keep F fun F'=>K ((t,x)::F')
def allA:(n:Nat)→(List AVal→Prop)→Prop
 | 0,f=>f []
 | n+1,f=> ∀x,allA n fun l=>f (x::l)
def getsK (W:List Nat) (F:Frame) (K:List AVal→Prop):Prop:=
 match W with | []=>K [] | t::W=>getK F t fun x=>getsK W F fun xs=>K (x::xs)
def zipF:List Nat→List AVal→Frame→Frame
 | t::W,x::xs,F=>(t,x)::zipF W xs F
 | _,_,F=>F
def SExit.onNormal (N:Frame→Store→Prop) (Q:SExit→Frame→Store→Prop):SExit→Frame→Store→Prop
 | .normal,F,S=>N F S
 | e,F,S=>Q e F S
def SExit.onBlock (id:Nat) (Q:SExit→Frame→Store→Prop):SExit→Frame→Store→Prop
 | .exit id',F,S=>match Nat.beq id' id with | true=>Q .normal F S | false=>Q (.exit id') F S
 | e,F,S=>Q e F S
def vc (P:Program):SCode→(SExit→Frame→Store→Prop)→Frame→Store→Prop
 | .skip,Q,F,S=>Q .normal F S
 | .ops l none keep,Q,F,S=>vcOps P (fun F' S'=>onlyK keep F' fun F''=>Q .normal F'' S') l F S
 | .ops l (some d) keep,Q,F,S=>vcOpsD P (fun F' S'=>onlyK keep F' fun F''=>Q .normal F'' S') d.1 l F (S++List.replicate d.2.1 .dead)
 | .seq a b,Q,F,S=>vc P a (SExit.onNormal (vc P b Q) Q) F S
 | .join keep W n a b,Q,F,S=> ∀K:List AVal→Store→Prop,
   (onlyK keep F fun F0=>allA W.length fun xs=> ∀os,vc P b Q (zipF W xs F0) os→K xs os)→
   vc P a (SExit.onNormal (fun F' S'=>getsK W F' fun xs=>K xs S') Q) F S
 | .cond x a b,Q,F,S=>rdK F x fun c=>match c with
  | .tt=>vc P a Q F S
  | .ff=>vc P b Q F S
  | .bool c=>(c=true→vc P a Q F S)∧(c=false→vc P b Q F S)
  | _=>False
 | .block id a,Q,F,S=>vc P a (SExit.onBlock id Q) F S
 | .loop keep W n a,Q,F,S=> ∃I:Nat→List AVal→Store→Prop,
   (getsK W F fun xs=> ∃k,I k xs S)∧
   onlyK keep F fun F0=>allA W.length fun xs=> ∀k os,I k xs os→
    vc P a (SExit.onNormal (fun F' S'=>getsK W F' fun ys=> ∃k',k'<k∧I k' ys S') Q) (zipF W xs F0) os
 | .exit id,Q,F,S=>Q (.exit id) F S
 | .ret,Q,F,S=>Q .ret F S
inductive RRes where
 | tmp (t:Nat)
 | cell (t n:Nat) (ag:Bool)
 deriving Inhabited
def wRes (F:Frame) (S:Store) (K:List AVal→Prop):List RRes→Prop
 | []=>K []
 | .tmp t::rs=>getK F t fun x=>wRes F S (fun xs=>K (x::xs)) rs
 | .cell t n ag::rs=>getK F t fun p=>wLoad S n ag p fun x=>wRes F S (fun xs=>K (x::xs)) rs
def retV (xs:List AVal) (K:AVal→Prop):Prop:=match xs with | [x]=>K x | xs=>K (.tup xs)
def argF:Nat→List AVal→Frame
 | _,[]=>[]
 | i,x::xs=>(i,x)::argF (i+1) xs
def vcFun (P:Program) (c:SCode) (res:List RRes) (args:List AVal) (S:Store) (R:AVal→Store→Prop):Prop:=
 vc P c (fun e F' S'=>match e with
  | .normal=>wRes F' S' (fun xs=>retV xs fun r=>R r S') res
  | .ret=>wRes F' S' (fun xs=>retV xs fun r=>R r S') res
  | _=>False) (argF 0 args) S
end Go.Vc
end
section
namespace Go.Vc
def absS:Value→Option AVal
 | .bool b=>some (.bool b)
 | .int k n=>some (.int k n)
 | .string s=>some (.str s.data.toList)
 | .pointer none=>some .nilp
 | .slice none 0 0=>some .nils
 | .map none=>some .nilm
 | .nilFunc=>some .nilf
 | .nilIface=>some .nili
 | _=>none
def absL:List Value→Option (List AVal)
 | []=>some []
 | v::vs=>match absS v,absL vs with | some x,some xs=>some (x::xs) | _,_=>none
def absV:Value→Option AVal
 | .agg cs=>match absL cs.toList with | some xs=>some (.agg xs) | none=>none
 | v=>absS v
def cRand:Operand→Option Rand
 | .tmp t=>some (.t t)
 | .const v=>match absV v with | some x=>some (.c x) | none=>none
 | .func f=>some (.c (.fn (.func f) [] []))
 | .global _=>none
def cRands:List Operand→Option (List Rand)
 | []=>some []
 | x::xs=>match cRand x,cRands xs with | some y,some ys=>some (y::ys) | _,_=>none
section
variable {E : Env} {fz : Nat → Prop} {w : World}
theorem absS_rel {v:Value} {x:AVal} (h:absS v=some x):Rel E fz w x v∧v.oneCell'=true:=by
 unfold absS at h
 split at h<;>cases h<;>simp [Rel,Value.oneCell']
theorem absL_rel: ∀ {vs:List Value} {xs:List AVal},absL vs=some xs→RelL E fz w xs vs∧ ∀c∈vs,c.oneCell'=true
 | [],_,h=>by simp [absL] at h;subst h;simp [RelL]
 | v::vs,_,h=>by
  simp only [absL] at h
  split at h
  ·rename_i x xs h1 h2
   cases h
   have:=absL_rel h2
   have h3:=absS_rel (E:=E) (fz:=fz) (w:=w) h1
   refine ⟨by simp only [RelL];exact ⟨v,vs,rfl,h3.1,this.1⟩,fun c hc=>?_⟩
   rcases List.mem_cons.1 hc with rfl | hc
   ·exact h3.2
   ·exact this.2 c hc
  ·cases h
theorem absV_rel {v:Value} {x:AVal} (h:absV v=some x):Rel E fz w x v:=by
 unfold absV at h
 split at h
 ·rename_i cs
  split at h
  ·rename_i xs hx
   cases h
   have:=absL_rel (E:=E) (fz:=fz) (w:=w) hx
   simp only [Rel]
   exact ⟨cs.toList,by simp,this.1,this.2⟩
  ·cases h
 ·exact (absS_rel h).1
end
theorem getK_iff {n:Nat} {K:AVal→Prop}: ∀ {F:Frame},getK F n K↔K (F.get n)
 | []=>by simp [getK,Frame.get]
 | (k,x)::F=>by
  simp only [getK,Frame.get]
  cases Nat.beq k n
  ·exact getK_iff
  ·exact Iff.rfl
theorem rdK_iff {F:Frame} {x:Rand} {K:AVal→Prop}:rdK F x K↔K (rd F x):=by
 cases x with
 | t n=>exact getK_iff
 | c x=>exact Iff.rfl
theorem rdsK_iff {F:Frame} {xs:List Rand} {K:List AVal→Prop}:rdsK F xs K↔K (xs.map (rd F)):=by
 induction xs generalizing K with
 | nil=>exact Iff.rfl
 | cons x xs ih=>simp only [rdsK,rdK_iff,ih,List.map_cons]
theorem dropK_iff {n:Nat} {cs:List AVal} {K:List AVal→Prop}:dropK n cs K↔K (cs.drop n):=by
 induction n generalizing cs with
 | zero=>simp [dropK]
 | succ n ih=>cases cs with
  | nil=>simp [dropK]
  | cons c cs=>simp [dropK,ih]
theorem takeK_iff {n:Nat} {cs:List AVal} {K:List AVal→Prop}:takeK n cs K↔ ∃xs,takeN n cs=some xs∧K xs:=by
 induction n generalizing cs K with
 | zero=>simp [takeK,takeN]
 | succ n ih=>cases cs with
  | nil=>simp [takeK,takeN]
  | cons c cs=>
   simp only [takeK,takeN,ih]
   cases takeN n cs<;>simp
theorem takeN_eq {n:Nat} {cs xs:List AVal} (h:takeN n cs=some xs):xs=cs.take n∧n≤cs.length:=by
 induction n generalizing cs xs with
 | zero=>simp [takeN] at h;simp [←h]
 | succ n ih=>cases cs with
  | nil=>simp [takeN] at h
  | cons c cs=>
   simp only [takeN] at h
   split at h
   ·rename_i ys hy
    cases h
    have:=ih hy
    simp [this.1,this.2]
   ·cases h
theorem overK_iff {cs ys:List AVal} {K:List AVal→Prop}:overK cs ys K↔K (over cs ys):=by
 induction cs generalizing ys K with
 | nil=>simp [overK,over]
 | cons c cs ih=>cases ys with
  | nil=>simp [overK,over]
  | cons y ys=>simp [overK,over,ih]
theorem setCellsK_iff {cs:List AVal} {n:Nat} {ys:List AVal} {K:List AVal→Prop}:setCellsK cs n ys K↔K (setCells cs n ys):=by
 induction n generalizing cs K with
 | zero=>cases cs<;>simp [setCellsK,setCells,overK_iff]
 | succ n ih=>cases cs with
  | nil=>simp [setCellsK,setCells]
  | cons c cs=>simp [setCellsK,setCells,ih]
theorem setRowK_iff {k:Nat} {cs:List AVal} {n:Nat} {ys:List AVal} {K:List AVal→Prop}:setRowK k cs n ys K↔K (setCells cs n ys):=by
 cases k<;>simp [setRowK,setCellsK_iff]
theorem wGet_iff {S:Store} {l:Nat} {K:Ob→Prop}:wGet S l K↔ ∃o,S[l]?=some o∧K o:=by
 induction S generalizing l with
 | nil=>simp [wGet]
 | cons a S ih=>cases l with
  | zero=>simp [wGet]
  | succ l=>simp [wGet,ih]
theorem wSet_iff {S:Store} {l:Nat} {o:Ob} {K:Store→Prop}:wSet S l o K↔l<S.length∧K (S.set l o):=by
 induction S generalizing l K with
 | nil=>simp [wSet]
 | cons a S ih=>cases l with
  | zero=>simp [wSet]
  | succ l=>simp [wSet,ih]
theorem wPush_iff {S:Store} {o:Ob} {K:Nat→Store→Prop}:wPush S o K↔K S.length (S++[o]):=by
 induction S generalizing K with
 | nil=>simp [wPush]
 | cons a S ih=>simp [wPush,ih]
theorem wRow_iff {S:Store} {l v:Nat} {K:Nat→List AVal→Prop}:wRow S l v K↔ ∃k cs,S[l]?=some (.row v k cs)∧K k cs:=by
 simp only [wRow,wGet_iff]
 constructor
 ·rintro ⟨o,h1,h2⟩
  cases o with
  | row v' k cs=>obtain ⟨rfl,h⟩:=h2;exact ⟨k,cs,h1,h⟩
  | dead=>exact h2.elim
  | mapo v es=>exact h2.elim
  | loopo b L F=>exact h2.elim
  | itero v mv since last seen=>exact h2.elim
 ·rintro ⟨k,cs,h1,h2⟩
  exact ⟨_,h1,rfl,h2⟩
theorem wMap_iff {S:Store} {l v:Nat} {K:List (AVal×AVal)→Prop}:wMap S l v K↔ ∃es,S[l]?=some (.mapo v es)∧K es:=by
 simp only [wMap,wGet_iff]
 constructor
 ·rintro ⟨o,h1,h2⟩
  cases o with
  | mapo v' es=>obtain ⟨rfl,h⟩:=h2;exact ⟨es,h1,h⟩
  | dead=>exact h2.elim
  | row v k cs=>exact h2.elim
  | loopo b L F=>exact h2.elim
  | itero v mv since last seen=>exact h2.elim
 ·rintro ⟨es,h1,h2⟩
  exact ⟨_,h1,rfl,h2⟩
theorem wIter_iff {S:Store} {l v:Nat} {K:Nat→Nat→Nat→List Nat→Prop}:wIter S l v K↔ ∃mv since last seen,S[l]?=some (.itero v mv since last seen)∧K mv since last seen:=by
 simp only [wIter,wGet_iff]
 constructor
 ·rintro ⟨o,h1,h2⟩
  cases o with
  | itero v' mv since last seen=>obtain ⟨rfl,h⟩:=h2;exact ⟨mv,since,last,seen,h1,h⟩
  | dead=>exact h2.elim
  | row v k cs=>exact h2.elim
  | loopo b L F=>exact h2.elim
  | mapo v es=>exact h2.elim
 ·rintro ⟨mv,since,last,seen,h1,h2⟩
  exact ⟨_,h1,rfl,h2⟩
theorem mkVK_iff {ag:Bool} {xs:List AVal} {K:AVal→Prop}:mkVK ag xs K↔(ag=true∧K (.agg xs))∨(ag=false∧ ∃x,xs=[x]∧K x):=by
 cases ag
 ·match xs with
  | []=>simp [mkVK]
  | [x]=>simp [mkVK]
  | x::y::zs=>simp [mkVK]
 ·simp [mkVK]
def RelF (E:Env) (fz:Nat→Prop) (w:World) (F:Frame) (tmps:Array Value):Prop:= ∀n,Rel E fz w (F.get n) (tmps.getD n undef)
def Post (K:AVal→Store→Prop) (E:Env) (fz:Nat→Prop) (S:Store) (w:World) (v:Value) (w':World):Prop:=
 ∃x S' E' fz',K x S'∧Ext E fz S w E' fz' S' w'∧St E' fz' S' w'∧Rel E' fz' w' x v
def RunsTo (P:Program) (r:Result Next) (Φ:Value→World→Prop):Prop:=Go.Vk.RunsV P r Φ
theorem Post.same {K:AVal→Store→Prop} {E:Env} {fz:Nat→Prop} {S:Store} {w:World} {x:AVal} {v:Value} (st:St E fz S w) (hk:K x S) (hr:Rel E fz w x v):Post K E fz S w v w:=
 ⟨x,S,E,fz,hk,.refl,st,hr⟩
section
variable {E : Env} {fz : Nat → Prop} {w : World} {F : Frame} {a : Act}
theorem eval_rel (hF:RelF E fz w F a.tmps) {x:Operand} {r:Rand} (h:cRand x=some r):Rel E fz w (rd F r) (a.eval x):=by
 cases x with
 | tmp t=>simp [cRand] at h;subst h;exact hF t
 | const v=>
  simp only [cRand] at h
  split at h
  ·rename_i y hy;cases h;exact absV_rel hy
  ·cases h
 | func f=>simp [cRand] at h;subst h;simp only [rd,Rel,Act.eval];exact ⟨[],[],rfl,by simp [RelL],by simp [RelL]⟩
 | global g=>simp [cRand] at h
theorem evals_rel (hF:RelF E fz w F a.tmps): ∀ {xs:List Operand} {rs:List Rand},cRands xs=some rs→RelL E fz w (rs.map (rd F)) (xs.map a.eval)
 | [],_,h=>by simp [cRands] at h;subst h;simp [RelL]
 | x::xs,_,h=>by
  simp only [cRands] at h
  split at h
  ·rename_i y ys h1 h2
   cases h
   simp only [List.map_cons,RelL]
   exact ⟨_,_,rfl,eval_rel hF h1,evals_rel hF h2⟩
  ·cases h
end
end Go.Vc
end
section
namespace Go.Vc
theorem add_mk (b o n:Nat):(⟨b,o,none⟩:Addr).add n=⟨b,o+n,none⟩:=Addr.add_lit b o n
theorem cell_mk {w:World} {b o:Nat} {arr:Array Value} {T:TypeId} {fr:Nat×Nat} (h:w.heap[b]?=some (.cells arr T fr)):w.cell? ⟨b,o,none⟩=arr[o]?:=by
 simp [World.cell?,h]
theorem frozen_mk {w:World} {b o:Nat} {arr:Array Value} {T:TypeId} {lo hi:Nat} (h:w.heap[b]?=some (.cells arr T (lo,hi))):
  w.frozen? ⟨b,o,none⟩=(lo≤o && o<hi):=by
 simp [World.frozen?,h]
theorem heap_setCell_at {w:World} {b o:Nat} {v:Value} {arr:Array Value} {T:TypeId} {fr:Nat×Nat} (h:w.heap[b]?=some (.cells arr T fr)):
  (w.setCell ⟨b,o,none⟩ v).heap[b]?=some (.cells (arr.setIfInBounds o v) T fr):=by
 simp [World.setCell,Array.getElem?_modify,h]
theorem heap_setCell_ne {w:World} {b o b':Nat} {v:Value} (h:b'≠b):(w.setCell ⟨b,o,none⟩ v).heap[b']?=w.heap[b']?:=by
 simp [World.setCell,Array.getElem?_modify,Ne.symm h]
theorem run_storeCells {P:Program} {b st:Nat} {T:TypeId} {lo hi:Nat}: ∀(vs:List Value) (i:Nat) (w:World) (arr:Array Value),
  w.heap[b]?=some (.cells arr T (lo,hi))→st+i+vs.length≤arr.size→(∀j,j<vs.length→ ¬(lo≤st+i+j∧st+i+j<hi))→(∀c∈vs,c.oneCell'=true)→
  ∃w' arr',(storeCells ⟨b,st,none⟩ vs i).run P w= .ok () w'∧w'.heap[b]?=some (.cells arr' T (lo,hi))∧arr'.size=arr.size∧
   (∀j,arr'[j]?=if st+i≤j∧j<st+i+vs.length then vs[j-(st+i)]? else arr[j]?)∧(∀b':Nat,b'≠b→w'.heap[b']?=w.heap[b']?)∧
   w'.heap.size=w.heap.size∧w'.os=w.os∧w'.output=w.output∧Tp w w'
 | [],i,w,arr,h,_,_,_=>by
  refine ⟨w,arr,by simp [storeCells],h,rfl,fun j=>?_,fun _ _=>rfl,rfl,rfl,rfl,Tp.refl⟩
  rw [if_neg (by simp only [List.length_nil];omega)]
 | v::vs,i,w,arr,h,hl,hf,h1=>by
  have hv:=h1 v (by simp)
  have hf0:=hf 0 (by simp)
  simp only [List.length_cons] at hl
  have hc:w.cell? ⟨b,st+i,none⟩=some (arr[st+i]'(by omega)):=by rw [cell_mk h,Array.getElem?_eq_getElem]
  have hfr:w.frozen? ⟨b,st+i,none⟩=false:=by
   rw [frozen_mk h]
   have:=hf0
   simp only [Nat.add_zero] at this
   by_cases g:lo≤st+i
   ·have g2: ¬st+i<hi:=fun g2=>this ⟨g,g2⟩
    simp [g2]
   ·simp [g]
  obtain ⟨w',arr',g1,g2,g3,g4,g5,g6,g7,g8,g9⟩:=run_storeCells (P:=P) (b:=b) (st:=st) vs (i+1) (w.setCell ⟨b,st+i,none⟩ v) (arr.setIfInBounds (st+i) v)
   (heap_setCell_at h) (by simp;omega) (fun j hj=>by have:=hf (j+1) (by simp;omega);rwa [show st+i+(j+1)=st+(i+1)+j by omega] at this) (fun c hc=>h1 c (by simp [hc]))
  refine ⟨w',arr',?_,g2,by simpa using g3,fun j=>?_,fun b' hb'=>by rw [g5 b' hb',heap_setCell_ne hb'],by simpa using g6,g7,g8,g9⟩
  ·simp only [storeCells,Sem.run_bind,add_mk,run_store P w _ v _ hv,hc,hfr,Bool.false_eq_true,if_false,Result.andThen_ok]
   exact g1
  ·rw [g4]
   simp only [List.length_cons,Array.getElem?_setIfInBounds]
   by_cases e:j=st+i
   ·subst e
    rw [if_neg (by omega),if_pos rfl,if_pos (by omega),if_pos (by omega)]
    simp
   ·by_cases e2:st+i≤j∧j<st+i+(vs.length+1)
    ·rw [if_pos (by omega),if_pos e2,show j-(st+i)=(j-(st+(i+1)))+1 by omega]
     simp
    ·rw [if_neg (by omega),if_neg (fun h=>e h.symm),if_neg e2]
section
variable {P : Program} {E : Env} {fz : Nat → Prop} {S : Store} {w : World}
theorem run_load_cells {b off:Nat} {cs:List AVal} (h:RelC E fz w b off cs): ∃vs:List Value,RelL E fz w cs vs∧(∀c∈vs,c.oneCell'=true)∧
  (loadCells ⟨b,off,none⟩ cs.length).run P w= .ok vs.toArray w∧(∀(j:Nat) v,vs[j]?=some v→w.cell? ⟨b,off+j,none⟩=some v):=by
 obtain ⟨vs,h1,h2,h3⟩:=h.read
 refine ⟨vs,h1,h2,?_,h3⟩
 have:=run_loadCells_list (P:=P) w ⟨b,off,none⟩ vs (fun j v hv=>by rw [add_mk];exact h3 j v hv)
 rwa [h1.length] at this
theorem new_rowM (lo hi:Nat) (st:St E fz S w) {cs:List AVal} {vs rest:List Value} {T:TypeId} (k:Nat) (hr:RelL E fz w cs vs) (h1: ∀c∈vs,c.oneCell'=true)
  {w':World} (hm:lo=hi∨(k=1∧(vs++rest).length≤lo)) (hw:w'.heap=w.heap.push (.cells (vs++rest).toArray T (lo,hi))) (g1:w'.os=w.os) (g2:w'.output=w.output) (g3:Tp w w'):
  ∃ver E',E' ver=some (.real w.heap.size 0 (vs++rest).length k)∧St E' fz (S++[.row ver k cs]) w'∧Ext E fz S w E' fz (S++[.row ver k cs]) w':=by
 obtain ⟨n,hn⟩:=st.fresh
 have hE: ∀v x,E v=some x→(fun v=>if v=n then some (Bk.real w.heap.size 0 (vs++rest).length k) else E v) v=some x:=fun v x hx=>by
  have:v≠n:=fun e=>by subst e;rw [hn v (Nat.le_refl _)] at hx;cases hx
  simp [this,hx]
 have hlt: ∀b:Nat,b<w.heap.size→w'.heap[b]?=w.heap[b]?:=fun b hb=>by
  rw [hw,Array.getElem?_push,if_neg (by omega)]
 have hnew:w'.heap[w.heap.size]?=some (.cells (vs++rest).toArray T (lo,hi)):=by rw [hw];simp
 refine ⟨n,fun v=>if v=n then some (.real w.heap.size 0 (vs++rest).length k) else E v,by simp,
  st.upd S.length (.row n k cs) hE ⟨n+1,fun v hv=>by simp [hn v (by omega),show v≠n by omega]⟩ (fun l' hl'=>?_) (by simp) (by rw [hw];simp) (fun b hb _=>hlt b hb) (fun b hb=>.inr ?_) ?_ g1 g2 g3⟩
 ·rw [List.getElem?_append]
  split
  ·rfl
  ·rename_i hh
   rw [List.getElem?_eq_none (by simp;omega),List.getElem?_eq_none (by omega)]
 ·simp [obBlock] at hb;omega
 ·refine .inr ⟨w.heap.size,0,(vs++rest).length,(vs++rest).toArray,T,lo,hi,by simp,hnew,by simp,?_,by simpa using hm,?_,fun hf=>?_⟩
  ·have:=hr.length;simp;omega
  ·refine RelC.mk fun i x hx=>?_
   obtain ⟨v,hv,hrel⟩:=hr.get hx
   have hil:i<vs.length:=by
    rcases Nat.lt_or_ge i vs.length with h | h
    ·exact h
    ·simp [List.getElem?_eq_none h] at hv
   refine ⟨v,?_,h1 v (List.mem_of_getElem? hv),hrel.mono hE (fun _ h=>h) (fun b hb=>hlt b (st.fzlt b hb))⟩
   rw [cell_mk hnew]
   simp [List.getElem?_append_left hil,hv]
  ·have:=st.fzlt _ hf;omega
theorem new_row (st:St E fz S w) {cs:List AVal} {vs rest:List Value} {T:TypeId} (k:Nat) (hr:RelL E fz w cs vs) (h1: ∀c∈vs,c.oneCell'=true)
  {w':World} (hw:w'.heap=w.heap.push (.cells (vs++rest).toArray T (0,0))) (g1:w'.os=w.os) (g2:w'.output=w.output) (g3:Tp w w'):
  ∃ver E',E' ver=some (.real w.heap.size 0 (vs++rest).length k)∧St E' fz (S++[.row ver k cs]) w'∧Ext E fz S w E' fz (S++[.row ver k cs]) w':=
 new_rowM 0 0 st k hr h1 (.inl rfl) hw g1 g2 g3
theorem new_nil (st:St E fz S w) (k:Nat): ∃ver E',E' ver=some .nil∧St E' fz (S++[.row ver k []]) w∧Ext E fz S w E' fz (S++[.row ver k []]) w:=by
 obtain ⟨n,hn⟩:=st.fresh
 have hE: ∀v x,E v=some x→(fun v=>if v=n then some Bk.nil else E v) v=some x:=fun v x hx=>by
  have:v≠n:=fun e=>by subst e;rw [hn v (Nat.le_refl _)] at hx;cases hx
  simp [this,hx]
 refine ⟨n,fun v=>if v=n then some .nil else E v,by simp,
  st.upd S.length (.row n k []) hE ⟨n+1,fun v hv=>by simp [hn v (by omega),show v≠n by omega]⟩ (fun l' hl'=>?_) (by simp) (Nat.le_refl _) (fun _ _ _=>rfl) (fun b hb=>?_) ?_ rfl rfl Tp.refl⟩
 ·rw [List.getElem?_append]
  split
  ·rfl
  ·rename_i hh
   rw [List.getElem?_eq_none (by simp;omega),List.getElem?_eq_none (by omega)]
 ·simp [obBlock] at hb
 ·exact .inl ⟨by simp,rfl⟩
theorem over_get: ∀(cs ys:List AVal) (i:Nat),ys.length≤cs.length→(over cs ys)[i]?=if i<ys.length then ys[i]? else cs[i]?
 | [],[],i,_=>by simp [over]
 | [],y::ys,i,h=>by simp at h
 | c::cs,[],i,_=>by simp [over]
 | c::cs,y::ys,i,h=>by
  cases i with
  | zero=>simp [over]
  | succ i=>
   have:=over_get cs ys i (by simpa using h)
   simp only [over,List.getElem?_cons_succ,List.length_cons,this]
   simp
theorem over_length: ∀(cs ys:List AVal),(over cs ys).length=cs.length
 | [],ys=>by simp [over]
 | c::cs,[]=>by simp [over]
 | c::cs,y::ys=>by simp [over,over_length cs ys]
theorem setCells_get: ∀(cs:List AVal) (n:Nat) (ys:List AVal) (i:Nat),n+ys.length≤cs.length→(setCells cs n ys)[i]?=if n≤i∧i<n+ys.length then ys[i-n]? else cs[i]?
 | cs,0,ys,i,h=>by
  have e:setCells cs 0 ys=over cs ys:=by cases cs<;>rfl
  rw [e,over_get cs ys i (by omega)]
  simp
 | [],n+1,ys,i,h=>by simp at h
 | c::cs,n+1,ys,i,h=>by
  cases i with
  | zero=>simp [setCells]
  | succ i=>
   have:=setCells_get cs n ys i (by simp at h;omega)
   simp only [setCells,List.getElem?_cons_succ,this]
   rw [show i+1-(n+1)=i-n by omega]
   by_cases hh:n≤i∧i<n+ys.length
   ·rw [if_pos hh,if_pos (by omega)]
   ·rw [if_neg hh,if_neg (by omega)]
theorem setCells_length: ∀(cs:List AVal) (n:Nat) (ys:List AVal),(setCells cs n ys).length=cs.length
 | cs,0,ys=>by
  have e:setCells cs 0 ys=over cs ys:=by cases cs<;>rfl
  rw [e,over_length]
 | [],n+1,ys=>by simp [setCells]
 | c::cs,n+1,ys=>by simp [setCells,setCells_length cs n ys]
theorem put_cells (st:St E fz S w) {l ver k off:Nat} {cs ys:List AVal} {us:List Value} (hl:S[l]?=some (.row ver k cs)) (hfit:off+ys.length≤cs.length) (hne:ys≠[])
  (hr:RelL E fz w ys us) (h1: ∀c∈us,c.oneCell'=true) {b base cap kk:Nat} (hE:E ver=some (.real b base cap kk)):
  ∃w',(storeCells ⟨b,base+off,none⟩ us 0).run P w= .ok () w'∧St E fz (S.set l (.row ver k (setCells cs off ys))) w'∧Ext E fz S w E fz (S.set l (.row ver k (setCells cs off ys))) w':=by
 have hlt:l<S.length:=by
  rcases Nat.lt_or_ge l S.length with h | h
  ·exact h
  ·simp [List.getElem?_eq_none h] at hl
 have hlen:=hr.length
 have hpos:0<ys.length:=List.length_pos_iff.2 hne
 rcases st.ok l _ hl with ⟨g1,g2⟩ | ⟨b',base',cap',arr,T,lo,hi,g1,g2,g3,g4,g5,g6,g7⟩
 ·subst g2;simp only [List.length_nil] at hfit;omega
 ·rw [hE] at g1;cases g1
  obtain ⟨w',arr',q1,q2,q3,q4,q5,q6,q7,q8,q9⟩:=run_storeCells (P:=P) (b:=b) (st:=base+off) us 0 w arr g2 (by omega)
   (fun j hj h=>by rcases g5 with g5 | g5<;>omega) h1
  refine ⟨w',q1,st.upd l (.row ver k (setCells cs off ys)) (fun _ _ h=>h) st.fresh (fun l' hl'=>by rw [List.getElem?_set_ne (Ne.symm hl')]) (by rw [List.getElem?_set_self hlt]) (by omega) (fun bb _ hno=>q5 bb fun e=>hno ?_) (fun bb hb=>.inl ?_) ?_ q7 q8 q9⟩
  ·subst e;exact ⟨_,hl,by simp [obBlock,hE]⟩
  ·simp [obBlock,hE] at hb;subst hb;exact ⟨_,hl,by simp [obBlock,hE]⟩
  ·refine .inr ⟨b,base,cap,arr',T,lo,hi,hE,q2,by omega,by rw [setCells_length];omega,by rw [q3];exact g5,?_,g7⟩
   have hk: ∀bb,fz bb→w'.heap[bb]?=w.heap[bb]?:=fun bb hb=>q5 bb fun e=>g7 (e▸hb)
   refine RelC.mk fun i x hx=>?_
   rw [setCells_get cs off ys i hfit] at hx
   rw [cell_mk q2,q4]
   split at hx
   ·rename_i hh
    obtain ⟨v,hv,hrel⟩:=hr.get hx
    rw [if_pos (by omega),show base+i-(base+off+0)=i-off by omega]
    exact ⟨v,hv,h1 v (List.mem_of_getElem? hv),hrel.mono (fun _ _ h=>h) (fun _ h=>h) hk⟩
   ·rename_i hh
    rw [if_neg (by omega)]
    obtain ⟨c,hc,hone,hrel⟩:=g6.get hx
    rw [cell_mk g2] at hc
    exact ⟨c,hc,hone,hrel.mono (fun _ _ h=>h) (fun _ h=>h) hk⟩
end
end Go.Vc
end
section
namespace Go.Vc
def tSize (P:Program) (t:TypeId):Option Nat:=match P.info? t with | some i=>some i.size | none=>none
def tBytes (P:Program) (t:TypeId):Option Nat:=match P.info? t with | some i=>some i.bytes | none=>none
def isAggD:TypeDesc→Bool | .struct _=>true | .array _ _=>true | _=>false
def tZero (P:Program) (t:TypeId):Option (List AVal):=
 match P.info? t with | some i=>(match i.zero with | some z=>absL z.cells.toList | none=>none) | none=>none
def kOf (P:Program) (t:TypeId):Nat:=match P.underlying t with | some (.array _ e)=>(tSize P e).getD 0 | _=>0
def cOpt (x:Option Operand):Option (Option Rand):=match x with | none=>some none | some x=>match cRand x with | some r=>some (some r) | none=>none
def cStructParts (P:Program) (fs:Array Field):List (Nat×Operand)→Option (List (Nat×Nat×Rand))
 | []=>some []
 | (i,x)::rest=>
  match fs[i]?,cRand x,cStructParts P fs rest with
  | some f,some r,some ps=>(match tSize P f.type with | some n=>some ((f.offset,n,r)::ps) | none=>none)
  | _,_,_=>none
def cRowParts (n:Nat):List (Nat×Operand)→Option (List (Nat×Nat×Rand))
 | []=>some []
 | (i,x)::rest=>match cRand x,cRowParts n rest with | some r,some ps=>some ((i*n,n,r)::ps) | _,_=>none
def flatFields (P:Program):Nat→List Field→Option (List FK)
 | _,[]=>some []
 | off,f::fs=>if f.name != "_" && f.offset == off then (match P.underlying f.type,flatFields P (off+1) fs with
  | some (.int _),some ks=>some (.int::ks)
  | some .string,some ks=>some (.str::ks)
  | some .bool,some ks=>some (.bool::ks)
  | _,_=>none) else none
def flatFields2 (P:Program):Nat→List Field→Option (List FK)
 | _,[]=>some []
 | off,f::fs=>(match flatFields P off [f] with
  | some ks1=>(match flatFields2 P (off+ks1.length) fs with | some ks=>some (ks1++ks) | none=>none)
  | none=>if f.name != "_" && f.offset == off then (match P.underlying f.type with
   | some (.struct gs)=>(match flatFields P 0 gs.toList,tSize P f.type with
    | some ks1,some n=>if n == ks1.length && !P.stoodInHeld f.type then (match flatFields2 P (off+ks1.length) fs with | some ks=>some (ks1++ks) | none=>none) else none
    | _,_=>none)
   | _=>none) else none)
def eqQ (P:Program) (t:TypeId):Option EqQ:=
 match P.underlying t with
 | some .bool=>some .bool
 | some (.int _)=>some .none
 | some .string=>some .none
 | some (.pointer e)=>(match tSize P e with | some (_+1)=>some .ptr | _=>none)
 | some (.struct fs)=>(match flatFields2 P 0 fs.toList with | some ks=>if !P.stoodInHeld t && !P.eqGuardType P.depth t then some (.agg ks) else none | none=>none)
 | some (.func _ _ _)=>some .func
 | some (.map _ _)=>some .map
 | _=>none
def keyQ (P:Program) (t:TypeId):Option KeyQ:=match P.underlying t with | some .string=>some .str | some (.int k)=>some (.int k) | some .bool=>some .bool | _=>none
def mZero (P:Program) (t:TypeId):Option AVal:=match P.info? t with | some i=>(match i.zero with | some z=>absV z | none=>none) | none=>none
def cMupd (P:Program) (t:TypeId) (m k x:Operand):Option SOp:=match P.underlying t,cRand m,cRand k,cRand x with
 | some (.map kt _),some rm,some rk,some rx=>(match keyQ P kt with | some q=>some (.mupd q rm rk rx) | none=>none)
 | _,_,_,_=>none
def cNil (ro:Bool) (k:Nat):Operand→Option SOp
 | .const (.slice none 0 0)=>if ro then some (.newnil k) else some (.mov (.c .nils))
 | x=>match cRand x with | some r=>some (.mov r) | none=>none
def elemK (P:Program) (t:TypeId):Nat:=match P.underlying t with | some (.slice e)=>(tSize P e).getD 0 | _=>0
def cIsnil (P:Program) (op:BinOp) (t:TypeId) (x y:Operand):Option SOp:=
 match P.underlying t,y,cRand x with
 | some (.slice _),.const (.slice none 0 0),some x=>(match op with | .eql=>some (.isnil false x) | .neq=>some (.isnil true x) | _=>none)
 | _,_,_=>none
def cPeq (P:Program) (op:BinOp) (t:TypeId) (x y:Operand):Option SOp:=
 match eqQ P t,x,y with
 | some .ptr,.tmp a,.tmp b=>(match op with | .eql=>some (.peq false (.t a) (.t b)) | .neq=>some (.peq true (.t a) (.t b)) | _=>none)
 | _,_,_=>none
def cop (P:Program) (ro:Bool) (ty:TypeId):Op→Option SOp
 | .move x=>(match cRand x with | some r=>some (.mov r) | none=>none)
 | .assign x=>cNil ro (elemK P ty) x
 | .pick c a b=>(match cRand c,cRand a,cRand b with | some c,some a,some b=>some (.pick c a b) | _,_,_=>none)
 | .alloc t=>(match tZero P t with | some z=>some (.alloc (kOf P t) z) | none=>none)
 | .box t x=>(match cRand x with | some r=>some (.box (kOf P t) r) | none=>none)
 | .build t parts=>(match tZero P t,P.underlying t with
  | some z,some (.struct fs)=>if fs.toList.all (fun f=>(tSize P f.type).isSome) then (match cStructParts P fs parts.toList with | some ps=>some (.build z ps) | none=>none) else none
  | some z,some (.array _ e)=>(match tSize P e with
   | some n=>(match cRowParts n parts.toList with | some ps=>some (.build z ps) | none=>none)
   | none=>none)
  | _,_=>none)
 | .buildSlice t len parts=>(match P.underlying t with
  | some (.slice e)=>(match tSize P e,tZero P e with
   | some n,some z=>if len*n≤2 ^ 24∧0<n∧z.length=n then (match cRowParts n parts.toList with | some ps=>some (.bslice ro len n (List.replicate len z).flatten ps) | none=>none) else none
   | _,_=>none)
  | _=>none)
 | .load t x=>(match P.info? t,P.underlying t,cRand x with
  | some i,some u,some r=>if isAggD u then some (.load i.size true r) else some (.load 1 false r)
  | _,_,_=>none)
 | .store t x v=>(match tSize P t,cRand x,cRand v with | some n,some x,some v=>if n=0 then none else some (.store n x v) | _,_,_=>none)
 | .nilCheck x=>(match cRand x with | some r=>some (.nilchk r) | none=>none)
 | .binOp op t x y u=>(match cIsnil P op t x y with | some so=>some so | none=>match cPeq P op t x y with | some so=>some so | none=>(match eqQ P t,cRand x,cRand y with | some q,some x,some y=>some (.bin q op x y) | _,_,_=>none))
 | .unOp .not _ x=>(match cRand x with | some r=>some (.not r) | none=>none)
 | .unOp .neg _ x=>(match cRand x with | some r=>some (.neg r) | none=>none)
 | .convert s d x=>(match P.underlying s,P.underlying d,cRand x with
  | some _,some (.int k),some r=>some (.conv k r)
  | some .string,some .string,some r=>some (.strid r)
  | some .string,some (.slice e),some r=>(match P.underlying e with | some (.int .u8)=>some (.s2b r) | _=>none)
  | some (.slice e),some (.slice _),some r=>if s=d then (match P.underlying e with | some (.int .u8)=>some (.mark r) | _=>none) else none
  | some (.slice e),some .string,some r=>(match P.underlying e with | some (.int .u8)=>some (.b2s r) | _=>none)
  | _,_,_=>none)
 | .makeSlice t l c=>(match P.underlying t with
  | some (.slice e)=>(match tSize P e,tBytes P e,tZero P e,cRand l,cRand c with
   | some n,some b,some z,some l,some c=>if 0<n∧0<b∧z.length=n then some (.mkslice n b z l c) else none
   | _,_,_,_,_=>none)
  | _=>none)
 | .slice t x lo hi none=>(match P.underlying t,cRand x,cOpt lo,cOpt hi with
  | some .string,some x,some lo,some hi=>some (.slice 0 x lo hi)
  | some (.slice e),some x,some lo,some hi=>(match tSize P e with | some (n+1)=>some (.slice (n+1) x lo hi) | _=>none)
  | some (.array n e),some x,some none,some none=>(match tSize P e with | some 1=>some (.aslice n x) | _=>none)
  | _,_,_,_=>none)
 | .slice t x none (some h) (some m)=>(match P.underlying t,cRand x,cRand h,cRand m with
  | some (.slice e),some x,some h,some m=>(match tSize P e with | some (n+1)=>some (.slice3 (n+1) x h m) | _=>none)
  | _,_,_,_=>none)
 | .fieldAddr s x f=>(match P.underlying s,cRand x with
  | some (.struct fs),some r=>(match fs[f]? with
   | some fd=>(match tSize P fd.type with | some (n+1)=>some (.faddr fd.offset r) | _=>none)
   | none=>none)
  | _,_=>none)
 | .field t x f=>(match P.underlying t,cRand x with
  | some (.struct fs),some r=>(match fs[f]? with
   | some fd=>(match P.underlying fd.type,tSize P fd.type with
    | some u,some n=>if isAggD u then some (.field fd.offset n true r) else some (.field fd.offset 1 false r)
    | _,_=>none)
   | none=>none)
  | _,_=>none)
 | .indexAddr t x i=>(match P.underlying t,cRand x,cRand i with
  | some (.slice e),some x,some i=>(match tSize P e with | some n=>some (.iaddr n none x i) | none=>none)
  | some (.array len e),some x,some i=>(match tSize P e with | some n=>some (.iaddr n (some len) x i) | none=>none)
  | _,_,_=>none)
 | .index t x i=>(match P.underlying t,cRand x,cRand i with
  | some .string,some x,some i=>some (.index 1 none false x i)
  | some (.array len e),some x,some i=>(match P.underlying e,tSize P e with
   | some u,some n=>if isAggD u then some (.index n (some len) true x i) else (if n=1 then some (.index 1 (some len) false x i) else none)
   | _,_=>none)
  | _,_,_=>none)
 | .makeMap t r=>(match P.underlying t with
  | some (.map _ _)=>(match r with | none=>some .mkmap | some (.const (.int _ _))=>some .mkmap | some _=>none)
  | _=>none)
 | .lookup t m k ok=>(match P.underlying t,cRand m,cRand k with
  | some (.map kt e),some rm,some rk=>(match keyQ P kt,mZero P e with | some q,some z=>some (.mlook q ok z rm rk) | _,_=>none)
  | _,_,_=>none)
 | .mapUpdate t m k x=>cMupd P t m k x
 | .insert t m k x=>cMupd P t m k x
 | .mapEntry t m k=>(match P.underlying t,cRand m,cRand k with
  | some (.map kt e),some rm,some rk=>(match keyQ P kt,mZero P e with | some q,some z=>some (.ment q z rm rk) | _,_=>none)
  | _,_,_=>none)
 | .range t x=>(match P.underlying t,cRand x with | some (.map _ _),some r=>some (.mrange r) | _,_=>none)
 | .next x b=>(match b,cRand x with | false,some r=>some (.mnext r) | _,_=>none)
 | .entry x=>(match cRand x with | some r=>some (.mentry r) | none=>none)
 | .entryStore _ m i x=>(match cRand m,cRand i,cRand x with | some rm,some ri,some rx=>some (.mset rm ri rx) | _,_,_=>none)
 | .makeInterface t x=>(match P.underlying t,cRand x with | some (.interface _),_=>none | some _,some r=>some (.mkif t r) | _,_=>none)
 | .makeFunc f first cap=>(match cRands first.toList,cRands cap.toList with | some a,some b=>some (.mkfunc f a b) | _,_=>none)
 | .extract x i=>(match cRand x with | some r=>some (.extract r i) | none=>none)
 | .call c=>(match c.callee,cRands c.args.toList with
  | .builtin .len,some [x]=>(match c.argTypes[0]?.bind P.underlying with
   | some .string=>some (.len true x)
   | some (.slice _)=>some (.len false x)
   | _=>none)
  | .builtin .append,some [s,x]=>(match c.argTypes[0]?.bind P.underlying,c.argTypes[1]?.bind P.underlying with
   | some (.slice e),some u=>(match P.info? e with
    | some i=>(match i.zero,u with
     | some z,.slice _=>if 0<i.size∧0<i.bytes∧z.cells.size=i.size then some (.append i.size i.bytes s x) else none
     | some z,.string=>if 0<i.size∧0<i.bytes∧z.cells.size=i.size then some (.append i.size i.bytes s x) else none
     | _,_=>none)
    | none=>none)
   | _,_=>none)
  | .builtin .clear,some [x]=>(match c.argTypes[0]?.bind P.underlying with
   | some (.slice e)=>(match tSize P e,tZero P e with | some n,some z=>if 0<n∧z.length=n then some (.clear n z x) else none | _,_=>none)
   | _=>none)
  | .builtin .min,some xs=>some (.min xs)
  | .builtin .max,some xs=>some (.max xs)
  | .value (.func f),some xs=>if callable P f then some (.call f xs) else (match extK P f with | some k=>some (.ext k xs) | none=>none)
  | .value x,some xs=>(match cRand x with | some r=>some (.callv r xs) | none=>none)
  | _,_=>none)
 | _=>none
section
variable {P : Program} {E : Env} {fz : Nat → Prop} {S : Store} {w : World} {F : Frame} {a : Act} {K : AVal → Store → Prop} {ro : Bool}
theorem wCells_rel {x:AVal} {v:Value} {K:List AVal→Prop} (h:wCells x K) (hr:Rel E fz w x v): ∃cs:List AVal,K cs∧RelL E fz w cs v.cells.toList∧ ∀c∈v.cells.toList,c.oneCell'=true:=by
 have one: ∀ {y:AVal} {u:Value},Rel E fz w y u→u.oneCell'=true→u.cells= #[u]→K [y]→ ∃cs:List AVal,K cs∧RelL E fz w cs u.cells.toList∧ ∀c∈u.cells.toList,c.oneCell'=true:=by
  intro y u h1 h2 h3 h4
  refine ⟨[y],h4,?_,?_⟩
  ·rw [h3];simp only [RelL];exact ⟨u,[],rfl,h1,rfl⟩
  ·rw [h3];simpa using h2
 cases x<;>simp only [wCells] at h
 case agg cs=>
  simp only [Rel] at hr
  obtain ⟨vs,rfl,h1,h2⟩:=hr
  exact ⟨cs,h,by simpa [Value.cells] using h1,by simpa [Value.cells] using h2⟩
 all_goals first | exact h.elim | skip
 all_goals
  have hr':=hr
  simp only [Rel] at hr'
 case tt=>subst hr';exact one hr rfl rfl h
 case ff=>subst hr';exact one hr rfl rfl h
 case bool=>subst hr';exact one hr rfl rfl h
 case int=>subst hr';exact one hr rfl rfl h
 case str=>subst hr';exact one hr rfl rfl h
 case nilp=>subst hr';exact one hr rfl rfl h
 case ptr=>obtain ⟨_,_,_,_,_,rfl⟩:=hr';exact one hr rfl rfl h
 case rop=>obtain ⟨_,_,_,rfl,_⟩:=hr';exact one hr rfl rfl h
 case nils=>subst hr';exact one hr rfl rfl h
 case sl=>rcases hr' with ⟨_,_,rfl⟩ | ⟨_,_,_,_,_,_,_,_,rfl⟩<;>exact one hr rfl rfl h
 case ros=>rcases hr' with ⟨_,_,_,rfl⟩ | ⟨_,_,_,_,_,rfl,_⟩<;>exact one hr rfl rfl h
 case fn=>obtain ⟨_,_,rfl,_,_⟩:=hr';exact one hr rfl rfl h
 case nilf=>subst hr';exact one hr rfl rfl h
 case map=>obtain ⟨_,_,rfl⟩:=hr';exact one hr rfl rfl h
 case nilm=>subst hr';exact one hr rfl rfl h
 case iface=>obtain ⟨_,rfl,_⟩:=hr';exact one hr rfl rfl h
 case nili=>subst hr';exact one hr rfl rfl h
theorem i64_wrap {n:Int} (h:inI64 n):IntKind.i64.wrap n=n:=by
 unfold inI64 at h
 simp only [IntKind.wrap,IntKind.bits,IntKind.signed,Bool.true_and,decide_eq_true_eq,show (2:Int) ^ 64=18446744073709551616 from rfl,show (2:Int) ^ (64-1)=9223372036854775808 from rfl]
 split<;>omega
theorem wMk_rel {k:IntKind} {n:Int} {K:AVal→Prop} (h:wMk k n K): ∃x,K x∧Rel E fz w x (.int k (k.wrap n)):=by
 unfold wMk at h
 split at h
 ·exact ⟨_,h.2,by simp [Rel,i64_wrap h.1]⟩
 ·exact ⟨_,h,by simp [Rel]⟩
theorem runs_pure (st:St E fz S w) {o:Oper} {v:Value} {x:AVal} (h:(execOp a.eval o).run P w= .ok (.value v) w) (hk:K x S) (hr:Rel E fz w x v):
  RunsTo P ((execOp a.eval o).run P w) (Post K E fz S w):=by rw [h];exact Post.same st hk hr
theorem mov_sound (st:St E fz S w) (hF:RelF E fz w F a.tmps) {o:Oper} {x:Operand} {r:Rand} (ho:o.op= .move x∨o.op= .assign x) (hx:cRand x=some r)
  (h:vcOp P F S K (.mov r)):RunsTo P ((execOp a.eval o).run P w) (Post K E fz S w):=by
 simp only [vcOp,rdK_iff] at h
 refine runs_pure st ?_ h (eval_rel hF hx)
 rcases ho with ho | ho<;>simp [execOp,ho]
theorem pick_sound (st:St E fz S w) (hF:RelF E fz w F a.tmps) {o:Oper} {c x y:Operand} {rc rx ry:Rand} (ho:o.op= .pick c x y) (hc:cRand c=some rc) (hx:cRand x=some rx) (hy:cRand y=some ry)
  (h:vcOp P F S K (.pick rc rx ry)):RunsTo P ((execOp a.eval o).run P w) (Post K E fz S w):=by
 have h1:=eval_rel hF hc
 have h2:=eval_rel hF hx
 have h3:=eval_rel hF hy
 simp only [vcOp,rdK_iff] at h
 generalize rd F rc=C at*
 cases C<;>simp only [Rel] at h1<;>first | exact h.elim | skip
 case tt=>exact runs_pure st (by simp [execOp,ho,h1,asBool]) h h2
 case ff=>exact runs_pure st (by simp [execOp,ho,h1,asBool]) h h3
 case bool b=>
  cases b
  ·exact runs_pure st (by simp [execOp,ho,h1,asBool]) (h.2 rfl) h3
  ·exact runs_pure st (by simp [execOp,ho,h1,asBool]) (h.1 rfl) h2
theorem nilchk_sound (st:St E fz S w) (hF:RelF E fz w F a.tmps) {o:Oper} {x:Operand} {r:Rand} (ho:o.op= .nilCheck x) (hx:cRand x=some r)
  (h:vcOp P F S K (.nilchk r)):RunsTo P ((execOp a.eval o).run P w) (Post K E fz S w):=by
 have h1:=eval_rel hF hx
 simp only [vcOp,rdK_iff] at h
 generalize rd F r=X at*
 cases X<;>first | exact h.elim | skip
 case ptr l v off=>
  have h1':=h1
  simp only [Rel] at h1'
  obtain ⟨_,_,_,_,_,e⟩:=h1'
  exact runs_pure st (by simp [execOp,ho,e]) h (e▸h1)
 case rop cs=>
  have h1':=h1
  simp only [Rel] at h1'
  obtain ⟨_,_,_,e,_⟩:=h1'
  exact runs_pure st (by simp [execOp,ho,e]) h (e▸h1)
 case fn f xs ys=>
  have h1':=h1
  simp only [Rel] at h1'
  obtain ⟨vs,us,e,_,_⟩:=h1'
  cases f<;>first | exact h.elim | skip
  exact runs_pure st (by simp [execOp,ho,e]) h (e▸h1)
 case map l v=>
  have h1':=h1
  simp only [Rel] at h1'
  obtain ⟨_,_,e⟩:=h1'
  exact runs_pure st (by simp [execOp,ho,e]) h (e▸h1)
theorem un_sound (st:St E fz S w) (hF:RelF E fz w F a.tmps) {o:Oper} {x:Operand} {r:Rand} {t:TypeId} (hx:cRand x=some r)
  (h:(o.op= .unOp .not t x∧vcOp P F S K (.not r))∨(o.op= .unOp .neg t x∧vcOp P F S K (.neg r))):RunsTo P ((execOp a.eval o).run P w) (Post K E fz S w):=by
 have h1:=eval_rel hF hx
 rcases h with ⟨ho,h⟩ | ⟨ho,h⟩<;>simp only [vcOp,rdK_iff] at h<;>generalize rd F r=X at*
 ·cases X<;>simp only [wBool] at h<;>simp only [Rel] at h1<;>
   exact runs_pure st (by simp [execOp,ho,h1,Op.unary];rfl) h (by simp [Rel])
 ·cases X<;>simp only [wInt] at h
  simp only [Rel] at h1
  obtain ⟨y,hy,hr⟩:=wMk_rel (E:=E) (fz:=fz) (w:=w) h
  exact runs_pure st (by simp [execOp,ho,h1,Op.unary,Op.intArith];rfl) hy (by simpa using hr)
theorem conv_sound (st:St E fz S w) (hF:RelF E fz w F a.tmps) {o:Oper} {x:Operand} {r:Rand} {s d:TypeId} {u:TypeDesc} {k:IntKind} (ho:o.op= .convert s d x) (hs:P.underlying s=some u) (hd:P.underlying d=some (.int k)) (hx:cRand x=some r)
  (h:vcOp P F S K (.conv k r)):RunsTo P ((execOp a.eval o).run P w) (Post K E fz S w):=by
 have h1:=eval_rel hF hx
 simp only [vcOp,rdK_iff] at h
 generalize rd F r=X at*
 cases X<;>simp only [wInt] at h
 simp only [Rel] at h1
 obtain ⟨y,hy,hr⟩:=wMk_rel (E:=E) (fz:=fz) (w:=w) h
 exact runs_pure st (by simp [execOp,ho,h1,convert,run_underlying hs,run_underlying hd,Conv.intToInt]) hy hr
theorem strid_sound (st:St E fz S w) (hF:RelF E fz w F a.tmps) {o:Oper} {x:Operand} {r:Rand} {s d:TypeId} (ho:o.op= .convert s d x) (hs:P.underlying s=some .string) (hd:P.underlying d=some .string) (hx:cRand x=some r)
  (h:vcOp P F S K (.strid r)):RunsTo P ((execOp a.eval o).run P w) (Post K E fz S w):=by
 have h1:=eval_rel hF hx
 simp only [vcOp,rdK_iff] at h
 generalize rd F r=X at*
 cases X<;>first | exact h.elim | skip
 have h1':=h1
 simp only [Rel] at h1'
 exact runs_pure st (by simp [execOp,ho,h1',convert,run_underlying hs,run_underlying hd]) h (h1'▸h1)
theorem mkif_sound (st:St E fz S w) (hF:RelF E fz w F a.tmps) {o:Oper} {t:TypeId} {d:TypeDesc} {x:Operand} {r:Rand} (ho:o.op= .makeInterface t x) (ht:P.underlying t=some d) (hd: ∀m,d≠ .interface m) (hx:cRand x=some r)
  (h:vcOp P F S K (.mkif t r)):RunsTo P ((execOp a.eval o).run P w) (Post K E fz S w):=by
 simp only [vcOp,rdK_iff] at h
 refine runs_pure st (v:= .iface t (a.eval x)) ?_ h ?_
 ·simp only [execOp,ho,Instr.makeInterface,Sem.run_bind,run_underlying ht,Result.andThen_ok]
  cases d<;>first | rfl | exact absurd rfl (hd _)
 ·simp only [Rel]
  exact ⟨_,rfl,eval_rel hF hx⟩
theorem mkfunc_sound (st:St E fz S w) (hF:RelF E fz w F a.tmps) {o:Oper} {f:Fn} {x y:Array Operand} {rx ry:List Rand} (ho:o.op= .makeFunc f x y) (hx:cRands x.toList=some rx) (hy:cRands y.toList=some ry)
  (h:vcOp P F S K (.mkfunc f rx ry)):RunsTo P ((execOp a.eval o).run P w) (Post K E fz S w):=by
 simp only [vcOp,rdsK_iff] at h
 refine runs_pure st (v:= .func f (x.map a.eval) (y.map a.eval)) (by simp [execOp,ho,Instr.makeFunc]) h ?_
 simp only [Rel]
 exact ⟨x.toList.map a.eval,y.toList.map a.eval,by simp [←Array.toList_map],evals_rel hF hx,evals_rel hF hy⟩
theorem extract_sound (st:St E fz S w) (hF:RelF E fz w F a.tmps) {o:Oper} {x:Operand} {r:Rand} {i:Nat} (ho:o.op= .extract x i) (hx:cRand x=some r)
  (h:vcOp P F S K (.extract r i)):RunsTo P ((execOp a.eval o).run P w) (Post K E fz S w):=by
 have h1:=eval_rel hF hx
 simp only [vcOp,rdK_iff] at h
 generalize rd F r=X at*
 cases X<;>simp only [dropK_iff] at h
 case tup xs=>
  simp only [Rel] at h1
  obtain ⟨vs,e,hl⟩:=h1
  cases hd:xs.drop i with
  | nil=>rw [hd] at h;exact h.elim
  | cons y ys=>
   rw [hd] at h
   have hi:xs[i]?=some y:=by
    have:=congrArg (·[0]?) hd
    simpa using this
   obtain ⟨v,hv,hr⟩:=hl.get hi
   exact runs_pure st (by simp [execOp,ho,e,Instr.extract,hv]) h hr
 all_goals exact h.elim
theorem len_sound (st:St E fz S w) (hF:RelF E fz w F a.tmps) {o:Oper} {c:Call} {r:Rand} {t:TypeId} {str:Bool} (ho:o.op= .call c) (hc:c.callee= .builtin .len) (hargs:cRands c.args.toList=some [r])
  (ht:c.argTypes[0]?=some t) (hu:(str=true∧P.underlying t=some .string)∨(str=false∧ ∃e,P.underlying t=some (.slice e)))
  (h:vcOp P F S K (.len str r)):RunsTo P ((execOp a.eval o).run P w) (Post K E fz S w):=by
 have h1:=evals_rel hF hargs
 simp only [List.map_cons,List.map_nil,RelL] at h1
 obtain ⟨v,us,e1,hr,rfl⟩:=h1
 have e2:(c.args.map a.eval)[0]?=some v:=by rw [←Array.getElem?_toList,Array.toList_map,e1];rfl
 simp only [vcOp,rdK_iff] at h
 generalize rd F r=X at*
 have go: ∀ {n:Nat},(Builtin.len_ c.argTypes o.type (c.args.map a.eval)).run P w= .ok (goInt n) w→K (.int .i64 (n:Int)) S→RunsTo P ((execOp a.eval o).run P w) (Post K E fz S w):=fun {n} hrun hk=>by
  refine runs_pure st (v:= .int .i64 n) ?_ hk (by simp [Rel])
  simp [execOp,ho,resolve,hc,invoke,builtin,hrun,goInt]
 rcases hu with ⟨rfl,hu⟩ | ⟨rfl,e,hu⟩
 ·cases X<;>first | exact h.elim | skip
  rename_i s
  simp only [Rel] at hr
  subst hr
  refine go (n:=s.length) ?_ h
  simp [Builtin.len_,ht,e2,run_underlying hu];rfl
 ·have slice: ∀ {ao:Option Addr} {n cap:Nat},v= .slice ao n cap→K (.int .i64 (n:Int)) S→RunsTo P ((execOp a.eval o).run P w) (Post K E fz S w):=fun {ao n cap} hv hk=>by
   subst hv
   exact go (by simp [Builtin.len_,ht,e2,run_underlying hu]) hk
  cases X<;>first | exact h.elim | skip
  case ros n cs=>
   simp only [Rel] at hr
   rcases hr with ⟨rfl,_,_,rfl⟩ | ⟨_,_,_,_,_,rfl,_⟩<;>exact slice rfl h
  case sl l ver off n=>
   simp only [Rel] at hr
   rcases hr with ⟨rfl,_,rfl⟩ | ⟨_,_,_,_,_,_,_,_,rfl⟩<;>exact slice rfl h
  case nils=>
   simp only [Rel] at hr
   exact slice hr h
end
end Go.Vc
end
section
namespace Go.Vc
section
variable {P : Program} {E : Env} {fz : Nat → Prop} {S : Store} {w : World} {F : Frame} {a : Act} {K : AVal → Store → Prop} {ro : Bool}
theorem calls_rel {f:FuncId} {xs:List AVal} {vals:List Value} (st:St E fz S w) (h:ACalls P f xs S K) (hr:RelL E fz w xs vals):
  XCalls P f vals.toArray w fun e w''=> ∃v,e= .returned v∧Post K E fz S w v w'':=
 (h.out E fz w vals st hr).mono fun e w' ⟨r,S',v,E',fz',he,hx,hs,hrel,hk⟩=>⟨v,he,r,S',E',fz',hk,hx,hs,hrel⟩
theorem run_callFunc {f:FuncId} {args:Array Value} (h:callable P f=true):(callFunc f args).run P w= .ok (.enter f args) w:=by
 unfold callable at h
 cases hf:P.funcs[f]? with
 | none=>rw [hf] at h;cases h
 | some fn=>
  rw [hf] at h
  simp only [Bool.and_eq_true,bne_iff_ne,ne_eq] at h
  obtain ⟨h1,h2⟩:=h
  have h3:fn.body.isNone=false:=by cases hh:fn.body<;>simp_all
  have h4:(fn.name == "runtime.NumGoroutine")=false:=by simpa using h2
  simp only [callFunc,Sem.run_bind,run_program,Result.andThen_ok,hf,h4,h3,Bool.false_eq_true,if_false,Sem.run_pure]
theorem XCalls.calls {f:FuncId} {args:Array Value} {R:Ending→World→Prop} (h:XCalls P f args w R) (ha:callable P f=true):Go.Vk.CallsV P f args w R:=h.2
theorem call_sound (st:St E fz S w) (hF:RelF E fz w F a.tmps) {o:Oper} {c:Call} {f:FuncId} {xs:List Rand} (ho:o.op= .call c) (hc:c.callee= .value (.func f)) (hargs:cRands c.args.toList=some xs)
  (hf:callable P f=true) (h:vcOp P F S K (.call f xs)):RunsTo P ((execOp a.eval o).run P w) (Post K E fz S w):=by
 have h1:=evals_rel hF hargs
 simp only [vcOp,rdsK_iff] at h
 have hrun:(execOp a.eval o).run P w= .ok (.enter f (c.args.map a.eval)) w:=by
  simp [execOp,ho,resolve,hc,Deferred.ofValue,invoke,Act.eval,run_callFunc hf]
 rw [hrun]
 have:=(calls_rel st h h1).calls hf
 simpa [RunsTo,Go.Vk.RunsV,←Array.toList_map] using this
theorem find_idxb {fn:Func} (h:fn.name= "internal/bytealg.IndexByteString"):Extern.find fn=some Extern.BytealgIndexByte.indexByte:=by
 have h1:Extern.allGenericRows.lookup "internal/bytealg.IndexByteString" =none:=by kernel_rfl
 have h2:Extern.allTypedRows.lookup "internal/bytealg.IndexByteString" =none:=by kernel_rfl
 have h3:Extern.allRows.lookup "internal/bytealg.IndexByteString" =some Extern.BytealgIndexByte.indexByte:=by kernel_rfl
 simp only [Extern.find,h,h1,h2,h3,Option.map_none,HOrElse.hOrElse,OrElse.orElse,Option.orElse]
theorem find_cnt {fn:Func} (h:fn.name= "internal/bytealg.CountString"):Extern.find fn=some Extern.BytealgCount.count:=by
 have h1:Extern.allGenericRows.lookup "internal/bytealg.CountString" =none:=by kernel_rfl
 have h2:Extern.allTypedRows.lookup "internal/bytealg.CountString" =none:=by kernel_rfl
 have h3:Extern.allRows.lookup "internal/bytealg.CountString" =some Extern.BytealgCount.count:=by kernel_rfl
 simp only [Extern.find,h,h1,h2,h3,Option.map_none,HOrElse.hOrElse,OrElse.orElse,Option.orElse]
theorem extK_idxb {f:FuncId} (h:extK P f=some .idxb) (args:Array Value) (w:World):(callFunc f args).run P w=((Extern.BytealgIndexByte.indexByte args).run P w).andThen fun v w'=>.ok (.value v) w':=by
 unfold extK at h
 split at h
 ·rename_i fn hf
  split at h
  ·rename_i hb
   simp only [Bool.and_eq_true] at hb
   split at h
   ·rename_i hn
    have hn:=eq_of_beq hn
    exact run_callFunc_extern hf (by rw [hn];rfl) hb.1 (Option.isNone_iff_eq_none.1 hb.2) (find_idxb hn) args w
   ·split at h<;>cases h
  ·cases h
 ·cases h
theorem extK_cnt {f:FuncId} (h:extK P f=some .cnt) (args:Array Value) (w:World):(callFunc f args).run P w=((Extern.BytealgCount.count args).run P w).andThen fun v w'=>.ok (.value v) w':=by
 unfold extK at h
 split at h
 ·rename_i fn hf
  split at h
  ·rename_i hb
   simp only [Bool.and_eq_true] at hb
   split at h
   ·cases h
   ·split at h
    ·rename_i hn
     have hn:=eq_of_beq hn
     exact run_callFunc_extern hf (by rw [hn];rfl) hb.1 (Option.isNone_iff_eq_none.1 hb.2) (find_cnt hn) args w
    ·cases h
  ·cases h
 ·cases h
theorem ext_sound (st:St E fz S w) (hF:RelF E fz w F a.tmps) {o:Oper} {c:Call} {f:FuncId} {xs:List Rand} {k:ExtK} (ho:o.op= .call c) (hc:c.callee= .value (.func f)) (hargs:cRands c.args.toList=some xs)
  (hf:extK P f=some k) (h:vcOp P F S K (.ext k xs)):RunsTo P ((execOp a.eval o).run P w) (Post K E fz S w):=by
 have h1:=evals_rel hF hargs
 simp only [vcOp,rdsK_iff] at h
 have hrun: ∀v,((callFunc f (c.args.map a.eval)).run P w= .ok (.value v) w)→(execOp a.eval o).run P w= .ok (.value v) w:=fun v hv=>by
  simp [execOp,ho,resolve,hc,Deferred.ofValue,invoke,Act.eval,hv]
 have e0:c.args.map a.eval=(c.args.toList.map a.eval).toArray:=by apply Array.ext';simp
 generalize hX:xs.map (rd F)=X at*
 unfold vcExt at h
 split at h
 ·rename_i s n
  simp only [RelL,Rel] at h1
  obtain ⟨v,us,e1,rfl,u,us',rfl,rfl,rfl⟩:=h1
  refine runs_pure st (hrun (.int .i64 (Lib.indexByte s n.toNat.toUInt8)) ?_) h (by simp only [Rel])
  rw [extK_idxb hf,e0,e1,Lib.run_indexByteString]
  rfl
 ·rename_i s n
  simp only [RelL,Rel] at h1
  obtain ⟨v,us,e1,rfl,u,us',rfl,rfl,rfl⟩:=h1
  refine runs_pure st (hrun (.int .i64 (Lib.countByte s n.toNat.toUInt8:Nat)) ?_) h (by simp only [Rel])
  rw [extK_cnt hf,e0,e1,Lib.run_countString]
  rfl
 ·exact h.elim
theorem callv_sound (st:St E fz S w) (hF:RelF E fz w F a.tmps) {o:Oper} {c:Call} {x:Operand} {r:Rand} {xs:List Rand} (ho:o.op= .call c) (hc:c.callee= .value x) (hargs:cRands c.args.toList=some xs)
  (hx:cRand x=some r) (h:vcOp P F S K (.callv r xs)):RunsTo P ((execOp a.eval o).run P w) (Post K E fz S w):=by
 have h1:=evals_rel hF hargs
 have h2:=eval_rel hF hx
 simp only [vcOp,rdK_iff,rdsK_iff] at h
 generalize hX:rd F r=X at*
 cases X<;>first | exact h.elim | skip
 rename_i f first cap
 cases f
 case func f=>
  cases first<;>first | exact h.elim | skip
  simp only [Rel] at h2
  obtain ⟨vs,us,e,g1,g2⟩:=h2
  simp only [RelL] at g1
  subst g1
  have:=calls_rel st h.2 (h1.append g2)
  have e2:(c.args.toList.map a.eval++us).toArray=c.args.map a.eval++us.toArray:=by apply Array.ext';simp
  rw [e2] at this
  obtain ⟨ha,this⟩:=this
  have hrun:(execOp a.eval o).run P w= .ok (.enter f (c.args.map a.eval++us.toArray)) w:=by
   simp [execOp,ho,resolve,hc,Deferred.ofValue,e,invoke,run_callFunc ha]
  rw [hrun]
  exact this
 case yield l=>
  cases first<;>first | exact h.elim | skip
  cases cap<;>first | exact h.elim | skip
  simp only [Rel,RelL] at h2
  exact h.2.out.elim
 all_goals exact h.elim
theorem min_go: ∀(xs:List AVal) (vs:List Value) (x:AVal) (v:Value) {K:AVal→Prop},RelL E fz w xs vs→Rel E fz w x v→vcMin x K xs→
  ∃u y,(vs.foldlM Builtin.min2 v).run P w= .ok u w∧K y∧Rel E fz w y u
 | [],vs,x,v,K,hl,hr,h=>by
  simp only [RelL] at hl;subst hl
  exact ⟨v,x,by simp,h,hr⟩
 | y::xs,vs,x,v,K,hl,hr,h=>by
  simp only [RelL] at hl
  obtain ⟨u,us,rfl,h2,h3⟩:=hl
  cases x<;>cases y<;>simp only [vcMin] at h
  rename_i k n k' m
  obtain ⟨rfl,h⟩:=h
  simp only [Rel] at hr h2
  subst hr h2
  obtain ⟨u',y',q1,q2,q3⟩:=min_go xs us _ (.int k (min n m)) h3 (by simp only [Rel]) h
  refine ⟨u',y',?_,q2,q3⟩
  simp only [List.foldlM_cons,Sem.run_bind,Builtin.min2,Sem.run_pure,Result.andThen_ok]
  have:(if m<n then m else n)=min n m:=by omega
  rw [this];exact q1
theorem max_go: ∀(xs:List AVal) (vs:List Value) (x:AVal) (v:Value) {K:AVal→Prop},RelL E fz w xs vs→Rel E fz w x v→vcMax x K xs→
  ∃u y,(vs.foldlM Builtin.max2 v).run P w= .ok u w∧K y∧Rel E fz w y u
 | [],vs,x,v,K,hl,hr,h=>by
  simp only [RelL] at hl;subst hl
  exact ⟨v,x,by simp,h,hr⟩
 | y::xs,vs,x,v,K,hl,hr,h=>by
  simp only [RelL] at hl
  obtain ⟨u,us,rfl,h2,h3⟩:=hl
  cases x<;>cases y<;>simp only [vcMax] at h
  rename_i k n k' m
  obtain ⟨rfl,h⟩:=h
  simp only [Rel] at hr h2
  subst hr h2
  obtain ⟨u',y',q1,q2,q3⟩:=max_go xs us _ (.int k (max n m)) h3 (by simp only [Rel]) h
  refine ⟨u',y',?_,q2,q3⟩
  simp only [List.foldlM_cons,Sem.run_bind,Builtin.max2,Sem.run_pure,Result.andThen_ok]
  have:(if n<m then m else n)=max n m:=by omega
  rw [this];exact q1
theorem minmax_sound (st:St E fz S w) (hF:RelF E fz w F a.tmps) {o:Oper} {c:Call} {xs:List Rand} (ho:o.op= .call c) (hargs:cRands c.args.toList=some xs)
  (h:(c.callee= .builtin .min∧vcOp P F S K (.min xs))∨(c.callee= .builtin .max∧vcOp P F S K (.max xs))):RunsTo P ((execOp a.eval o).run P w) (Post K E fz S w):=by
 have h1:=evals_rel hF hargs
 rcases h with ⟨hc,h⟩ | ⟨hc,h⟩<;>simp only [vcOp,rdsK_iff] at h<;>generalize xs.map (rd F)=ys at* <;>cases ys<;>first | exact h.elim | skip
 all_goals
  rename_i y ys
  simp only [RelL] at h1
  obtain ⟨v,us,e,h2,h3⟩:=h1
 ·obtain ⟨u,z,q1,q2,q3⟩:=min_go (P:=P) ys us y v h3 h2 h
  exact runs_pure st (by simp [execOp,ho,resolve,hc,invoke,builtin,Builtin.min_,e,q1]) q2 q3
 ·obtain ⟨u,z,q1,q2,q3⟩:=max_go (P:=P) ys us y v h3 h2 h
  exact runs_pure st (by simp [execOp,ho,resolve,hc,invoke,builtin,Builtin.max_,e,q1]) q2 q3
theorem eqK_rel {op:BinOp} {r:Bool} {K:AVal→Prop} (h:eqK op r K):(op= .eql∧K (.bool r))∨(op= .neq∧K (.bool (!r))):=by
 cases op<;>simp only [eqK] at h<;>first | exact h.elim | skip
 ·exact .inl ⟨rfl,h⟩
 ·exact .inr ⟨rfl,h⟩
theorem toList_bytes (s:List UInt8):(⟨s.toArray⟩:ByteArray).toList=s:=by rw [ByteArray.toList_eq]
theorem beq_int (a b:Int):(a == b)=decide (a=b):=by
 by_cases h:a=b<;>simp [h]
theorem beq_bytes (a b:List UInt8):(a == b)=decide (a=b):=by
 by_cases h:a=b<;>simp [h]
theorem beq_bool (a b:Bool):(a == b)=decide (a=b):=by
 by_cases h:a=b<;>simp [h]
theorem eq_cells (d:Nat): ∀(fs:List Field) (ks:List FK) (off:Nat) (xs ys:List AVal) (vs us:List Value) (av au:List Value) {K:Bool→Prop},flatFields P off fs=some ks→RelL E fz w xs vs→RelL E fz w ys us→
  (∀(i:Nat) v,vs[i]?=some v→av[off+i]?=some v)→(∀(i:Nat) v,us[i]?=some v→au[off+i]?=some v)→cellsEq ks xs ys K→
  ∃r,(Op.eqFields (d+1) av.toArray au.toArray fs).run P w= .ok r w∧K r
 | [],ks,off,xs,ys,vs,us,av,au,K,hf,_,_,_,_,h=>by
  simp only [flatFields] at hf
  cases hf
  cases xs<;>cases ys<;>simp only [cellsEq] at h
  exact ⟨true,by simp [Op.eqFields],h⟩
 | f::fs,ks,off,xs,ys,vs,us,av,au,K,hf,hx,hy,h1,h2,h=>by
  simp only [flatFields] at hf
  split at hf
  case isFalse=>cases hf
  rename_i hname
  simp only [Bool.and_eq_true,bne_iff_ne,ne_eq,beq_iff_eq] at hname
  obtain ⟨fname,foff⟩:=hname
  have main: ∀ {x y:AVal} {xs' ys':List AVal} {ks':List FK} {dsc:TypeDesc} {q:Bool} {v u:Value} {vs' us':List Value},xs=x::xs'→ys=y::ys'→vs=v::vs'→us=u::us'→P.underlying f.type=some dsc→isAggD dsc=false→
    flatFields P (off+1) fs=some ks'→RelL E fz w xs' vs'→RelL E fz w ys' us'→
    (Op.equalIn (d+1) f.type v u).run P w= .ok q w→(cellsEq ks' xs' ys' fun r=>K (q && r))→ ∃r,(Op.eqFields (d+1) av.toArray au.toArray (f::fs)).run P w= .ok r w∧K r:=by
   intro x y xs' ys' ks' dsc q v u vs' us' ex ey ev eu hd hagg hfs hxs hys hq hk
   subst ex ey ev eu
   have g1:av[off]?=some v:=by simpa using h1 0 v rfl
   have g2:au[off]?=some u:=by simpa using h2 0 u rfl
   have n1: ∀(i:Nat) v',vs'[i]?=some v'→av[off+1+i]?=some v':=fun i v' hi=>by have:=h1 (i+1) v' (by simpa using hi);rwa [show off+(i+1)=off+1+i by omega] at this
   have n2: ∀(i:Nat) v',us'[i]?=some v'→au[off+1+i]?=some v':=fun i v' hi=>by have:=h2 (i+1) v' (by simpa using hi);rwa [show off+(i+1)=off+1+i by omega] at this
   have hpart: ∀(l:List Value) z,l[off]?=some z→(part f.type l.toArray f.offset).run P w= .ok z w:=fun l z hz=>by
    have:(isAgg f.type).run P w= .ok false w:=by
     simp only [isAgg,Sem.run_bind,run_underlying hd,Result.andThen_ok]
     cases dsc<;>first | rfl | cases hagg
    simp [part,this,foff,hz]
   simp only [Op.eqFields]
   rw [if_pos fname]
   simp only [Sem.run_bind,hpart av v g1,hpart au u g2,Result.andThen_ok,hq]
   obtain ⟨r,q1,q2⟩:=eq_cells d fs ks' (off+1) xs' ys' vs' us' av au hfs hxs hys n1 n2 hk
   cases q
   ·exact ⟨false,by simp,by simpa using q2⟩
   ·exact ⟨r,by simpa using q1,by simpa using q2⟩
  split at hf
  ·rename_i kk ks' hd hfs
   cases hf
   cases xs with
   | nil=>simp only [cellsEq] at h
   | cons x xs=>
    cases ys with
    | nil=>cases x<;>simp only [cellsEq] at h
    | cons y ys=>
     simp only [RelL] at hx hy
     obtain ⟨v,vs,rfl,hv,hvs⟩:=hx
     obtain ⟨u,us,rfl,hu,hus⟩:=hy
     cases x<;>cases y<;>simp only [cellsEq] at h
     rename_i k n k' m
     obtain ⟨rfl,h⟩:=h
     simp only [Rel] at hv hu
     subst hv hu
     exact main (q:=decide (n=m)) rfl rfl rfl rfl hd rfl hfs hvs hus (by simp [Op.equalIn,run_underlying hd,beq_int]) h
  ·rename_i ks' hd hfs
   cases hf
   cases xs with
   | nil=>simp only [cellsEq] at h
   | cons x xs=>
    cases ys with
    | nil=>cases x<;>simp only [cellsEq] at h
    | cons y ys=>
     simp only [RelL] at hx hy
     obtain ⟨v,vs,rfl,hv,hvs⟩:=hx
     obtain ⟨u,us,rfl,hu,hus⟩:=hy
     cases x<;>cases y<;>simp only [cellsEq] at h
     rename_i n m
     simp only [Rel] at hv hu
     subst hv hu
     exact main (q:=decide (n=m)) rfl rfl rfl rfl hd rfl hfs hvs hus (by simp [Op.equalIn,run_underlying hd,beq_toListBytes,toList_bytes,beq_bytes]) h
  ·rename_i ks' hd hfs
   cases hf
   cases xs with
   | nil=>simp only [cellsEq] at h
   | cons x xs=>
    cases ys with
    | nil=>cases x<;>simp only [cellsEq] at h
    | cons y ys=>
     simp only [RelL] at hx hy
     obtain ⟨v,vs,rfl,hv,hvs⟩:=hx
     obtain ⟨u,us,rfl,hu,hus⟩:=hy
     cases x<;>cases y<;>simp only [cellsEq] at h
     rename_i n m
     simp only [Rel] at hv hu
     subst hv hu
     exact main (q:=decide (n=m)) rfl rfl rfl rfl hd rfl hfs hvs hus (by simp [Op.equalIn,run_underlying hd,beq_bool]) h
  ·cases hf
theorem cellsEq_app: ∀ {k1 k2:List FK} {xs ys:List AVal} {K:Bool→Prop},cellsEq (k1++k2) xs ys K→
  xs.length=ys.length∧k1.length≤xs.length∧cellsEq k1 (xs.take k1.length) (ys.take k1.length) fun r=>cellsEq k2 (xs.drop k1.length) (ys.drop k1.length) fun q=>K (r && q)
 | [],k2,xs,ys,K,h=>by
  refine ⟨?_,Nat.zero_le _,?_⟩
  ·have: ∀(k:List FK) (xs ys:List AVal) (K:Bool→Prop),cellsEq k xs ys K→xs.length=ys.length:=by
    intro k
    induction k with
    | nil=>intro xs ys K h;cases xs<;>cases ys<;>simp only [cellsEq] at h;rfl
    | cons k ks ih=>
     intro xs ys K h
     cases xs with
     | nil=>cases k<;>simp only [cellsEq] at h
     | cons x xs=>
      cases ys with
      | nil=>cases k<;>cases x<;>simp only [cellsEq] at h
      | cons y ys=>
       simp only [List.length_cons]
       cases k<;>cases x<;>cases y<;>simp only [cellsEq] at h
       ·rw [ih _ _ _ h.2]
       ·rw [ih _ _ _ h]
       ·rw [ih _ _ _ h]
   exact this _ _ _ _ (by simpa using h)
  ·simpa [cellsEq] using h
 | k::k1,k2,[],ys,K,h=>by cases k<;>simp only [List.cons_append,cellsEq] at h
 | k::k1,k2,x::xs,[],K,h=>by cases k<;>cases x<;>simp only [List.cons_append,cellsEq] at h
 | k::k1,k2,x::xs,y::ys,K,h=>by
  cases k<;>cases x<;>cases y<;>simp only [List.cons_append,cellsEq] at h
  ·obtain ⟨h1,h2,h3⟩:=cellsEq_app (k1:=k1) h.2
   refine ⟨by simp [h1],by simpa using h2,?_⟩
   simp only [List.length_cons,List.take_succ_cons,List.drop_succ_cons,cellsEq,Bool.and_assoc]
   exact ⟨h.1,h3⟩
  ·obtain ⟨h1,h2,h3⟩:=cellsEq_app (k1:=k1) h
   refine ⟨by simp [h1],by simpa using h2,?_⟩
   simp only [List.length_cons,List.take_succ_cons,List.drop_succ_cons,cellsEq,Bool.and_assoc]
   exact h3
  ·obtain ⟨h1,h2,h3⟩:=cellsEq_app (k1:=k1) h
   refine ⟨by simp [h1],by simpa using h2,?_⟩
   simp only [List.length_cons,List.take_succ_cons,List.drop_succ_cons,cellsEq,Bool.and_assoc]
   exact h3
theorem eqFields_cons {n:Nat} {a b:Array Value} {f:Field} {fs:List Field} {r1 r2:Bool} (h1:(Op.eqFields n a b [f]).run P w= .ok r1 w) (h2:(Op.eqFields n a b fs).run P w= .ok r2 w):
  (Op.eqFields n a b (f::fs)).run P w= .ok (r1 && r2) w:=by
 rw [Op.eqFields] at h1 ⊢
 by_cases hn:f.name≠ "_"
 ·rw [if_pos hn] at h1 ⊢
  simp only [Sem.run_bind] at h1 ⊢
  cases e1:Sem.run P (part f.type a f.offset) w with
  | halt x w1=>rw [e1] at h1;simp [Result.andThen] at h1
  | ok x w1=>
   rw [e1] at h1
   simp only [Result.andThen_ok] at h1 ⊢
   cases e2:Sem.run P (part f.type b f.offset) w1 with
   | halt x w1=>rw [e2] at h1;simp [Result.andThen] at h1
   | ok y w2=>
    rw [e2] at h1
    simp only [Result.andThen_ok] at h1 ⊢
    cases e3:Sem.run P (Op.equalIn n f.type x y) w2 with
    | halt x w1=>rw [e3] at h1;simp [Result.andThen] at h1
    | ok q w3=>
     rw [e3] at h1
     simp only [Result.andThen_ok] at h1 ⊢
     cases q
     ·simp at h1 ⊢
      obtain ⟨rfl,rfl⟩:=h1
      simp
     ·simp [Op.eqFields] at h1 ⊢
      obtain ⟨rfl,rfl⟩:=h1
      simpa using h2
 ·rw [if_neg hn] at h1 ⊢
  simp [Op.eqFields] at h1
  subst h1
  simpa using h2
theorem run_size0 {t:TypeId} {n:Nat} (h:tSize P t=some n) (w:World):(Go.sizeOf t).run P w= .ok n w:=by
 unfold tSize at h
 split at h
 ·rename_i i hi;cases h;simp [Go.sizeOf,typeInfo,hi]
 ·cases h
theorem eq_cells2 (d:Nat): ∀(fs:List Field) (ks:List FK) (off:Nat) (xs ys:List AVal) (vs us:List Value) (av au:List Value) {K:Bool→Prop},flatFields2 P off fs=some ks→RelL E fz w xs vs→RelL E fz w ys us→
  (∀(i:Nat) v,vs[i]?=some v→av[off+i]?=some v)→(∀(i:Nat) v,us[i]?=some v→au[off+i]?=some v)→cellsEq ks xs ys K→
  ∃r,(Op.eqFields (d+2) av.toArray au.toArray fs).run P w= .ok r w∧K r
 | [],ks,off,xs,ys,vs,us,av,au,K,hf,_,_,_,_,h=>by
  simp only [flatFields2] at hf
  cases hf
  cases xs<;>cases ys<;>simp only [cellsEq] at h
  exact ⟨true,by simp [Op.eqFields],h⟩
 | f::fs,ks,off,xs,ys,vs,us,av,au,K,hf,hx,hy,h1,h2,h=>by
  have part1: ∀ {xs:List AVal} {vs:List Value} (n:Nat),RelL E fz w xs vs→RelL E fz w (xs.take n) (vs.take n):=fun {xs vs} n hr=>by
   refine RelL.mk (by simp [hr.length]) fun i x v hx hv=>?_
   rw [List.getElem?_take] at hx hv
   split at hx
   ·obtain ⟨v',q1,q2⟩:=hr.get hx
    rename_i hi
    rw [if_pos hi,q1] at hv;cases hv
    exact q2
   ·cases hx
  have part2: ∀ {xs:List AVal} {vs:List Value} (n:Nat),RelL E fz w xs vs→RelL E fz w (xs.drop n) (vs.drop n):=fun {xs vs} n hr=>by
   refine RelL.mk (by simp [hr.length]) fun i x v hx hv=>?_
   rw [List.getElem?_drop] at hx hv
   obtain ⟨v',q1,q2⟩:=hr.get hx
   rw [q1] at hv;cases hv
   exact q2
  have at1: ∀ {vs av:List Value} (n:Nat),(∀(i:Nat) v,vs[i]?=some v→av[off+i]?=some v)→ ∀(i:Nat) v,(vs.take n)[i]?=some v→av[off+i]?=some v:=fun n h i v hv=>by
   rw [List.getElem?_take] at hv
   split at hv
   ·exact h i v hv
   ·cases hv
  have at2: ∀ {vs av:List Value} (n:Nat),(∀(i:Nat) v,vs[i]?=some v→av[off+i]?=some v)→ ∀(i:Nat) v,(vs.drop n)[i]?=some v→av[off+n+i]?=some v:=fun n h i v hv=>by
   rw [List.getElem?_drop] at hv
   rw [Nat.add_assoc]
   exact h _ v hv
  simp only [flatFields2] at hf
  split at hf
  ·rename_i ks1 hk1
   split at hf<;>cases hf
   rename_i ks2 hk2
   obtain ⟨l1,l2,h⟩:=cellsEq_app h
   obtain ⟨r1,q1,q2⟩:=eq_cells (P:=P) (w:=w) (d+1) [f] ks1 off _ _ _ _ av au hk1 (part1 ks1.length hx) (part1 ks1.length hy) (at1 _ h1) (at1 _ h2) h
   obtain ⟨r2,q3,q4⟩:=eq_cells2 d fs ks2 (off+ks1.length) _ _ _ _ av au hk2 (part2 ks1.length hx) (part2 ks1.length hy) (at2 _ h1) (at2 _ h2) q2
   exact ⟨_,eqFields_cons q1 q3,q4⟩
  ·split at hf
   case isFalse=>cases hf
   rename_i hname
   simp only [Bool.and_eq_true,bne_iff_ne,ne_eq,beq_iff_eq] at hname
   obtain ⟨fname,foff⟩:=hname
   split at hf
   case h_2=>cases hf
   rename_i gs hu
   split at hf
   case h_2=>cases hf
   rename_i ks1 n hk1 hn
   split at hf
   case isFalse=>cases hf
   rename_i hc
   simp only [Bool.and_eq_true,Bool.not_eq_true',beq_iff_eq] at hc
   obtain ⟨hc1,hc2⟩:=hc
   split at hf<;>cases hf
   rename_i ks2 hk2
   obtain ⟨l1,l2,h⟩:=cellsEq_app h
   have hext: ∀l:List Value,l.toArray.extract off (off+n)=((l.drop off).take n).toArray:=fun l=>by simp
   have pos: ∀ {vs av:List Value},(∀(i:Nat) v,vs[i]?=some v→av[off+i]?=some v)→ ∀(i:Nat) v,(vs.take ks1.length)[i]?=some v→((av.drop off).take n)[0+i]?=some v:=fun {vs av} h i v hv=>by
    rw [List.getElem?_take] at hv
    split at hv
    ·rename_i hi
     rw [Nat.zero_add,List.getElem?_take,if_pos (by omega),List.getElem?_drop]
     exact h i v hv
    ·cases hv
   obtain ⟨r1,q1,q2⟩:=eq_cells (P:=P) (w:=w) d gs.toList ks1 0 _ _ _ _ ((av.drop off).take n) ((au.drop off).take n) hk1 (part1 ks1.length hx) (part1 ks1.length hy) (pos h1) (pos h2) h
   have hfo:P.fieldsOf f.type=gs:=by simp [Program.fieldsOf,hu]
   have q1':(Op.eqFields (d+2) av.toArray au.toArray [f]).run P w= .ok r1 w:=by
    have hag: ∀w,(isAgg f.type).run P w= .ok true w:=fun w=>by simp [isAgg,run_underlying hu]
    have hp: ∀l:List Value,(part f.type l.toArray f.offset).run P w= .ok (.agg ((l.drop off).take n).toArray) w:=fun l=>by
     unfold part
     simp only [Sem.run_bind,hag,Result.andThen_ok,if_true,run_size0 hn,foff,hext,Sem.run_pure]
    simp only [Op.eqFields]
    rw [if_pos fname]
    simp only [Sem.run_bind,hp,Result.andThen_ok]
    rw [run_equalIn_struct w (d+1) f.type _ _ (by rw [hfo];exact hu) hc2,hfo,q1]
    cases r1<;>simp
   obtain ⟨r2,q3,q4⟩:=eq_cells2 d fs ks2 (off+ks1.length) _ _ _ _ av au hk2 (part2 ks1.length hx) (part2 ks1.length hy) (at2 _ h1) (at2 _ h2) q2
   exact ⟨_,eqFields_cons q1' q3,q4⟩
theorem bin_int {op:BinOp} {k:IntKind} {x y:Int} {t:TypeId} {K:AVal→Prop} (h:intBin op k x y K): ∃v z,(binOp op t (.int k x) (.int k y)).run P w= .ok v w∧K z∧Rel E fz w z v:=by
 cases op<;>simp only [intBin] at h<;>first | exact h.elim | skip
 case add=>obtain ⟨z,h1,h2⟩:=wMk_rel (E:=E) (fz:=fz) (w:=w) h;exact ⟨_,z,by simp [binOp_add,Op.intArith],h1,h2⟩
 case sub=>obtain ⟨z,h1,h2⟩:=wMk_rel (E:=E) (fz:=fz) (w:=w) h;exact ⟨_,z,by simp [binOp_sub,Op.intArith],h1,h2⟩
 case mul=>obtain ⟨z,h1,h2⟩:=wMk_rel (E:=E) (fz:=fz) (w:=w) h;exact ⟨_,z,by simp [binOp_mul,Op.intArith],h1,h2⟩
 case quo=>obtain ⟨z,h1,h2⟩:=wMk_rel (E:=E) (fz:=fz) (w:=w) h.2;exact ⟨_,z,by simp [binOp_quo,Op.intDiv,h.1],h1,h2⟩
 case rem=>exact ⟨_,_,by simp [binOp_rem,Op.intDiv,h.1];rfl,h.2,by simp [Rel]⟩
 case and=>exact ⟨_,_,by simp [binOp_and,Op.intBits];rfl,h,by simp [Rel]⟩
 case or=>exact ⟨_,_,by simp [binOp_or,Op.intBits];rfl,h,by simp [Rel]⟩
 case xor=>exact ⟨_,_,by simp [binOp_xor,Op.intBits];rfl,h,by simp [Rel]⟩
 case eql=>exact ⟨_,_,by simp [binOp_eql];rfl,h,by simp [Rel,beq_int]⟩
 case neq=>exact ⟨_,_,by simp [binOp_neq];rfl,h,by simp [Rel,bne,beq_int]⟩
 case lss=>exact ⟨.bool (decide (x<y)),_,by rw [binOp_lss];rfl,h,by simp [Rel]⟩
 case leq=>exact ⟨.bool (decide (x≤y)),_,by rw [binOp_leq];rfl,h,by simp [Rel]⟩
 case gtr=>exact ⟨.bool (decide (y<x)),_,by rw [binOp_gtr];rfl,h,by simp [Rel]⟩
 case geq=>exact ⟨.bool (decide (y≤x)),_,by rw [binOp_geq];rfl,h,by simp [Rel]⟩
theorem bin_str {op:BinOp} {x y:List UInt8} {t:TypeId} {K:AVal→Prop} (h:strBin op x y K): ∃v z,(binOp op t (.string ⟨x.toArray⟩) (.string ⟨y.toArray⟩)).run P w= .ok v w∧K z∧Rel E fz w z v:=by
 have hb: ∀op',op'=op→binOp op' t (.string ⟨x.toArray⟩) (.string ⟨y.toArray⟩)=Op.stringOp op' ⟨x.toArray⟩ ⟨y.toArray⟩:=fun op' e=>by
  subst e
  cases op'<;>simp only [strBin] at h<;>first | exact h.elim | rfl
 rw [hb op rfl]
 have hsz: ∀l:List UInt8,(⟨l.toArray⟩:ByteArray).size=l.length:=fun l=>by simp [ByteArray.size]
 cases op<;>simp only [strBin] at h<;>first | exact h.elim | skip
 case add=>
  refine ⟨.string (⟨x.toArray⟩++⟨y.toArray⟩),_,?_,h.2,?_⟩
  ·have h1:=h.1.2
   simp only [Op.stringOp,hsz]
   rw [if_neg (by simp only [IntKind.max_i64];omega)]
   simp
  ·simp only [Rel]
   congr 1
 case eql=>exact ⟨_,_,by simp [Op.stringOp,toList_bytes];rfl,h,by simp [Rel,beq_bytes]⟩
 case neq=>exact ⟨_,_,by simp [Op.stringOp,toList_bytes];rfl,h,by simp [Rel,beq_bytes]⟩
 case lss=>exact ⟨_,_,by simp [Op.stringOp,toList_bytes];rfl,h,by simp [Rel]⟩
 case leq=>exact ⟨_,_,by simp [Op.stringOp,toList_bytes];rfl,h,by simp [Rel,beq_bytes]⟩
 case gtr=>exact ⟨_,_,by simp [Op.stringOp,toList_bytes];rfl,h,by simp [Rel,beq_bytes]⟩
 case geq=>exact ⟨_,_,by simp [Op.stringOp,toList_bytes];rfl,h,by simp [Rel]⟩
theorem equal_eq (t:TypeId) (v u:Value):Op.equal t v u=Op.equalIn (9999+1) t v u:=rfl
theorem bin_eq {op:BinOp} {t:TypeId} {v u:Value} {r:Bool} {K:AVal→Prop} (hb:binOp .eql t v u=(do pure (.bool (←Op.equal t v u)))∧binOp .neq t v u=(do pure (.bool (!(←Op.equal t v u)))))
  (hr:(Op.equal t v u).run P w= .ok r w) (h:eqK op r K): ∃v' z,(binOp op t v u).run P w= .ok v' w∧K z∧Rel E fz w z v':=by
 rcases eqK_rel h with ⟨rfl,hk⟩ | ⟨rfl,hk⟩
 ·exact ⟨.bool r,_,by rw [hb.1];simp [hr],hk,by simp [Rel]⟩
 ·exact ⟨.bool (!r),_,by rw [hb.2];simp [hr],hk,by simp [Rel]⟩
end
section
variable {P : Program}
theorem eqr_pp (w:World) (d:Nat) {t:TypeId} {e:TypeId} (ht:P.underlying t=some (.pointer e)):(Op.equalIn (d+1) t (.pointer none) (.pointer none)).run P w= .ok true w:=by
 simp [Op.equalIn,run_underlying ht]
theorem eqr_pn (w:World) (d:Nat) {t:TypeId} {e:TypeId} {x:Addr} (ht:P.underlying t=some (.pointer e)):(Op.equalIn (d+1) t (.pointer (some x)) (.pointer none)).run P w= .ok false w:=by
 simp [Op.equalIn,run_underlying ht]
theorem eqr_np (w:World) (d:Nat) {t:TypeId} {e:TypeId} {x:Addr} (ht:P.underlying t=some (.pointer e)):(Op.equalIn (d+1) t (.pointer none) (.pointer (some x))).run P w= .ok false w:=by
 simp [Op.equalIn,run_underlying ht]
theorem eqr_ff (w:World) (d:Nat) {t:TypeId} {e1 e2:Array TypeId} {e3:Bool} (ht:P.underlying t=some (.func e1 e2 e3)):(Op.equalIn (d+1) t (.nilFunc) (.nilFunc)).run P w= .ok true w:=by
 simp [Op.equalIn,run_underlying ht]
theorem eqr_fn (w:World) (d:Nat) {t:TypeId} {e1 e2:Array TypeId} {e3:Bool} {f:Fn} {x y:Array Value} (ht:P.underlying t=some (.func e1 e2 e3)):(Op.equalIn (d+1) t (.func f x y) (.nilFunc)).run P w= .ok false w:=by
 simp [Op.equalIn,run_underlying ht]
theorem eqr_mm (w:World) (d:Nat) {t:TypeId} {e1 e2:TypeId} (ht:P.underlying t=some (.map e1 e2)):(Op.equalIn (d+1) t (.map none) (.map none)).run P w= .ok true w:=by
 simp [Op.equalIn,run_underlying ht]
theorem eqr_mn (w:World) (d:Nat) {t:TypeId} {e1 e2:TypeId} {b:Nat} (ht:P.underlying t=some (.map e1 e2)):(Op.equalIn (d+1) t (.map (some b)) (.map none)).run P w= .ok false w:=by
 simp [Op.equalIn,run_underlying ht]
end
section
variable {P : Program} {E : Env} {fz : Nat → Prop} {S : Store} {w : World} {F : Frame} {a : Act} {K : AVal → Store → Prop} {ro : Bool}
theorem eqQ_kind {t:TypeId} {q:EqQ} (hq:eqQ P t=some q):match q with
  | .ptr=> ∃e,P.underlying t=some (.pointer e)
  | .func=> ∃e1 e2 e3,P.underlying t=some (.func e1 e2 e3)
  | .map=> ∃e1 e2,P.underlying t=some (.map e1 e2)
  | _=>True:=by
 unfold eqQ at hq
 split at hq
 case h_4 e hu=>
  split at hq
  ·cases hq;exact ⟨e,hu⟩
  ·cases hq
 case h_5 fs hu=>
  split at hq
  ·split at hq
   ·cases hq;trivial
   ·cases hq
  ·cases hq
 case h_6 e1 e2 e3 hu=>cases hq;exact ⟨e1,e2,e3,hu⟩
 case h_7 e1 e2 hu=>cases hq;exact ⟨e1,e2,hu⟩
 all_goals cases hq
 all_goals trivial
theorem bin_sound (st:St E fz S w) (hF:RelF E fz w F a.tmps) {o:Oper} {op:BinOp} {t u:TypeId} {x y:Operand} {rx ry:Rand} {q:EqQ} (ho:o.op= .binOp op t x y u) (hq:eqQ P t=some q) (hx:cRand x=some rx) (hy:cRand y=some ry)
  (h:vcOp P F S K (.bin q op rx ry)):RunsTo P ((execOp a.eval o).run P w) (Post K E fz S w):=by
 have h1:=eval_rel hF hx
 have h2:=eval_rel hF hy
 simp only [vcOp,rdK_iff] at h
 generalize rd F rx=X at*
 generalize rd F ry=Y at*
 have fin: ∀ {v z},(eqGuard op t x y (a.eval x) (a.eval y)).run P w= .ok () w→(binOp op t (a.eval x) (a.eval y)).run P w= .ok v w→K z S→Rel E fz w z v→RunsTo P ((execOp a.eval o).run P w) (Post K E fz S w):=fun {v z} hg hr hk hrel=>
  runs_pure st (by simp [execOp,ho,hg,hr]) hk hrel
 have guard: ∀ {v u:Value},a.eval x=v→a.eval y=u→(∀d,v≠ .nilIface∧v≠ .agg d)→(eqGuard op t x y (a.eval x) (a.eval y)).run P w= .ok () w:=fun {v u} e1 e2 hne=>by
  rw [e1,e2]
  have:eqGuard op t x y v u=pure ():=by
   cases v<;>first | (cases op<;>rfl) | exact ((hne #[]).1 rfl).elim | (rename_i cs;exact ((hne cs).2 rfl).elim)
  rw [this];exact Sem.run_pure P w ()
 cases X<;>cases Y<;>simp only [vcBin] at h<;>first | exact h.elim | skip
 case int.int k n k' m=>
  simp only [Rel] at h1 h2
  have hg:=guard h1 h2 (fun d=>⟨by simp,by simp⟩)
  rw [h1,h2] at fin hg
  have shl:op= .shl→ ∃v z,(binOp op t (.int k n) (.int k' m)).run P w= .ok v w∧K z S∧Rel E fz w z v:=fun e=>by
   subst e
   simp only at h
   obtain ⟨z,g1,g2⟩:=wMk_rel (E:=E) (fz:=fz) (w:=w) h.2
   exact ⟨_,z,by rw [binOp_shl];simp [Op.shift,Int.not_lt.2 h.1],g1,g2⟩
  have shr:op= .shr→ ∃v z,(binOp op t (.int k n) (.int k' m)).run P w= .ok v w∧K z S∧Rel E fz w z v:=fun e=>by
   subst e
   simp only at h
   exact ⟨_,_,by rw [binOp_shr];simp [Op.shift,Int.not_lt.2 h.1];rfl,h.2,by simp [Rel]⟩
  have rest:op≠ .shl→op≠ .shr→ ∃v z,(binOp op t (.int k n) (.int k' m)).run P w= .ok v w∧K z S∧Rel E fz w z v:=fun e1 e2=>by
   have h':k=k'∧intBin op k n m fun r=>K r S:=by cases op<;>first | exact h | exact (e1 rfl).elim | exact (e2 rfl).elim
   obtain ⟨rfl,h'⟩:=h'
   exact bin_int h'
  by_cases e1:op= .shl
  ·obtain ⟨v,z,g1,g2,g3⟩:=shl e1;exact fin hg g1 g2 g3
  ·by_cases e2:op= .shr
   ·obtain ⟨v,z,g1,g2,g3⟩:=shr e2;exact fin hg g1 g2 g3
   ·obtain ⟨v,z,g1,g2,g3⟩:=rest e1 e2;exact fin hg g1 g2 g3
 case str.str n m=>
  simp only [Rel] at h1 h2
  have hg:=guard h1 h2 (fun d=>⟨by simp,by simp⟩)
  obtain ⟨v,z,g1,g2,g3⟩:=bin_str (P:=P) (E:=E) (fz:=fz) (w:=w) (t:=t) h
  exact fin hg (by rw [h1,h2];exact g1) g2 g3
 case bool.bool n m=>
  simp only [Rel] at h1 h2
  have hg:=guard h1 h2 (fun d=>⟨by simp,by simp⟩)
  cases q<;>simp only at h
  have ht:P.underlying t=some .bool:=by
   unfold eqQ at hq
   split at hq<;>first | assumption | (cases hq;done) | skip
   all_goals (split at hq<;>first | (cases hq;done) | (split at hq<;>cases hq))
  obtain ⟨v,z,g1,g2,g3⟩:=bin_eq (P:=P) (E:=E) (fz:=fz) (w:=w) (t:=t) (v:= .bool n) (u:= .bool m) (r:=n == m) ⟨rfl,rfl⟩ (by rw [equal_eq,run_equalIn_bool' w _ t n m ht]) (K:=fun r=>K r S) (by rw [beq_bool];exact h)
  exact fin hg (by rw [h1,h2];exact g1) g2 g3
 case agg.agg xs ys=>
  simp only [Rel] at h1 h2
  obtain ⟨vs,e1,hl1,_⟩:=h1
  obtain ⟨us,e2,hl2,_⟩:=h2
  cases q<;>simp only at h
  rename_i ks
  have ht: ∃fs:Array Field,P.underlying t=some (.struct fs)∧flatFields2 P 0 fs.toList=some ks∧P.stoodInHeld t=false∧P.eqGuardType P.depth t=false:=by
   unfold eqQ at hq
   split at hq
   case h_5 fs hu=>
    split at hq
    ·rename_i ks' hk
     split at hq
     ·rename_i hc
      cases hq
      simp only [Bool.and_eq_true,Bool.not_eq_true'] at hc
      exact ⟨fs,hu,hk,hc.1,hc.2⟩
     ·cases hq
    ·cases hq
   all_goals first | (cases hq;done) | (split at hq<;>cases hq)
  obtain ⟨fs,hu,hk,hp,hm⟩:=ht
  have hfo:P.fieldsOf t=fs:=by simp [Program.fieldsOf,hu]
  have key: ∃r,(Op.equal t (.agg vs.toArray) (.agg us.toArray)).run P w= .ok r w∧eqK op r fun r=>K r S:=by
   obtain ⟨r,q1,q2⟩:=eq_cells2 (P:=P) (E:=E) (fz:=fz) (w:=w) 9997 fs.toList ks 0 xs ys vs us vs us hk hl1 hl2 (fun i v h=>by simpa using h) (fun i v h=>by simpa using h) h
   refine ⟨r,?_,q2⟩
   rw [equal_eq,run_equalIn_struct w 9999 t _ _ (by rw [hfo];exact hu) hp,hfo]
   exact q1
  obtain ⟨r,q1,q2⟩:=key
  obtain ⟨v,z,g1,g2,g3⟩:=bin_eq (P:=P) (E:=E) (fz:=fz) (w:=w) (t:=t) ⟨rfl,rfl⟩ q1 q2
  exact fin (by rw [e1,e2];exact run_eqGuard_agg w op t x y _ _ hm) (by rw [e1,e2];exact g1) g2 g3
 case nilp.nilp=>
  cases q<;>simp only at h
  obtain ⟨e,ht⟩:=eqQ_kind hq
  simp only [Rel] at h1 h2
  obtain ⟨v,z,g1,g2,g3⟩:=bin_eq (P:=P) (E:=E) (fz:=fz) (w:=w) (t:=t) (v:= .pointer none) (u:= .pointer none) ⟨rfl,rfl⟩ (by rw [equal_eq];exact eqr_pp w 9999 ht) h
  exact fin (guard h1 h2 (fun d=>⟨by simp,by simp⟩)) (by rw [h1,h2];exact g1) g2 g3
 case ptr.nilp=>
  cases q<;>simp only at h
  obtain ⟨e,ht⟩:=eqQ_kind hq
  simp only [Rel] at h1 h2
  obtain ⟨b,base,cap,k,_,h1⟩:=h1
  obtain ⟨v,z,g1,g2,g3⟩:=bin_eq (P:=P) (E:=E) (fz:=fz) (w:=w) (t:=t) (v:= .pointer (some ⟨b,_,none⟩)) (u:= .pointer none) ⟨rfl,rfl⟩ (by rw [equal_eq];exact eqr_pn w 9999 ht) h
  exact fin (guard h1 h2 (fun d=>⟨by simp,by simp⟩)) (by rw [h1,h2];exact g1) g2 g3
 case nilp.ptr=>
  cases q<;>simp only at h
  obtain ⟨e,ht⟩:=eqQ_kind hq
  simp only [Rel] at h1 h2
  obtain ⟨b,base,cap,k,_,h2⟩:=h2
  obtain ⟨v,z,g1,g2,g3⟩:=bin_eq (P:=P) (E:=E) (fz:=fz) (w:=w) (t:=t) (v:= .pointer none) (u:= .pointer (some ⟨b,_,none⟩)) ⟨rfl,rfl⟩ (by rw [equal_eq];exact eqr_np w 9999 ht) h
  exact fin (guard h1 h2 (fun d=>⟨by simp,by simp⟩)) (by rw [h1,h2];exact g1) g2 g3
 case rop.nilp=>
  cases q<;>simp only at h
  obtain ⟨e,ht⟩:=eqQ_kind hq
  simp only [Rel] at h1 h2
  obtain ⟨b,off,_,h1,_⟩:=h1
  obtain ⟨v,z,g1,g2,g3⟩:=bin_eq (P:=P) (E:=E) (fz:=fz) (w:=w) (t:=t) (v:= .pointer (some ⟨b,off,none⟩)) (u:= .pointer none) ⟨rfl,rfl⟩ (by rw [equal_eq];exact eqr_pn w 9999 ht) h
  exact fin (guard h1 h2 (fun d=>⟨by simp,by simp⟩)) (by rw [h1,h2];exact g1) g2 g3
 case nilp.rop=>
  cases q<;>simp only at h
  obtain ⟨e,ht⟩:=eqQ_kind hq
  simp only [Rel] at h1 h2
  obtain ⟨b,off,_,h2,_⟩:=h2
  obtain ⟨v,z,g1,g2,g3⟩:=bin_eq (P:=P) (E:=E) (fz:=fz) (w:=w) (t:=t) (v:= .pointer none) (u:= .pointer (some ⟨b,off,none⟩)) ⟨rfl,rfl⟩ (by rw [equal_eq];exact eqr_np w 9999 ht) h
  exact fin (guard h1 h2 (fun d=>⟨by simp,by simp⟩)) (by rw [h1,h2];exact g1) g2 g3
 case nilf.nilf=>
  cases q<;>simp only at h
  obtain ⟨e,e2,e3,ht⟩:=eqQ_kind hq
  simp only [Rel] at h1 h2
  obtain ⟨v,z,g1,g2,g3⟩:=bin_eq (P:=P) (E:=E) (fz:=fz) (w:=w) (t:=t) (v:= .nilFunc) (u:= .nilFunc) ⟨rfl,rfl⟩ (by rw [equal_eq];exact eqr_ff w 9999 ht) h
  exact fin (guard h1 h2 (fun d=>⟨by simp,by simp⟩)) (by rw [h1,h2];exact g1) g2 g3
 case fn.nilf f0 _ _=>
  cases q<;>simp only at h
  obtain ⟨e,e2,e3,ht⟩:=eqQ_kind hq
  simp only [Rel] at h1 h2
  obtain ⟨vs,us,h1,_,_⟩:=h1
  obtain ⟨v,z,g1,g2,g3⟩:=bin_eq (P:=P) (E:=E) (fz:=fz) (w:=w) (t:=t) (v:= .func f0 vs.toArray us.toArray) (u:= .nilFunc) ⟨rfl,rfl⟩ (by rw [equal_eq];exact eqr_fn w 9999 ht) h
  exact fin (guard h1 h2 (fun d=>⟨by simp,by simp⟩)) (by rw [h1,h2];exact g1) g2 g3
 case nilm.nilm=>
  cases q<;>simp only at h
  obtain ⟨e,e2,ht⟩:=eqQ_kind hq
  simp only [Rel] at h1 h2
  obtain ⟨v,z,g1,g2,g3⟩:=bin_eq (P:=P) (E:=E) (fz:=fz) (w:=w) (t:=t) (v:= .map none) (u:= .map none) ⟨rfl,rfl⟩ (by rw [equal_eq];exact eqr_mm w 9999 ht) h
  exact fin (guard h1 h2 (fun d=>⟨by simp,by simp⟩)) (by rw [h1,h2];exact g1) g2 g3
 case map.nilm=>
  cases q<;>simp only at h
  obtain ⟨e,e2,ht⟩:=eqQ_kind hq
  simp only [Rel] at h1 h2
  obtain ⟨b,_,h1⟩:=h1
  obtain ⟨v,z,g1,g2,g3⟩:=bin_eq (P:=P) (E:=E) (fz:=fz) (w:=w) (t:=t) (v:= .map (some b)) (u:= .map none) ⟨rfl,rfl⟩ (by rw [equal_eq];exact eqr_mn w 9999 ht) h
  exact fin (guard h1 h2 (fun d=>⟨by simp,by simp⟩)) (by rw [h1,h2];exact g1) g2 g3
end
end Go.Vc
end
section
namespace Go.Vc
section
variable {P : Program} {E : Env} {fz : Nat → Prop} {S : Store} {w : World} {F : Frame} {a : Act} {K : AVal → Store → Prop} {ro : Bool}
theorem runs_of (st:St E fz S w) {o:Oper} {v:Value} {w':World} (h:(execOp a.eval o).run P w= .ok (.value v) w') (hp:Post K E fz S w v w'):
  RunsTo P ((execOp a.eval o).run P w) (Post K E fz S w):=by rw [h];exact hp
theorem run_info {t:TypeId} {i:TypeInfo} (h:P.info? t=some i) (w:World):(typeInfo t).run P w= .ok i w:=by
 simp [typeInfo,h]
theorem run_size {t:TypeId} {n:Nat} (h:tSize P t=some n) (w:World):(sizeOf t).run P w= .ok n w:=by
 unfold tSize at h
 split at h
 ·rename_i i hi;cases h;simp [sizeOf,run_info hi]
 ·cases h
theorem run_zero {t:TypeId} {z:List AVal} (h:tZero P t=some z) (w:World): ∃v:Value,(zeroValue t).run P w= .ok v w∧(∀E fz w,RelL E fz w z v.cells.toList)∧ ∀c∈v.cells.toList,c.oneCell'=true:=by
 unfold tZero at h
 split at h
 ·rename_i i hi
  split at h
  ·rename_i v hv
   exact ⟨v,by simp [zeroValue,run_info hi,hv],fun E fz w=>(absL_rel h).1,(absL_rel (E:=fun _=>none) (fz:=fun _=>False) (w:=w) h).2⟩
  ·cases h
 ·cases h
theorem run_isAgg {t:TypeId} {u:TypeDesc} (h:P.underlying t=some u) (w:World):(isAgg t).run P w= .ok (isAggD u) w:=by
 simp only [isAgg,Sem.run_bind,run_underlying h,Result.andThen_ok]
 cases u<;>rfl
theorem newVar_post (st:St E fz S w) {cs:List AVal} {v:Value} {T:TypeId} {k:Nat} (hr:RelL E fz w cs v.cells.toList) (h1: ∀c∈v.cells.toList,c.oneCell'=true)
  (h: ∀ver,K (.ptr S.length ver 0) (S++[.row ver k cs])):Post K E fz S w (.pointer (some ⟨w.heap.size,0,none⟩)) (w.alloc (.cells v.cells T)):=by
 obtain ⟨ver,E',g1,g2,g3⟩:=new_row (w':=w.alloc (.cells v.cells T)) st (rest:=[]) (T:=T) k hr h1 (by rw [List.append_nil];rfl) rfl rfl (Tp.of rfl (Nat.le_refl _))
 refine ⟨.ptr S.length ver 0,_,E',fz,h ver,g3,g2,?_⟩
 simp only [Rel]
 exact ⟨_,_,_,_,g1,rfl⟩
theorem alloc_sound (st:St E fz S w) {o:Oper} {t:TypeId} {z:List AVal} {k:Nat} (ho:o.op= .alloc t) (hz:tZero P t=some z)
  (h:vcOp P F S K (.alloc k z)):RunsTo P ((execOp a.eval o).run P w) (Post K E fz S w):=by
 simp only [vcOp,wPush_iff] at h
 obtain ⟨v,g1,g2,g3⟩:=run_zero hz w
 exact runs_of st (by simp [execOp,ho,Instr.alloc,g1,newVar,newRow];rfl) (newVar_post st (g2 E fz w) g3 h)
theorem box_sound (st:St E fz S w) (hF:RelF E fz w F a.tmps) {o:Oper} {t:TypeId} {x:Operand} {r:Rand} {k:Nat} (ho:o.op= .box t x) (hx:cRand x=some r)
  (h:vcOp P F S K (.box k r)):RunsTo P ((execOp a.eval o).run P w) (Post K E fz S w):=by
 simp only [vcOp,rdK_iff,wPush_iff] at h
 obtain ⟨cs,h1,h2,h3⟩:=wCells_rel h (eval_rel hF hx)
 exact runs_of st (by simp [execOp,ho,Instr.box,newVar,newRow];rfl) (newVar_post st h2 h3 h1)
theorem wLoad_rel (st:St E fz S w) {n:Nat} {ag:Bool} {x:AVal} {v:Value} {Q:AVal→Prop} (h:wLoad S n ag x Q) (hr:Rel E fz w x v):
  ∃b off,v= .pointer (some ⟨b,off,none⟩)∧ ∃(xs:List AVal) (vs:List Value),xs.length=n∧RelL E fz w xs vs∧(∀c∈vs,c.oneCell'=true)∧
   (loadCells ⟨b,off,none⟩ n).run P w= .ok vs.toArray w∧(∀(j:Nat) v,vs[j]?=some v→w.cell? ⟨b,off+j,none⟩=some v)∧mkVK ag xs Q:=by
 have fin: ∀ {b off:Nat} {cs xs:List AVal},RelC E fz w b off cs→takeN n cs=some xs→mkVK ag xs Q→ ∃(xs:List AVal) (vs:List Value),xs.length=n∧RelL E fz w xs vs∧(∀c∈vs,c.oneCell'=true)∧
   (loadCells ⟨b,off,none⟩ n).run P w= .ok vs.toArray w∧(∀(j:Nat) v,vs[j]?=some v→w.cell? ⟨b,off+j,none⟩=some v)∧mkVK ag xs Q:=fun {b off cs xs} hc ht hk=>by
  obtain ⟨e,hl⟩:=takeN_eq ht
  have hlen:xs.length=n:=by rw [e];simp;omega
  have hc':RelC E fz w b off xs:=e▸hc.take n
  obtain ⟨vs,g1,g2,g3,g4⟩:=run_load_cells (P:=P) hc'
  rw [hlen] at g3
  exact ⟨xs,vs,hlen,g1,g2,g3,g4,hk⟩
 cases x<;>simp only [wLoad] at h
 case ptr l ver off=>
  obtain ⟨k,cs,hl,h⟩:=wRow_iff.1 h
  have h': ∃xs,takeN n (cs.drop off)=some xs∧mkVK ag xs Q:=by
   cases k with
   | zero=>simpa only [dropK_iff,takeK_iff] using h
   | succ k=>exact h
  obtain ⟨xs,ht,hk⟩:=h'
  simp only [Rel] at hr
  obtain ⟨b,base,cap,kk,hE,rfl⟩:=hr
  refine ⟨b,base+off,rfl,?_⟩
  rcases st.ok l _ hl with ⟨g1,g2⟩ | ⟨b',base',cap',arr,T,lo,hi,g1,g2,g3,g4,g5,g6,g7⟩
  ·rw [hE] at g1;cases g1
  ·rw [hE] at g1;cases g1
   exact fin (g6.drop off) ht hk
 case rop cs=>
  simp only [takeK_iff] at h
  obtain ⟨xs,ht,hk⟩:=h
  simp only [Rel] at hr
  obtain ⟨b,off,_,rfl,hc⟩:=hr
  exact ⟨b,off,rfl,fin hc ht hk⟩
theorem load_sound (st:St E fz S w) (hF:RelF E fz w F a.tmps) {o:Oper} {t:TypeId} {x:Operand} {r:Rand} {i:TypeInfo} {u:TypeDesc} (ho:o.op= .load t x) (hi:P.info? t=some i) (hu:P.underlying t=some u) (hx:cRand x=some r)
  (h:vcOp P F S K (if isAggD u then .load i.size true r else .load 1 false r)):RunsTo P ((execOp a.eval o).run P w) (Post K E fz S w):=by
 have hr:=eval_rel hF hx
 cases hag:isAggD u
 ·rw [hag] at h
  simp only [Bool.false_eq_true,if_false,vcOp,rdK_iff] at h
  obtain ⟨b,off,e,xs,vs,g1,g2,g3,g4,g5,hk⟩:=wLoad_rel (P:=P) st h hr
  rcases mkVK_iff.1 hk with ⟨h0,_⟩ | ⟨_,y,rfl,hk⟩
  ·cases h0
  ·simp only [RelL] at g2
   obtain ⟨v,us,rfl,hv,rfl⟩:=g2
   have hc:=g5 0 v rfl
   refine runs_pure st (v:=v) ?_ hk hv
   simp [execOp,ho,e,Instr.loadAt,Instr.sureAddr,loadVar,run_isAgg hu,hag,hc]
   simpa using hc▸rfl
 ·rw [hag] at h
  simp only [if_true,vcOp,rdK_iff] at h
  obtain ⟨b,off,e,xs,vs,g1,g2,g3,g4,g5,hk⟩:=wLoad_rel (P:=P) st h hr
  rcases mkVK_iff.1 hk with ⟨_,hk⟩ | ⟨h0,_⟩
  ·refine runs_pure st (v:= .agg vs.toArray) ?_ hk ?_
   ·simp [execOp,ho,e,Instr.loadAt,Instr.sureAddr,loadVar,run_isAgg hu,hag,sizeOf,run_info hi,g4]
   ·simp only [Rel];exact ⟨vs,rfl,g2,g3⟩
  ·cases h0
theorem store_sound (st:St E fz S w) (hF:RelF E fz w F a.tmps) {o:Oper} {t:TypeId} {x y:Operand} {rx ry:Rand} {n:Nat} (ho:o.op= .store t x y) (hn:tSize P t=some n) (h0:n≠0) (hx:cRand x=some rx) (hy:cRand y=some ry)
  (h:vcOp P F S K (.store n rx ry)):RunsTo P ((execOp a.eval o).run P w) (Post K E fz S w):=by
 have hr1:=eval_rel hF hx
 have hr2:=eval_rel hF hy
 simp only [vcOp,rdK_iff] at h
 generalize rd F rx=X at*
 cases X<;>first | exact h.elim | skip
 case ptr l ver off=>
  simp only at h
  obtain ⟨k,cs,hl,h⟩:=wRow_iff.1 h
  obtain ⟨ys,⟨hlen,hfit,hk⟩,hys,hone⟩:=wCells_rel h hr2
  simp only [setRowK_iff,wSet_iff] at hk
  simp only [Rel] at hr1
  obtain ⟨b,base,cap,kk,hE,e⟩:=hr1
  obtain ⟨w',q1,q2,q3⟩:=put_cells (P:=P) (off:=off) st hl (by omega) (fun e=>by subst e;simp at hlen;omega) hys hone hE
  have hsz:(a.eval y).cells.size=n:=by have:=hys.length;simp at this;omega
  have hrun:(execOp a.eval o).run P w= .ok .skip w':=by
   simp [execOp,ho,e,Instr.storeAt,Instr.sureAddr,storeVar,run_size hn,hsz,q1]
  rw [hrun]
  exact ⟨.junk,_,E,fz,hk.2,q3,q2,by simp [Rel]⟩
theorem faddr_sound (st:St E fz S w) (hF:RelF E fz w F a.tmps) {o:Oper} {s:TypeId} {x:Operand} {r:Rand} {f n:Nat} {fs:Array Field} {fd:Field} (ho:o.op= .fieldAddr s x f) (hs:P.underlying s=some (.struct fs)) (hf:fs[f]?=some fd) (hn:tSize P fd.type=some (n+1)) (hx:cRand x=some r)
  (h:vcOp P F S K (.faddr fd.offset r)):RunsTo P ((execOp a.eval o).run P w) (Post K E fz S w):=by
 have hr:=eval_rel hF hx
 simp only [vcOp,rdK_iff] at h
 generalize rd F r=X at*
 have go: ∀ {b off:Nat} {y:AVal},a.eval x= .pointer (some ⟨b,off,none⟩)→K y S→Rel E fz w y (.pointer (some ⟨b,off+fd.offset,none⟩))→RunsTo P ((execOp a.eval o).run P w) (Post K E fz S w):=fun {b off y} e hk hrel=>by
  refine runs_pure st ?_ hk hrel
  simp [execOp,ho,Instr.fieldAt,run_underlying hs,hf,e,Instr.sureAddr,fieldPlace,run_size hn,add_mk]
 cases X<;>first | exact h.elim | skip
 case ptr l ver off=>
  simp only [Rel] at hr
  obtain ⟨b,base,cap,k,hE,e⟩:=hr
  exact go e h (by simp only [Rel];exact ⟨b,base,cap,k,hE,by rw [Nat.add_assoc]⟩)
 case rop cs=>
  simp only [dropK_iff] at h
  simp only [Rel] at hr
  obtain ⟨b,off,hb,e,hc⟩:=hr
  exact go e h (by simp only [Rel];exact ⟨b,off+fd.offset,hb,rfl,hc.drop _⟩)
theorem field_sound (st:St E fz S w) (hF:RelF E fz w F a.tmps) {o:Oper} {s:TypeId} {x:Operand} {r:Rand} {f n:Nat} {fs:Array Field} {fd:Field} {u:TypeDesc} (ho:o.op= .field s x f) (hs:P.underlying s=some (.struct fs)) (hf:fs[f]?=some fd) (hu:P.underlying fd.type=some u) (hn:tSize P fd.type=some n) (hx:cRand x=some r)
  (h:vcOp P F S K (if isAggD u then .field fd.offset n true r else .field fd.offset 1 false r)):RunsTo P ((execOp a.eval o).run P w) (Post K E fz S w):=by
 have hr:=eval_rel hF hx
 cases hag:isAggD u
 ·rw [hag] at h
  simp only [Bool.false_eq_true,if_false,vcOp,rdK_iff] at h
  generalize rd F r=X at*
  cases X<;>first | exact h.elim | skip
  simp only [dropK_iff,takeK_iff] at h
  obtain ⟨xs,ht,hk⟩:=h
  rcases mkVK_iff.1 hk with ⟨h0,_⟩ | ⟨_,y,rfl,hk⟩
  ·cases h0
  ·simp only [Rel] at hr
   obtain ⟨vs,e,hl,hone⟩:=hr
   obtain ⟨e2,hle⟩:=takeN_eq ht
   rename_i cs _ _
   have hy:cs[fd.offset]?=some y:=by
    have:=congrArg (·[0]?) e2
    simp [List.getElem?_take,List.getElem?_drop] at this
    exact this.symm
   obtain ⟨v,hv,hrel⟩:=hl.get hy
   exact runs_pure st (by simp [execOp,ho,Instr.field,run_underlying hs,hf,e,asAgg,part,run_isAgg hu,hag,hv]) hk hrel
 ·rw [hag] at h
  simp only [if_true,vcOp,rdK_iff] at h
  generalize rd F r=X at*
  cases X<;>first | exact h.elim | skip
  simp only [dropK_iff,takeK_iff] at h
  obtain ⟨xs,ht,hk⟩:=h
  rcases mkVK_iff.1 hk with ⟨_,hk⟩ | ⟨h0,_⟩
  ·simp only [Rel] at hr
   obtain ⟨vs,e,hl,hone⟩:=hr
   obtain ⟨e2,hle⟩:=takeN_eq ht
   refine runs_pure st (v:= .agg ((vs.drop fd.offset).take n).toArray) ?_ hk ?_
   ·simp [execOp,ho,Instr.field,run_underlying hs,hf,e,asAgg,part,run_isAgg hu,hag,run_size hn]
   ·simp only [Rel]
    exact ⟨_,rfl,e2▸(hl.drop _).take _,fun c hc=>hone c (List.mem_of_mem_drop (List.mem_of_mem_take hc))⟩
  ·cases h0
end
end Go.Vc
end
section
namespace Go.Vc
def LeV (x y:AVal):Prop:= ∀E fz w v,Rel E fz w x v→Rel E fz w y v
inductive LeL:List AVal→List AVal→Prop
 | nil:LeL [] []
 | cons {x y:AVal} {xs ys:List AVal} (h:LeV x y) (hs:LeL xs ys):LeL (x::xs) (y::ys)
inductive LeO:Ob→Ob→Prop
 | refl (o:Ob):LeO o o
 | dead (o:Ob):LeO o .dead
 | row {v k:Nat} {cs ds:List AVal} (h:LeL cs ds):LeO (.row v k cs) (.row v k ds)
 | trunc {v k:Nat} {cs:List AVal} (n:Nat):LeO (.row v k cs) (.row v k (cs.take n))
theorem LeV.refl (x:AVal):LeV x x:=fun _ _ _ _ h=>h
theorem LeV.sl {l l' v o n:Nat}:LeV (.sl l v o n) (.sl l' v o n):=fun _ _ _ _ h=>by simpa [Rel] using h
theorem LeV.ptr {l l' v o:Nat}:LeV (.ptr l v o) (.ptr l' v o):=fun _ _ _ _ h=>by simpa [Rel] using h
theorem LeV.map {l l' v:Nat}:LeV (.map l v) (.map l' v):=fun _ _ _ _ h=>by simpa [Rel] using h
theorem LeV.junk {x:AVal}:LeV x .junk:=fun _ _ _ _ h=>by simp [Rel]
theorem LeL.refl: ∀(xs:List AVal),LeL xs xs
 | []=>.nil
 | x::xs=>.cons (.refl x) (LeL.refl xs)
theorem LeL.rel {xs ys:List AVal} (h:LeL xs ys) {E:Env} {fz:Nat→Prop} {w:World} {vs:List Value} (hr:RelL E fz w xs vs):RelL E fz w ys vs:=by
 induction h generalizing vs with
 | nil=>exact hr
 | cons h _ ih=>
  simp only [RelL] at*
  obtain ⟨v,us,rfl,h1,h2⟩:=hr
  exact ⟨v,us,rfl,h _ _ _ _ h1,ih h2⟩
theorem LeL.relC {xs ys:List AVal} (h:LeL xs ys) {E:Env} {fz:Nat→Prop} {w:World} {b off:Nat} (hr:RelC E fz w b off xs):RelC E fz w b off ys:=by
 induction h generalizing off with
 | nil=>exact hr
 | cons h _ ih=>
  simp only [RelC] at*
  obtain ⟨⟨c,h1,h2,h3⟩,h4⟩:=hr
  exact ⟨⟨c,h1,h2,h _ _ _ _ h3⟩,ih h4⟩
theorem LeL.length {xs ys:List AVal} (h:LeL xs ys):ys.length=xs.length:=by
 induction h with
 | nil=>rfl
 | cons _ _ ih=>simp [ih]
theorem LeV.agg {xs ys:List AVal} (h:LeL xs ys):LeV (.agg xs) (.agg ys):=fun _ _ _ _ hr=>by
 simp only [Rel] at*
 obtain ⟨vs,h1,h2,h3⟩:=hr
 exact ⟨vs,h1,h.rel h2,h3⟩
theorem LeV.tup {xs ys:List AVal} (h:LeL xs ys):LeV (.tup xs) (.tup ys):=fun _ _ _ _ hr=>by
 simp only [Rel] at*
 obtain ⟨vs,h1,h2⟩:=hr
 exact ⟨vs,h1,h.rel h2⟩
theorem LeO.ok {o o':Ob} (h:LeO o o') {E:Env} {fz:Nat→Prop} {w:World} (hr:ObOk E fz w o):ObOk E fz w o':=by
 cases h with
 | refl=>exact hr
 | dead=>trivial
 | row h=>
  rcases hr with ⟨h1,h0⟩ | ⟨b,base,cap,arr,T,lo,hi,h1,h2,h3,h4,h5,h6,h7⟩
  ·exact .inl ⟨h1,by have:=h.length;subst h0;exact List.length_eq_zero_iff.1 this⟩
  ·exact .inr ⟨b,base,cap,arr,T,lo,hi,h1,h2,h3,by rw [h.length];exact h4,h5,h.relC h6,h7⟩
 | trunc n=>
  rcases hr with ⟨h1,h0⟩ | ⟨b,base,cap,arr,T,lo,hi,h1,h2,h3,h4,h5,h6,h7⟩
  ·exact .inl ⟨h1,by subst h0;simp⟩
  ·exact .inr ⟨b,base,cap,arr,T,lo,hi,h1,h2,h3,by simp only [List.length_take];omega,h5,h6.take n,h7⟩
theorem LeO.block {o o':Ob} (h:LeO o o') {E:Env} {b:Nat} (hb:obBlock E o'=some b):obBlock E o=some b:=by
 cases h with
 | refl=>exact hb
 | dead=>simp [obBlock] at hb
 | row h=>exact hb
 | trunc n=>exact hb
structure Sub (φ:Nat→Nat) (S' S:Store):Prop where
 inj: ∀l l',l<S'.length→l'<S'.length→φ l=φ l'→l=l'
 at_: ∀(l:Nat) o,S'[l]?=some o→ ∃o0,S[φ l]?=some o0∧LeO o0 o
theorem Sub.own {φ:Nat→Nat} {S' S:Store} (h:Sub φ S' S) {E:Env} {l b:Nat} (ho:OwnAt E S' l b):OwnAt E S (φ l) b∧l<S'.length:=by
 obtain ⟨o,h1,h2⟩:=ho
 obtain ⟨o0,g1,g2⟩:=h.at_ l o h1
 exact ⟨⟨o0,g1,g2.block h2⟩,(List.getElem?_eq_some_iff.1 h1).1⟩
theorem Sub.nil {φ:Nat→Nat} {S:Store}:Sub φ [] S:=⟨fun l l' h=>absurd h (Nat.not_lt_zero _),fun l o h=>by simp at h⟩
theorem Sub.refl {S:Store}:Sub id S S:=⟨fun l l' _ _ h=>h,fun l o h=>⟨o,h,.refl o⟩⟩
section
variable {P : Program} {f : FuncId} {args : List AVal}
theorem St.choose {E:Env} {fz:Nat→Prop} {S S':Store} {w:World} {φ:Nat→Nat} (st:St E fz S w) (h:Sub φ S' S):St E fz S' w where
 ok l o hl:=by
  obtain ⟨o0,g1,g2⟩:=h.at_ l o hl
  exact g2.ok (st.ok _ _ g1)
 sep l l' b h1 h2:=by
  obtain ⟨g1,i1⟩:=h.own h1
  obtain ⟨g2,i2⟩:=h.own h2
  exact h.inj l l' i1 i2 (st.sep _ _ _ g1 g2)
 fzlt:=st.fzlt
 fresh:=st.fresh
theorem ACalls.weak {S:Store} {R K:AVal→Store→Prop} (h:ACalls P f args S R)
  (hK: ∀r S',R r S'→ ∃r' φ S'',LeV r r'∧Sub φ S'' S'∧K r' S''):ACalls P f args S K:=by
 refine ⟨fun E fz w vals st hrel=>(h.out E fz w vals st hrel).mono fun e w' ⟨r,S',v,E',fz',h1,h2,h3,h4,h5⟩=>?_⟩
 ·obtain ⟨r',φ,S'',g1,g2,g3⟩:=hK r S' h5
  exact ⟨r',S'',v,E',fz',h1,⟨h2.env,h2.frz,h2.fznew,h2.keep,fun b ⟨l,hb⟩=>h2.own b ⟨_,(g2.own hb).1⟩,h2.size,h2.os,h2.output,h2.tape⟩,h3.choose g2,g1 _ _ _ _ h4,g3⟩
theorem ACalls.frame0 {S:Store} {R K:AVal→Store→Prop} (h:ACalls P f args [] R)
  (hK: ∀r S',R r S'→ ∃r' φ S'',LeV r r'∧Sub φ S'' S'∧K r' (S++S'')):ACalls P f args S K:=by
 refine ⟨fun E fz w vals st hrel=>?_⟩
 have st0:St E fz [] w:=⟨fun l o h=>by simp at h,fun l l' b ⟨o,h,_⟩=>by simp at h,st.fzlt,st.fresh⟩
 have no: ∀b,¬Own E [] b:=fun b ⟨l,o,h,_⟩=>by simp at h
 refine (h.out E fz w vals st0 hrel).mono fun e w' ⟨r,S',v,E',fz',h1,h2,h3,h4,h5⟩=>?_
 obtain ⟨r',φ,S'',g1,g2,g3⟩:=hK r S' h5
 have st2:=h3.choose g2
 have kp: ∀l b,OwnAt E S l b→w'.heap[b]?=w.heap[b]?∧ ¬fz' b:=fun l b ho=>by
  have hlt:=st.own_lt ho
  refine ⟨h2.keep b hlt.1 (no b),fun hf=>?_⟩
  rcases h2.fznew b hf with q | q | q
  ·exact hlt.2 q
  ·exact no b q
  ·omega
 have fk: ∀b,fz b→w'.heap[b]?=w.heap[b]?:=fun b hb=>h2.keep b (st.fzlt b hb) (no b)
 have new: ∀l b,OwnAt E' S'' l b→w.heap.size≤b:=fun l b ho=>by
  rcases h2.own b ⟨_,(g2.own ho).1⟩ with q | q
  ·exact absurd q (no b)
  ·exact q
 have split: ∀l b,OwnAt E' (S++S'') l b→(l<S.length∧OwnAt E S l b)∨(S.length≤l∧OwnAt E' S'' (l-S.length) b):=fun l b ⟨o,q1,q2⟩=>by
  by_cases hl:l<S.length
  ·rw [List.getElem?_append_left hl] at q1
   exact .inl ⟨hl,o,q1,by rw [←(st.ok l o q1).block h2.env];exact q2⟩
  ·rw [List.getElem?_append_right (by omega)] at q1
   exact .inr ⟨by omega,o,q1,q2⟩
 refine ⟨r',S++S'',v,E',fz',h1,⟨h2.env,h2.frz,fun b hb=>?_,fun b hb hn=>h2.keep b hb (no b),fun b ⟨l,hb⟩=>?_,h2.size,h2.os,h2.output,h2.tape⟩,⟨fun l o hl=>?_,fun l l' b q1 q2=>?_,h3.fzlt,h3.fresh⟩,g1 _ _ _ _ h4,g3⟩
 ·rcases h2.fznew b hb with q | q | q
  ·exact .inl q
  ·exact absurd q (no b)
  ·exact .inr (.inr q)
 ·rcases split l b hb with ⟨_,q⟩ | ⟨_,q⟩
  ·exact .inl ⟨l,q⟩
  ·exact .inr (new _ _ q)
 ·by_cases hlt:l<S.length
  ·rw [List.getElem?_append_left hlt] at hl
   exact (st.ok l o hl).mono h2.env h2.frz fk fun b hb=>kp l b ⟨o,hl,hb⟩
  ·rw [List.getElem?_append_right (by omega)] at hl
   exact st2.ok _ _ hl
 ·rcases split l b q1 with ⟨a1,a2⟩ | ⟨a1,a2⟩<;>rcases split l' b q2 with ⟨b1,b2⟩ | ⟨b1,b2⟩
  ·exact st.sep _ _ _ a2 b2
  ·have:=(st.own_lt a2).1;have:=new _ _ b2;omega
  ·have:=(st.own_lt b2).1;have:=new _ _ a2;omega
  ·have:=st2.sep _ _ _ a2 b2;omega
end
theorem Sub.put {S:Store} {i:Nat} {o:Ob} (hi:i<S.length):Sub (fun l=>if l=i then S.length else l) (S.set i o) (S++[o]):=by
 refine ⟨fun l l' h1 h2 h=>?_,fun l o' h=>?_⟩
 ·simp only [List.length_set] at h1 h2
  replace h:(if l=i then S.length else l)=(if l'=i then S.length else l'):=h
  split at h<;>split at h<;>omega
 ·by_cases e:l=i
  ·subst e
   rw [List.getElem?_set_self hi] at h
   cases h
   exact ⟨o,by simp,.refl o⟩
  ·rw [List.getElem?_set_ne (fun q=>e q.symm)] at h
   refine ⟨o',?_,.refl o'⟩
   show (S++[o])[if l=i then S.length else l]?=some o'
   rw [if_neg e,List.getElem?_append_left (List.getElem?_eq_some_iff.1 h).1,h]
theorem Post.sub {K K':AVal→Store→Prop} {E:Env} {fz:Nat→Prop} {S:Store} {w:World} {v:Value} {w':World} (h:Post K E fz S w v w')
  (hK: ∀r S',K r S'→ ∃r' φ S'',LeV r r'∧Sub φ S'' S'∧K' r' S''):Post K' E fz S w v w':=by
 obtain ⟨r,S',E',fz',h5,h2,h3,h4⟩:=h
 obtain ⟨r',φ,S'',g1,g2,g3⟩:=hK r S' h5
 exact ⟨r',S'',E',fz',g3,⟨h2.env,h2.frz,h2.fznew,h2.keep,fun b ⟨l,hb⟩=>h2.own b ⟨_,(g2.own hb).1⟩,h2.size,h2.os,h2.output,h2.tape⟩,h3.choose g2,g1 _ _ _ _ h4⟩
theorem RunsTo.mono {P:Program} {r:Result Next} {Φ Ψ:Value→World→Prop} (h:RunsTo P r Φ) (hm: ∀v w,Φ v w→Ψ v w):RunsTo P r Ψ:=Go.Vk.RunsV.mono h hm
theorem ACalls.kept {P:Program} {f:FuncId} {args:List AVal} {S:Store} {i k:Nat} {cs:List AVal} {K:AVal→Store→Prop} (hi:i<S.length)
  (h:ACalls P f args [] (fun r S'=> ∃v,r= .ptr 0 v 0∧S'=[.row v k cs])) (hK: ∀v,K (.ptr i v 0) (S.set i (.row v k cs))):ACalls P f args S K:=
 (h.frame0 (K:=fun r S'=> ∃v,r= .ptr S.length v 0∧S'=S++[.row v k cs]) fun r S' ⟨v,e1,e2⟩=>⟨.ptr S.length v 0,id,[.row v k cs],e1▸ .ptr,e2▸ .refl,v,rfl,rfl⟩).weak
  fun r S' ⟨v,e1,e2⟩=>by subst e1;subst e2;exact ⟨.ptr i v 0,_,_,.ptr,Sub.put hi,hK v⟩
end Go.Vc
end
end
section
namespace Go.Vk
open Go.Conc
section
variable {P : Program}
theorem Mute.bindR {α β:Type} {f:α→Sem β}: ∀ {p:Sem α},Mute P p→(∀a,(∀w,p.run P w= .ok a w)→Mute P (f a))→Mute P (p >>=f)
 | .pure a,_,h=>h a fun _=>rfl
 | .program k,h,hf=>Mute.bindR (p:=k P) h fun a q=>hf a fun w=>q w
 | .halt x,_,_=>trivial
 | .load ..,h,_=>h.elim
 | .store ..,h,_=>h.elim
 | .new ..,h,_=>h.elim
 | .shape ..,h,_=>h.elim
 | .freeze ..,h,_=>h.elim
 | .frozen ..,h,_=>h.elim
 | .getObj ..,h,_=>h.elim
 | .setObj ..,h,_=>h.elim
 | .choose ..,h,_=>h.elim
 | .sys ..,h,_=>h.elim
 | .mark ..,h,_=>h.elim
theorem Mute.tame {α:Type}: ∀ {p:Sem α},Mute P p→Tame P p
 | .pure a,_=>trivial
 | .program k,h=>Mute.tame (p:=k P) h
 | .halt x,_=>trivial
 | .load ..,h=>h.elim
 | .store ..,h=>h.elim
 | .new ..,h=>h.elim
 | .shape ..,h=>h.elim
 | .freeze ..,h=>h.elim
 | .frozen ..,h=>h.elim
 | .getObj ..,h=>h.elim
 | .setObj ..,h=>h.elim
 | .choose ..,h=>h.elim
 | .sys ..,h=>h.elim
 | .mark ..,h=>h.elim
inductive EqC:Value→Prop
 | int (k n):EqC (.int k n)
 | bool (b):EqC (.bool b)
 | str (s):EqC (.string s)
inductive EqV:Value→Prop
 | one {v:Value} (h:EqC v):EqV v
 | agg {xs:Array Value} (h: ∀x∈xs,EqC x):EqV (.agg xs)
theorem mute_isAgg {t:TypeId}:Mute P (isAgg t):=by
 unfold isAgg
 refine Mute.bind (fun u=>?_) mute_underlying
 split<;>exact mute_pure
theorem mute_part {t:TypeId} {cs:Array Value} {n:Nat}:Mute P (part t cs n):=by
 unfold part
 refine Mute.bind (fun b=>?_) mute_isAgg
 split
 ·exact Mute.bind (fun _=>mute_pure) mute_sizeOf
 ·split<;>first | exact mute_pure | exact mute_halt
theorem part_eq {t:TypeId} {cs:Array Value} {n:Nat} {a:Value} {w:World} (hc: ∀x∈cs,EqC x) (h:(part t cs n).run P w= .ok a w):EqV a:=by
 unfold part at h
 rw [Sem.run_bind] at h
 cases hb:(isAgg t).run P w with
 | halt x w'=>rw [hb] at h;cases h
 | ok b w'=>
  rw [hb] at h
  simp only [Result.andThen] at h
  cases b
  ·simp only [Bool.false_eq_true,if_false] at h
   split at h
   ·rename_i v hv
    cases h
    exact .one (hc _ (Array.mem_of_getElem? hv))
   ·cases h
  ·simp only [if_true] at h
   rw [Sem.run_bind] at h
   cases hs:(sizeOf t).run P w' with
   | halt x w2=>rw [hs] at h;cases h
   | ok s w2=>
    rw [hs] at h
    cases h
    exact .agg fun x hx=>hc x (by
     obtain ⟨i,hi,rfl⟩:=Array.getElem_of_mem hx
     rw [Array.getElem_extract]
     exact Array.getElem_mem _)
theorem guard_mute: ∀(d:Nat) (t:TypeId) (x y:Value),Mute P (Op.eqGuardIn d t x y)
 | 0,t,x,y=>by unfold Op.eqGuardIn;exact mute_halt
 | d+1,t,x,y=>by
  unfold Op.eqGuardIn
  refine Mute.bind (fun u=>?_) mute_underlying
  split
  ·exact mute_pure
  ·rw [←Array.forIn_toList]
   refine Mute.bind (fun r=>?_) (mute_forIn (fun f r=>?_) _ _)
   ·obtain ⟨r1,r2⟩:=r
    cases r1<;>exact mute_pure
   ·split
    ·refine Mute.bind (fun a=>Mute.bind (fun b=>Mute.bind (fun c=>?_) (guard_mute d _ _ _)) mute_part) mute_part
     split<;>exact mute_pure
    ·exact mute_pure
  ·refine Mute.bind (fun n=>?_) mute_sizeOf
   rw [Std.Legacy.Range.forIn_eq_forIn_range']
   refine Mute.bind (fun r=>?_) (mute_forIn (fun f r=>?_) _ _)
   ·obtain ⟨r1,r2⟩:=r
    cases r1<;>exact mute_pure
   ·refine Mute.bind (fun a=>Mute.bind (fun b=>Mute.bind (fun c=>?_) (guard_mute d _ _ _)) mute_part) mute_part
    split<;>exact mute_pure
  ·exact mute_pure
theorem equal_mute: ∀(d:Nat) (t:TypeId) (x y:Value),EqV x→EqV y→Mute P (Op.equalIn d t x y)
 | 0,t,x,y,_,_=>by simp only [Op.equalIn];exact mute_halt
 | d+1,t,x,y,hx,hy=>by
  simp only [Op.equalIn]
  refine Mute.bind (fun u=>?_) mute_underlying
  cases hx with
  | one hx=>cases hy with
   | one hy=>cases hx<;>cases hy<;>cases u<;>dsimp only<;>first | exact mute_pure | exact mute_halt | (split<;>first | exact mute_pure | exact mute_halt)
   | agg hy=>cases hx<;>cases u<;>dsimp only<;>first | exact mute_pure | exact mute_halt
  | agg hx=>cases hy with
   | one hy=>cases hy<;>cases u<;>dsimp only<;>first | exact mute_pure | exact mute_halt
   | agg hy=>
    cases u<;>dsimp only<;>first | exact mute_pure | exact mute_halt | skip
    rotate_left
    ·refine Mute.bind (fun p=>?_) mute_program
     split
     ·exact Mute.bind (fun _=>Mute.bind (fun r=>by obtain ⟨r1,r2⟩:=r;cases r1<;>exact mute_pure) (by
       rw [←Array.forIn_toList]
       exact mute_forIn (fun f r=>by
        split
        ·refine Mute.bindR mute_part fun a qa=>Mute.bindR mute_part fun b qb=>Mute.bind (fun c=>?_) (equal_mute d _ _ _ (part_eq (P:=P) (w:=default) hx (qa _)) (part_eq (P:=P) (w:=default) hy (qb _)))
         split<;>exact mute_pure
        ·exact mute_pure) _ _)) mute_halt
     ·refine Mute.bind (fun r=>by obtain ⟨r1,r2⟩:=r;cases r1<;>exact mute_pure) ?_
      rw [←Array.forIn_toList]
      exact mute_forIn (fun f r=>by
       split
       ·refine Mute.bindR mute_part fun a qa=>Mute.bindR mute_part fun b qb=>Mute.bind (fun c=>?_) (equal_mute d _ _ _ (part_eq (P:=P) (w:=default) hx (qa _)) (part_eq (P:=P) (w:=default) hy (qb _)))
        split<;>exact mute_pure
       ·exact mute_pure) _ _
    ·refine Mute.bind (fun n=>?_) mute_sizeOf
     refine Mute.bind (fun r=>by obtain ⟨r1,r2⟩:=r;cases r1<;>exact mute_pure) ?_
     rw [Std.Legacy.Range.forIn_eq_forIn_range']
     exact mute_forIn (fun f r=>by
      refine Mute.bindR mute_part fun a qa=>Mute.bindR mute_part fun b qb=>Mute.bind (fun c=>?_) (equal_mute d _ _ _ (part_eq (P:=P) (w:=default) hx (qa _)) (part_eq (P:=P) (w:=default) hy (qb _)))
      split<;>exact mute_pure) _ _
theorem eqGuard_mute {op:BinOp} {t:TypeId} {x y:Operand} {a b:Value}:Mute P (eqGuard op t x y a b):=by
 unfold eqGuard
 repeat' (first | exact mute_pure | exact mute_halt | (refine Mute.bind (fun _=>?_) (guard_mute _ _ _ _)) | (refine Mute.bind (fun _=>?_) mute_program) | split)
end
end Go.Vk
end
