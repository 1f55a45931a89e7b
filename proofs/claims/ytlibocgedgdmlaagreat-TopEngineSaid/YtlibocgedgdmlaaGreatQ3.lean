/- Part of the proof of topEngine_holds: the whole is true of every input. Conditions: none. -/
import Derived.Test.YtlibocgedgdmlaaGreatQ2
import Derived.Orders
import Derived.Deep.LoopGhost
import Derived.ProofKit
import Derived.Below
import Derived.Carry
import Derived.JoinedCond
set_option linter.all false
section
section
namespace Go.Vc
def reach (ops:Array Oper):Nat->Nat->Nat->Bool
  | 0,_,_=>false
  | f+1,j,i=>match ops[j]? with
    | none=>false
    | some o=>(o.after.any fun e=>Region.binds .any e && e.on == i) || (o.after.any fun e=>Region.binds .any e && decide (i<e.on) && reach ops f e.on i)
def Cs.names (g:Cs):List Nat:=g.dst.toList++g.op.Am++(match g.guard with | some (s,_)=>[s] | none=>[])
def JF (g h:Cs):Bool:=(match g.dst with | some d=>h.names.contains d | none=>false) || (match h.dst with | some d=>g.names.contains d | none=>false)
def Dw.free:Dw->Bool
  | .C8 _ | .pick _ _ _ | .build _ _ | .E5 _ | .bin _ _ _ _ | .N1 _ | .not _ | .neg _ | .conv _ _ | .DJ _ _ | .field _ _ _ _ | .index _ _ _ _ _ | .len _ _
  | .min _ | .max _ | .GV _ _ _ | .extract _ _ | .ext _ _ | .slice 0 _ _ _ | .VJ _ _ | .PD _ _=>true
  | .A7 ro _ _ _ _=>ro
  | _=>false
def Dw.DD:Dw->Bool
  | .call _ _ | .Fo _ _=>true
  | _=>false
def Dw.XN:Dw->Bool
  | .DU _ | .alloc _ _ | .box _ _ | .Gy _ _ _ _ _ | .qN _ | .Mq | .K6 _=>true
  | .A7 ro _ _ _ _=> !ro
  | _=>false
def Dw.Yv:Dw->Bool
  | .load _ _ _=>true
  | _=>false
def cM (g h:Cs):Bool:=match g.op,g.dst with
  | .load n ag (.t r),some t=>g.guard.isNone && !g.G9 && t != r && h.Kx.any fun k=>k.1 == t && k.2.1 == n && k.2.2.1 == ag && (match k.2.2.2 with | .t s=>s == r | _=>false)
  | _,_=>false
def Dw.gQ:Dw->Option Nat
  | .Mr d _ _ _ _ _=>some d
  | .Mk d _ _=>some d
  | .JG d=>some d
  | .Kw d _ _ _ _=>some d
  | .NF d _ _ _=>some d
  | _=>none
def Dw.n4:Dw->Bool
  | .NF _ _ _ _=>true
  | _=>false
def Dw.Yw:Dw->Bool
  | .load _ _ _ | .Ke _ _ _ _ _=>true
  | _=>false
def Y_ (qa qb:Bool) (g h:Cs):Bool:= !JF g h && (g.op.free || (g.op.quiet && (qa || !g.op.DD) && (h.op.XN || (h.op.quiet && (qb || !h.op.DD)))) || (match g.op.gQ,h.op.gQ with
    | some d,some d'=>d != d' && g.guard.isNone && h.guard.isNone && !g.G9 && !h.G9 && !h.op.n4
    | _,_=>false) || (g.op.Yw && h.op.gQ.isSome && g.guard.isNone && h.guard.isNone && !g.G9 && !h.G9 && !h.op.n4))
def Qq (qa qb:Bool) (g h:Cs):Bool:=g.Kx.isEmpty && ((Y_ qa qb g h && (h.Kx.isEmpty || (g.op.quiet && (qa || !g.op.DD)))) || (!JF g h && cM g h))
def tG (d:Option Nat) (l:List Nat):Bool:=match d with | some d=>l.contains d | none=>false
def GQ (π:List Nat) (gl:List Cs):List Cs:=π.map fun i=>gl.getD i default
def ud (π:List Nat) (l:List Cs):List Cs:=(List.range π.length).map fun i=>l.getD (π.findIdx fun j=>j == i) default
def LY (gl:List Cs):Nat->List Nat->List (Nat×Bool×Cs)
  | _,[]=>[]
  | m,i::π=>(i,decide (0<m),gl.getD i default)::LY gl (m-1) π
def VR (ops:Array Oper) (nc:Bool) (x y:Nat×Bool×Cs):Bool:=(reach ops ops.size y.1 x.1 || Qq x.2.1 y.2.1 x.2.2 y.2.2) && (nc || !x.2.2.op.Yv || !tG y.2.2.dst x.2.2.names)
def P9 (ops:Array Oper) (nc:Bool):List (Nat×Bool×Cs)->Bool
  | []=>true
  | x::l=>(l.all fun y=>VR ops nc x y) && P9 ops nc l
def PB (gl:List Cs):Bool:=gl.all fun g=>g.Kx.isEmpty
def ZG:List Nat->Bool
  | []=>true
  | a::l=> !l.contains a && ZG l
def YX (ops:Array Oper) (m:Nat) (π:List Nat) (gl:List Cs):Bool:=
  ZG π && (π.all fun i=>decide (i<ops.size)) && ((List.range ops.size).all fun i=>π.contains i) &&
  ((List.range ops.size).all fun j=>(match ops[j]? with | some o=>o.after.all fun e=> !Region.binds .any e || decide (e.on<j) | none=>true)) &&
  P9 ops (PB gl) (LY gl m π) && PB ((GQ π gl).take m)
section
variable {P : Program} {N : Nat}
theorem UJ {ops:Array Oper}: ∀ {l:List Oper} {hint gl:List Cs},QE P N ops l hint=some gl->l.length=gl.length/\ ∀(i:Nat) o,l[i]?=some o-> ∃g hh,gl[i]?=some g/\YT P (uT hh) hh.op o.type o.op=g.op/\PR ops o.guard=some g.guard/\g.dst=o.dst/\aa N o.dst=true
  | [],hint,gl,h=>by
    cases hint<;>simp only [QE] at h<;>cases h;simp
  | o::l,[],gl,h=>by simp only [QE] at h;cases h
  | o::l,g::hint,gl,h=>by
    simp only [QE] at h;split at h
    case h_2=>cases h
    rename_i gd rest hgd hrest;split at h
    case isFalse=>cases h
    rename_i hdst;cases h;obtain ⟨h1,h2⟩:=UJ hrest;refine ⟨by simp [h1],fun i o' hi=>?_⟩;cases i with
    | zero=>simp at hi;subst hi;exact ⟨_,g,rfl,rfl,hgd,rfl,hdst⟩
    | succ i=>simpa using h2 i o' (by simpa using hi)
def UG (ops:Array Oper) (D:Array Bool):Prop:= ∀j o,ops[j]?=some o->D.getD j false=true-> ∀e∈o.after,Region.binds .any e=true->D.getD e.on false=true
theorem Qy {ops:Array Oper} {D:Array Bool} (hc:UG ops D): ∀ {f j i:Nat} {o:Oper},ops[j]?=some o->(∀e∈o.after,Region.binds .any e=true->D.getD e.on false=true)->reach ops f j i=true->D.getD i false=true
  | 0,j,i,o,_,_,h=>by simp [reach] at h
  | f+1,j,i,o,hj,ha,h=>by
    simp only [reach,hj,Array.any_eq_true',Bool.and_eq_true,Bool.or_eq_true,beq_iff_eq] at h;rcases h with ⟨e,he,hb,h⟩ | ⟨e,he,⟨hb,_⟩,h⟩
    · rw [<-h];exact ha e he hb
    · have hl:=ha e he hb
      cases ho:ops[e.on]? with
      | none=>
        cases f with
        | zero=>simp [reach] at h
        | succ f=>simp [reach,ho] at h
      | some o'=>exact Qy hc ho (fun e' he' hb'=>hc _ _ ho hl e' he' hb') h
theorem Gp (F:Frame) (d:Option Nat) (x:AA) (t:Nat):(AK F d x).get t=if d=some t then x else F.get t:=by
  cases d with
  | none=>simp [AK]
  | some d=>
    simp only [AK,Frame.get];cases h:Nat.beq d t with
    | true=>rw [if_pos (by rw [Nat.eq_of_beq_eq_true h])]
    | false=>rw [if_neg (fun e=>Nat.ne_of_beq_eq_false h (by simpa using e))]
theorem Nc {F F':Frame} {S:AB} {K:AA->AB->Prop} {so:Dw} (hs: ∀t∈so.Am,F.get t=F'.get t) (h:AF P F S K so):AF P F' S K so:=by
  by_cases hq:so.quiet=true
  · exact gx hq hs h
  · cases so<;>simp only [Dw.quiet,not_true_eq_false] at hq
    case DU k=>exact h
    case Mq=>exact h
    case K6 x=>simp only [AF,AD] at h |-;rw [<-Ae hs];exact h
    case S5 x=>simp only [AF,AD] at h |-;rw [<-Ae hs];exact h
    case NZ x=>simp only [AF,AD] at h |-;rw [<-Ae hs];exact h
    case ZD q m k x=>
      simp only [Dw.Am,List.mem_append] at hs;simp only [AF,AD] at h |-;rw [<-Ae (x:=m) fun t ht=>hs t (.inl (.inl ht)),<-Ae (x:=k) fun t ht=>hs t (.inl (.inr ht)),<-Ae (x:=x) fun t ht=>hs t (.inr ht)];exact h
    case lC q z m k=>
      simp only [Dw.Am,List.mem_append] at hs;simp only [AF,AD] at h |-;rw [<-Ae (x:=m) fun t ht=>hs t (.inl ht),<-Ae (x:=k) fun t ht=>hs t (.inr ht)];exact h
    case lF m i x=>
      simp only [Dw.Am,List.mem_append] at hs;simp only [AF,AD] at h |-;rw [<-Ae (x:=m) fun t ht=>hs t (.inl (.inl ht)),<-Ae (x:=i) fun t ht=>hs t (.inl (.inr ht)),<-Ae (x:=x) fun t ht=>hs t (.inr ht)];exact h
    case alloc k z=>exact h
    case box k x=>simp only [AF,AD] at h |-;rw [<-Ae hs];exact h
    case A7 ro len k z ps=>exact Ki hs h
    case store n x v=>
      simp only [Dw.Am,List.mem_append] at hs;simp only [AF,AD] at h |-;rw [<-Ae (x:=x) fun t ht=>hs t (.inl ht),<-Ae (x:=v) fun t ht=>hs t (.inr ht)];exact h
    case Gy k b z x y=>
      simp only [Dw.Am,List.mem_append] at hs;simp only [AF,AD] at h |-;rw [<-Ae (x:=x) fun t ht=>hs t (.inl ht),<-Ae (x:=y) fun t ht=>hs t (.inr ht)];exact h
    case append k b x y=>
      simp only [Dw.Am,List.mem_append] at hs;simp only [AF,AD] at h |-;rw [<-Ae (x:=x) fun t ht=>hs t (.inl ht),<-Ae (x:=y) fun t ht=>hs t (.inr ht)];exact h
    case eE k b x y=>
      simp only [Dw.Am,List.mem_append] at hs;simp only [AF,AD] at h |-;rw [<-Ae (x:=x) fun t ht=>hs t (.inl ht),<-Ae (x:=y) fun t ht=>hs t (.inr ht)];exact h
    case bad=>exact h
    case GO neg x=>simp only [AF,AD] at h |-;rw [<-Ae hs];exact h
    case peq neg x y=>
      simp only [Dw.Am,List.mem_append] at hs;simp only [AF,AD] at h |-;rw [<-Ae (x:=x) fun t ht=>hs t (.inl ht),<-Ae (x:=y) fun t ht=>hs t (.inr ht)];exact h
    case L8 n x=>simp only [AF,AD] at h |-;rw [<-Ae hs];exact h
    case clear k z x=>simp only [AF,AD] at h |-;rw [<-Ae hs];exact h
    case qN x=>simp only [AF,AD] at h |-;rw [<-Ae hs];exact h
    case mark x=>simp only [AF,AD] at h |-;rw [<-Ae hs];exact h
    case Mk d k z=>exact h
    case JG d=>exact h
    case Kw d k f xs zs=>
      simp only [Dw.Am,List.mem_append] at hs;simp only [AF,Ap] at h |-;rw [<-DV (xs:=xs) fun t ht=>hs t (.inl ht),<-DV (xs:=zs) fun t ht=>hs t (.inr ht)];exact h
    case NF d k f xs=>simp only [AF,Ap] at h |-;rw [<-DV (xs:=xs) hs];exact h
    case Mr d k b z x y=>
      simp only [Dw.Am,List.mem_append] at hs;simp only [AF,AD] at h |-;rw [<-Ae (x:=x) fun t ht=>hs t (.inl ht),<-Ae (x:=y) fun t ht=>hs t (.inr ht)];exact h
def Lv (P:Program) (q:Bool) (F:Frame) (S:AB) (K:AA->AB->Prop) (so:Dw):Prop:=match q with | true=>C2 P F S K so | false=>AF P F S K so
theorem Lw {F:Frame} {S:AB} {K:AA->AB->Prop} {so:Dw} (h:so.DD=false):C2 P F S K so=AF P F S K so:=by
  cases so<;>first | rfl | cases h
theorem JJ {F:Frame} {S:AB} {K:AA->AB->Prop} {so:Dw} {q:Bool} (h:so.DD=false):Lv P q F S K so=AF P F S K so:=by
  cases q
  · rfl
  · exact Lw h
theorem dd {F:Frame} {S:AB} {K:AA->AB->Prop} {so:Dw} (h:C2 P F S K so):AF P F S K so:=by
  by_cases hc:so.DD=true
  · have hq:so.quiet=true:=by cases so<;>simp only [Dw.DD] at hc<;>first | rfl | cases hc
    obtain ⟨x,h1,h2⟩:=OR hq h;exact h2 K h1
  · rwa [Lw (by simpa using hc)] at h
theorem qC {F:Frame} {S:AB} {K:AA->AB->Prop} {so:Dw} {q:Bool} (h:Lv P q F S K so):AF P F S K so:=by
  cases q
  · exact h
  · exact dd h
theorem SN {F F':Frame} {S:AB} {K:AA->AB->Prop} {so:Dw} {q:Bool} (hs: ∀t∈so.Am,F.get t=F'.get t) (h:Lv P q F S K so):Lv P q F' S K so:=by
  cases q
  · exact Nc hs h
  · by_cases hc:so.DD=true
    · cases so<;>simp only [Dw.DD] at hc<;>first | (cases hc;done) | skip
      case call f xs=>simp only [Lv,C2,Ap] at h |-;rw [<-DV (xs:=xs) hs];exact h
      case Fo x xs=>
        simp only [Dw.Am,List.mem_append] at hs;simp only [Lv,C2,AD,Ap] at h |-;rw [<-Ae (x:=x) fun t ht=>hs t (.inl ht),<-DV (xs:=xs) fun t ht=>hs t (.inr ht)];exact h
    · have hc:so.DD=false:=by simpa using hc
      rw [JJ hc] at h |-;exact Nc hs h
theorem R7 {F:Frame} {S:AB} {K:AA->AB->Prop} {so:Dw} {q:Bool} (hq:so.quiet=true) (hc:q=true\/so.DD=false) (h:Lv P q F S K so):
    ∃x,K x S/\ ∀(F':Frame) (K':AA->AB->Prop),(∀t∈so.Am,F.get t=F'.get t)->K' x S->Lv P q F' S K' so:=by
  by_cases hcl:so.DD=true
  · rcases hc with rfl | hc
    · cases so<;>simp only [Dw.DD] at hcl<;>first | (cases hcl;done) | skip
      case call f xs=>
        simp only [Lv,C2,Ap] at h;obtain ⟨r0,h1,h2⟩:=h;refine ⟨r0,h2,fun F' K' hs hk=>?_⟩;simp only [Lv,C2,Ap];rw [<-DV (xs:=xs) hs];exact ⟨r0,h1,hk⟩
      case Fo x xs=>
        simp only [Lv,C2,AD,Ap] at h;generalize hX:rd F x=X at h;cases X<;>first | exact h.elim | skip
        rename_i f first cap
        cases f<;>first | exact h.elim | skip
        cases first<;>first | exact h.elim | skip
        obtain ⟨hcl,r0,h1,h2⟩:=h;refine ⟨r0,h2,fun F' K' hs hk=>?_⟩;simp only [Dw.Am,List.mem_append] at hs;simp only [Lv,C2,AD,Ap];rw [<-Ae (x:=x) fun t ht=>hs t (.inl ht),<-DV (xs:=xs) fun t ht=>hs t (.inr ht),hX];exact ⟨hcl,r0,h1,hk⟩
    · rw [hcl] at hc;cases hc
  · have hcl:so.DD=false:=by simpa using hcl
    rw [JJ hcl,<-Lw hcl] at h;obtain ⟨x,h1,h2⟩:=OR hq h;exact ⟨x,h1,fun F' K' hs hk=>SN hs (by rw [JJ hcl];exact h2 K' hk)⟩
theorem fG {so:Dw} (h:so.free=true):so.quiet=true/\so.DD=false:=by
  cases so<;>simp only [Dw.free] at h<;>first | (cases h;done) | exact ⟨rfl,rfl⟩ | exact ⟨h,rfl⟩
theorem fH {F:Frame} {S S':AB} {K:AA->AB->Prop} {so:Dw} (hf:so.free=true) (h:AF P F S K so):AF P F S' (fun x _=>K x S) so:=by
  cases so<;>simp only [Dw.free] at hf<;>first | (cases hf;done) | exact h | skip
  case A7 ro len k z ps=>subst hf;exact h
  case slice k x lo hi=>
    cases k with
    | zero=>exact h
    | succ k=>cases hf
theorem tD {F:Frame} {S:AB} {K:AA->AB->Prop} {so:Dw} {q:Bool} (hf:so.free=true) (h:Lv P q F S K so):
    ∃x,K x S/\ ∀(F':Frame) (S':AB) (K':AA->AB->Prop),(∀t∈so.Am,F.get t=F'.get t)->K' x S'->Lv P q F' S' K' so:=by
  obtain ⟨hq,hc⟩:=fG hf;obtain ⟨x,h1,h2⟩:=R7 hq (.inr hc) h;refine ⟨x,h1,fun F' S' K' hs hk=>?_⟩;have g:=h2 F' (fun z _=>z=x) hs rfl;rw [JJ hc] at g;have g':=fH (S':=S') hf g;rw [<-Lw hc] at g';obtain ⟨y,g1,g2⟩:=OR hq g';rw [JJ hc];refine g2 K' ?_;have e:y=x:=g1;rw [e];exact hk
theorem N7 {x:AA} {K K':List AA->Prop} (h:Gc x K) (hk: ∀c,K c->K' c):Gc x K':=by
  cases x<;>simp only [Gc] at h |- <;>first | exact h.elim | exact hk _ h
theorem V0 {F:Frame} {K K':List AA->Prop} {ps:List (Nat×Nat×AL)} {cs:List AA} (h:JO F cs K ps) (hk: ∀c,K c->K' c):JO F cs K' ps:=by
  obtain ⟨x,h1,h2⟩:=QJ _ h;exact h2 _ (hk _ h1)
theorem X_ {S:AB} {k:Nat} {x:AA} {K K':Nat->List AA->Prop} (h:M5 S k x K) (hk: ∀n c,K n c->K' n c):M5 S k x K':=by
  cases x<;>simp only [M5] at h |- <;>first | exact h.elim | exact hk _ _ h | exact ⟨h.1,hk _ _ h.2⟩ | skip
  obtain ⟨k',cs,h1,h2,h3⟩:=AN.1 h;exact AN.2 ⟨k',cs,h1,h2,hk _ _ h3⟩
theorem eQ {so:Dw} (h:so.DD=true):so.quiet=true:=by
  cases so<;>simp only [Dw.DD] at h<;>first | rfl | cases h
theorem jH {F:Frame} {S:AB} {K K':AA->AB->Prop} {so:Dw} (hc:so.DD=false) (h:AF P F S K so) (hk: ∀x S',K x S'->K' x S'):AF P F S K' so:=by
  by_cases hq:so.quiet=true
  · rw [<-JJ (q:=false) hc] at h
    obtain ⟨x,h1,h2⟩:=R7 hq (.inr hc) h;exact h2 F K' (fun _ _=>rfl) (hk _ _ h1)
  · cases so<;>simp only [Dw.quiet,not_true_eq_false] at hq
    case DU k=>simp only [AF,Av] at h |-;exact fun v=>hk _ _ (h v)
    case Mq=>simp only [AF,Av] at h |-;exact fun v=>hk _ _ (h v)
    case K6 x=>
      simp only [AF,AD] at h |-;generalize rd F x=X at*;cases X<;>first | exact h.elim | skip
      obtain ⟨es,h1,h2⟩:=Co.1 h;simp only [Av] at h2;refine Co.2 ⟨es,h1,?_⟩;simp only [Av];exact fun v=>hk _ _ (h2 v)
    case S5 x=>
      simp only [AF,AD] at h |-;generalize rd F x=X at*;cases X<;>first | exact h.elim | skip
      rename_i l v off;cases off<;>first | exact h.elim | skip
      obtain ⟨mv,since,last,seen,h1,lm,es,h2,h3,h4,h5⟩:=IY.1 h;refine IY.2 ⟨mv,since,last,seen,h1,lm,es,h2,h3,fun q=>hk _ _ (h4 q),fun i e q1 q2=>?_⟩;have:=h5 i e q1 q2;rw [CQ] at this |-;exact ⟨this.1,hk _ _ this.2⟩
    case NZ x=>
      simp only [AF,AD] at h |-;generalize rd F x=X at*;cases X<;>first | exact h.elim | skip
      rename_i l v off;cases off<;>first | exact h.elim | skip
      obtain ⟨mv,since,last,seen,h1,lm,es,i,e,h2,h3,h4,h5,h6⟩:=IY.1 h;exact IY.2 ⟨mv,since,last,seen,h1,lm,es,i,e,h2,h3,h4,h5,hk _ _ h6⟩
    case ZD q m k x=>
      simp only [AF,AD] at h |-;generalize rd F m=X at*;refine ⟨h.1,?_⟩;have h:=h.2;cases X<;>first | exact h.elim | skip
      obtain ⟨es,h1,h2,h3⟩:=Co.1 h;rw [CQ] at h3;exact Co.2 ⟨es,h1,h2,CQ.2 ⟨h3.1,hk _ _ h3.2⟩⟩
    case lC q z m k=>
      simp only [AF,AD] at h |-;generalize rd F m=X at*;refine ⟨h.1,?_⟩;have h:=h.2;cases X<;>first | exact h.elim | skip
      obtain ⟨es,h1,h2,h3⟩:=Co.1 h;refine Co.2 ⟨es,h1,h2,?_⟩;split at h3<;>rw [CQ] at h3<;>exact CQ.2 ⟨h3.1,hk _ _ h3.2⟩
    case lF m i x=>
      simp only [AF,AD] at h |-;obtain ⟨kk,j,e,h⟩:=EK h;rw [e];refine ⟨j,rfl,?_⟩;generalize rd F m=X at*;cases X<;>first | exact h.elim | skip
      obtain ⟨es,h1,h2⟩:=Co.1 h;refine Co.2 ⟨es,h1,?_⟩;split at h2
      · rename_i e0 he
        rw [CQ] at h2;exact CQ.2 ⟨h2.1,hk _ _ h2.2⟩
      · exact h2.elim
    case alloc k z=>simp only [AF,Av] at h |-;exact fun v=>hk _ _ (h v)
    case box k x=>
      simp only [AF,Av,AD] at h |-;exact N7 h fun c h v=>hk _ _ (h v)
    case A7 ro len k z ps=>
      cases ro
      · simp only [AF,Av] at h |-
        exact V0 h fun c h v=>hk _ _ (h v)
      · exact absurd rfl hq
    case store n x v=>
      simp only [AF,AD] at h |-;generalize rd F x=X at*;cases X<;>first | exact h.elim | skip
      obtain ⟨k,cs,h1,h2⟩:=AN.1 h;refine AN.2 ⟨k,cs,h1,N7 h2 fun c h=>⟨h.1,h.2.1,?_⟩⟩;have h3:=h.2.2;rw [FA,CQ] at h3 |-;exact ⟨h3.1,hk _ _ h3.2⟩
    case Gy k b z x y=>
      simp only [AF,Av,AD] at h |-;obtain ⟨kk,j,e,h1,h2,h3⟩:=EK h;rw [e] at h1 |-;exact ⟨j,rfl,h1,h2,fun v=>hk _ _ (h3 v)⟩
    case append k b s x=>
      simp only [AF,AD] at h |-;refine X_ h fun n ys h=>?_;generalize rd F s=X at*;cases X<;>first | exact h.elim | skip
      · simp only [Av] at h |-
        exact ⟨h.1,fun v=>hk _ _ (h.2 v)⟩
      · simp only at h |-
        obtain ⟨k',cs,h1,h2,h3,h4,h5⟩:=AN.1 h;refine AN.2 ⟨k',cs,h1,h2,h3,h4,fun v=>?_⟩;have:=h5 v;rw [CQ] at this |-;exact ⟨this.1,hk _ _ this.2⟩
    case eE k b s x=>
      simp only [AF,AD] at h |-;refine X_ h fun n ys h=>⟨h.1,?_⟩
      have h:=h.2;generalize rd F s=X at*;cases X<;>first | exact h.elim | skip
      · simp only [Av] at h |-
        exact ⟨h.1,fun v=>hk _ _ (h.2 v)⟩
      · simp only at h |-
        obtain ⟨k',cs,h1,h2,h3,h4,h5,h6⟩:=AN.1 h;simp only [Av] at h6;rw [CQ] at h5;refine AN.2 ⟨k',cs,h1,h2,h3,h4,CQ.2 ⟨h5.1,hk _ _ h5.2⟩,?_⟩;simp only [Av];exact fun v=>hk _ _ (h6 v)
    case bad=>exact h
    case mark x=>
      simp only [AF,AD] at h |-;generalize rd F x=X at*;cases X<;>first | exact h.elim | skip
      obtain ⟨k',cs,h1,h0,h3⟩:=AN.1 h.2;exact ⟨h.1,AN.2 ⟨k',cs,h1,h0,hk _ _ h3⟩⟩
    case qN x=>
      simp only [AF,Av,AD] at h |-;generalize rd F x=X at*;cases X<;>first | exact h.elim | exact fun v=>hk _ _ (h v)
    case GO neg x=>
      simp only [AF,AD] at h |-;generalize rd F x=X at*;cases X<;>first | exact h.elim | exact hk _ _ h | exact fun b hb=>hk _ _ (h b hb)
    case L8 n x=>
      simp only [AF,AD] at h |-;generalize rd F x=X at*;cases X<;>first | exact h.elim | skip
      obtain ⟨k,cs,g1,g2,g3,h⟩:=AN.1 h;exact AN.2 ⟨k,cs,g1,g2,g3,hk _ _ h⟩
    case peq neg x y=>
      simp only [AF,AD] at h |-;generalize rd F x=X at*;generalize rd F y=Y at*;cases X<;>cases Y<;>first | exact h.elim | exact hk _ _ h | skip
      obtain ⟨k,cs,g1,g2,h⟩:=AN.1 h;obtain ⟨k',cs',g3,g4,h⟩:=AN.1 h;exact AN.2 ⟨k,cs,g1,g2,AN.2 ⟨k',cs',g3,g4,hk _ _ h⟩⟩
    case clear k z x=>
      simp only [AF,AD] at h |-;generalize rd F x=X at*;cases X<;>first | exact h.elim | exact hk _ _ h | skip
      simp only at h |-;obtain ⟨k',cs,h1,h2,h3,h4⟩:=AN.1 h;rw [CQ] at h4;exact AN.2 ⟨k',cs,h1,h2,h3,CQ.2 ⟨h4.1,hk _ _ h4.2⟩⟩
    case Mr d k b z x y=>
      simp only [AF,AD] at h |-;obtain ⟨kk,j,e,h1,h2,h3,h4,h5,h6⟩:=EK h;rw [e] at h1 |-;exact ⟨j,rfl,h1,h2,h3,h4,h5,fun v=>hk _ _ (h6 v)⟩
    case Mk d k z=>
      simp only [AF] at h |-;exact ⟨h.1,h.2.1,h.2.2.1,fun v=>hk _ _ (h.2.2.2 v)⟩
    case JG d=>
      simp only [AF] at h |-;exact ⟨h.1,h.2.1,h.2.2.1,fun v=>hk _ _ (h.2.2.2 v)⟩
    case Kw d k f xs zs=>
      simp only [AF,Ap] at h |-;exact ⟨h.1,h.2.1,h.2.2.1,h.2.2.2.1,fun v=>hk _ _ (h.2.2.2.2 v)⟩
    case NF d k f xs=>
      simp only [AF,Ap] at h |-;obtain ⟨n,cs,h1,h2,h3,h4,h5⟩:=h;exact ⟨n,cs,h1,h2,h3,h4,fun v=>hk _ _ (h5 v)⟩
theorem KH {F:Frame} {S:AB} {K K':AA->AB->Prop} {so:Dw} {q:Bool} (h:Lv P q F S K so) (hk: ∀x S',K x S'->K' x S'):Lv P q F S K' so:=by
  by_cases hc:so.DD=true
  · cases q
    · cases so<;>simp only [Dw.DD] at hc<;>first | (cases hc;done) | skip
      case call f xs=>simp only [Lv,AF,Ap] at h |-;exact C6 h hk
      case Fo x xs=>
        simp only [Lv,AF,AD,Ap] at h |-;generalize rd F x=X at*;cases X<;>first | exact h.elim | skip
        rename_i f first cap
        cases f<;>first | exact h.elim | skip
        · cases first<;>first | exact h.elim | skip
          exact ⟨h.1,C6 h.2 hk⟩
        · cases first<;>first | exact h.elim | skip
          cases cap<;>first | exact h.elim | skip
          exact ⟨h.1,Kn.mono h.2 hk⟩
    · obtain ⟨x,h1,h2⟩:=R7 (eQ hc) (.inl rfl) h
      exact h2 F K' (fun _ _=>rfl) (hk _ _ h1)
  · have hc:so.DD=false:=by simpa using hc
    rw [JJ hc] at h |-;exact jH hc h hk
def KK (P:Program) (q:Bool) (o:Cs) (F:Frame) (S:AB) (K:AA->AB->Prop):Prop:=
  match o.guard with
  | none=>Lv P q F S (fun x S'=>Al o.G9 x fun x=>K x S') o.op
  | some (g,want)=>match F.get g,want with
    | .tt,true=>Lv P q F S (fun x S'=>Al o.G9 x fun x=>K x S') o.op
    | .tt,false=>K (.DG []) S
    | .ff,false=>Lv P q F S (fun x S'=>Al o.G9 x fun x=>K x S') o.op
    | .ff,true=>K (.DG []) S
    | .DG _,_=>K (.DG []) S
    | _,_=>False
def aJ (F:Frame) (S:AB) (k:Nat×Nat×Bool×AL):Prop:=ID S k.2.1 k.2.2.1 (rd F k.2.2.2) fun r=>r=F.get k.1
def ND (F:Frame) (S:AB) (l:List (Nat×Nat×Bool×AL)):Prop:= ∀k∈l,aJ F S k
theorem eZ {F F':Frame} {S:AB} {k:Nat×Nat×Bool×AL} (hs: ∀t∈k.1::k.2.2.2.Am,F.get t=F'.get t) (h:aJ F S k):aJ F' S k:=by
  unfold aJ at h |-;rw [<-Ae (F:=F) (F':=F') fun t ht=>hs t (by simp [ht]),<-hs k.1 (by simp)];exact h
theorem PU {F F':Frame} {S:AB} {l:List (Nat×Nat×Bool×AL)} (hs: ∀k∈l,∀t∈k.1::k.2.2.2.Am,F.get t=F'.get t) (h:ND F S l):ND F' S l:=
  fun k hk=>eZ (hs k hk) (h k hk)
theorem js {F:Frame} {S:AB} {K:AA->AB->Prop} {k:Nat×Nat×Bool×AL} (h:AF P F S K (.again k.1 k.2.1 k.2.2.1 k.2.2.2)):aJ F S k/\K .Ci S:=by
  simp only [AF,AD] at h;obtain ⟨z,h1,h2⟩:=Ju _ h;exact ⟨h2 _ h1.1,h1.2⟩
theorem aK {K:Frame->AB->Prop} {rest:List Cs} {F:Frame} {S:AB}: ∀(l:List (Nat×Nat×Bool×AL)),BC P K (l.map NA++rest) F S->ND F S l/\BC P K rest F S
  | [],h=>⟨fun k hk=>(by cases hk),h⟩
  | k::l,h=>by
    simp only [List.map_cons,List.cons_append,BC,NA,Al,AK] at h;obtain ⟨h1,h2⟩:=js h;obtain ⟨h3,h4⟩:=aK l h2;refine ⟨fun k' hk=>?_,h4⟩;rcases List.mem_cons.1 hk with rfl | hk
    · exact h1
    · exact h3 k' hk
def RM (P:Program) (K:Frame->AB->Prop):List (Nat×Bool×Cs)->Frame->AB->Prop
  | [],F,S=>K F S
  | x::l,F,S=>KK P x.2.1 x.2.2 F S fun y S'=>ND (AK F x.2.2.dst y) S' x.2.2.Kx/\RM P K l (AK F x.2.2.dst y) S'
theorem F7 {b:Bool} {x:AA} {K K':AA->Prop} (h:Al b x K) (hk: ∀x,K x->K' x):Al b x K':=by
  cases b
  · exact hk _ h
  · cases x<;>simp only [Al] at h |- <;>first | exact h.elim | exact hk _ h | exact ⟨fun e=>hk _ (h.1 e),fun e=>hk _ (h.2 e)⟩
theorem D2 {q:Bool} {o:Cs} {F:Frame} {S:AB} {K K':AA->AB->Prop} (h:KK P q o F S K) (hk: ∀x S',K x S'->K' x S'):KK P q o F S K':=by
  unfold KK at h |-;have hop: ∀ {so:Dw},Lv P q F S (fun x S'=>Al o.G9 x fun x=>K x S') so->Lv P q F S (fun x S'=>Al o.G9 x fun x=>K' x S') so:=fun h=>KH h fun x S' h=>F7 h fun y hy=>hk _ _ hy;split
  · rename_i hg;rw [hg] at h;exact hop h
  · rename_i g want hg
    rw [hg] at h;simp only at h;generalize F.get g=c at*;cases c<;>cases want<;>simp only at h |- <;>first | exact h.elim | exact hk _ _ h | exact hop h
theorem sD {rr:Option Nat} {ops:Array Oper} {k:Nat} {o:Oper} {g:Cs} {q ro:Bool} {hint:Dw} {Q:Exit->Act->World->Prop} {K:AA->AB->Prop} {E:Env} {fz:Nat->Prop} {S:AB} {w:World} {F:Frame} {a:Act} (ho:ops[k]?=some o)
    (hcop:YT P ro hint o.type o.op=g.op) (hgd:PR ops o.guard=some g.guard) (st:St E fz S w) (hF:B3 E fz w F a.tmps) (h:KK P q g F S K) {next:Act->World->Prop}
    (hn: ∀(x:AA) (S':AB) (E':Env) (fz':Nat->Prop) (w':World) (v:Value),K x S'->Ext E fz S w E' fz' S' w'->St E' fz' S' w'->Rel E' fz' w' x v->next (a.put o.dst v) w'):wpOpIn (wf rr) 0 P ops Q k next a w:=by
  have run:Lv P q F S (fun x S'=>Al g.G9 x fun x=>K x S') g.op->o.wpIn (wf rr) 0 P a w next Q:=fun hop=>by
    refine V8 (QI (by rw [hcop];exact qC hop)) (UN st hF hcop (qC hop)) ?_;rintro v w' ⟨x,S',E',fz',hk,hx,hs,hr⟩;obtain ⟨y,hy,hr'⟩:=Vs hk hr;exact hn y S' E' fz' w' v hy hx hs hr'
  have skip:K (.DG []) S->next (a.put o.dst undef) w:=fun hk=>
    hn _ S E fz w undef hk .refl st (by simp only [Rel];exact ⟨[],rfl,by simp [AZ]⟩)
  unfold KK at h;simp only [wpOpIn,ho];cases hgo:o.guard with
  | none=>
    rw [hgo] at hgd;simp only [PR] at hgd;have hgd':=Option.some.inj hgd;rw [<-hgd'] at h;rw [if_pos (by simp [Region.wanted,hgo])];exact run h
  | some jw=>
    obtain ⟨j,want⟩:=jw;rw [hgo] at hgd;simp only [PR] at hgd;split at hgd
    case h_2=>cases hgd
    rename_i d hd;have hgd':=Option.some.inj hgd;rw [<-hgd'] at h;obtain ⟨w1,w2,w3⟩:=V2 hgo hd hF;simp only at h;cases hg:F.get d<;>cases want<;>rw [hg] at h<;>simp only at h<;>first | exact h.elim | skip
    · rw [w1 hg,if_neg (by simp)];exact ⟨fun _ _=>trivial,skip h⟩
    · rw [w1 hg,if_pos rfl];exact run h
    · rw [w2 hg,if_pos (by simp)];exact run h
    · rw [w2 hg,if_neg (by simp)];exact ⟨fun _ _=>trivial,skip h⟩
    all_goals
      rw [w3 _ hg,if_neg (by simp)];exact ⟨fun _ _=>trivial,skip h⟩
theorem Rj {D:Array Bool} {j:Nat} (h:j<D.size):D.getD j true=D.getD j false:=by
  simp [Array.getD_eq_getD_getElem?,Array.getElem?_eq_getElem h]
theorem bC {D:Array Bool} {i j:Nat} (h:i<D.size):(D.setIfInBounds i true).getD j false=if j=i then true else D.getD j false:=by
  simp only [Array.getD_eq_getD_getElem?,Array.getElem?_setIfInBounds];by_cases e:i=j
  · subst e;simp [h]
  · rw [if_neg e,if_neg (fun h=>e h.symm)]
theorem gN {ops:Array Oper} {D:Array Bool} (hc:UG ops D) {i j:Nat} (hi:i∈Region.ready .any ops D) (h:reach ops ops.size i j=true):D.getD j false=true:=by
  obtain ⟨_,o,ho,ha⟩:=mem_ready.1 hi;exact Qy hc ho ha h
theorem lI {ops:Array Oper} {D:Array Bool} (hedge: ∀(j:Nat) o,ops[j]?=some o-> ∀e∈o.after,Region.binds .any e=true->e.on<j) (hsz:D.size=ops.size) (h:Region.ready .any ops D=[]): ∀j,j<ops.size->D.getD j false=true:=by
  intro j
  induction j using Nat.strongRecOn with
  | _ j ih=>
    intro hj;cases hd:D.getD j false with
    | true=>rfl
    | false=>
      have hmem:j∈Region.ready .any ops D:=mem_ready.2 ⟨by rw [Rj (by omega)];exact hd,ops[j],Array.getElem?_eq_getElem hj,fun e he hb=>by
        have:=hedge j _ (Array.getElem?_eq_getElem hj) e he hb;exact ih e.on this (by omega)⟩
      rw [h] at hmem;cases hmem
theorem eg {ops:Array Oper} {D:Array Bool} (hc:UG ops D) (hsz:D.size=ops.size) {i:Nat} (hi:i∈Region.ready .any ops D):UG ops (D.setIfInBounds i true):=by
  obtain ⟨h0,o,ho,ha⟩:=mem_ready.1 hi;have hlt:i<D.size:=by rw [hsz];exact (Array.getElem?_eq_some_iff.1 ho).1
  intro j o' hj hd e he hb;rw [bC hlt] at hd |-;split
  · rfl
  · split at hd
    · rename_i e1;subst e1
      rw [ho] at hj;cases hj;exact ha e he hb
    · exact hc j o' hj hd e he hb
theorem Si: ∀ {gl:List Cs} {g:Cs} {t:Nat},g∈gl->g.dst=some t->t∈Hk gl
  | [],g,t,h,_=>by cases h
  | g'::gl,g,t,h,hd=>by
    simp only [Hk,List.mem_append];rcases List.mem_cons.1 h with rfl | h
    · exact .inl (by simp [hd])
    · exact .inr (Si h hd)
def Cs.reads (o:Cs):List Nat:=o.op.Am++(match o.guard with | some (s,_)=>[s] | none=>[])
theorem Lt {q:Bool} {o:Cs} {F F':Frame} {S:AB} {K:AA->AB->Prop} (hs: ∀t∈o.reads,F.get t=F'.get t) (h:KK P q o F S K):KK P q o F' S K:=by
  have hsl: ∀t∈o.op.Am,F.get t=F'.get t:=fun t ht=>hs t (by simp [Cs.reads,ht]);unfold KK at h |-;split
  · rename_i hg;rw [hg] at h;exact SN hsl h
  · rename_i g want hg
    rw [hg] at h;simp only at h;rw [<-hs g (by simp [Cs.reads,hg])];generalize F.get g=c at*;cases c<;>cases want<;>simp only at h |- <;>first | exact h.elim | exact h | exact SN hsl h
theorem Vr {b:Bool} {y:AA} {Q:AA->Prop} (h:Al b y Q): ∃x,Q x/\ ∀Q':AA->Prop,Q' x->Al b y Q':=by
  cases b
  · exact ⟨y,h,fun _ h=>h⟩
  · cases y<;>simp only [Al] at h |- <;>first | exact h.elim | exact ⟨_,h,fun _ h=>h⟩ | skip
    rename_i b;cases b
    · exact ⟨.ff,h.2 rfl,fun _ h=>⟨fun e=>(by cases e),fun _=>h⟩⟩
    · exact ⟨.tt,h.1 rfl,fun _ h=>⟨fun _=>h,fun e=>(by cases e)⟩⟩
theorem Lu {q:Bool} {o:Cs} {F:Frame} {S:AB} {K:AA->AB->Prop} (hq:o.op.quiet=true) (hc:q=true\/o.op.DD=false) (h:KK P q o F S K):
    ∃x,K x S/\ ∀(F':Frame) (K':AA->AB->Prop),(∀t∈o.reads,F.get t=F'.get t)->K' x S->KK P q o F' S K':=by
  have hop:Lv P q F S (fun x S'=>Al o.G9 x fun x=>K x S') o.op-> ∃x,K x S/\ ∀(F':Frame) (K':AA->AB->Prop),(∀t∈o.op.Am,F.get t=F'.get t)->K' x S->Lv P q F' S (fun x S'=>Al o.G9 x fun x=>K' x S') o.op:=fun h=>by
    obtain ⟨y,h1,h2⟩:=R7 hq hc h;obtain ⟨x,h3,h4⟩:=Vr h1;exact ⟨x,h3,fun F' K' hs hk=>h2 F' _ hs (h4 _ hk)⟩
  unfold KK at h;split at h
  · rename_i hg
    obtain ⟨x,h1,h2⟩:=hop h;refine ⟨x,h1,fun F' K' hs hk=>?_⟩;unfold KK;rw [hg];exact h2 F' K' (fun t ht=>hs t (by simp [Cs.reads,ht])) hk
  · rename_i g want hg
    have other: ∀ {F':Frame},(∀t∈o.reads,F.get t=F'.get t)->F'.get g=F.get g:=fun hs=>(hs g (by simp [Cs.reads,hg])).symm;have sl: ∀ {F':Frame},(∀t∈o.reads,F.get t=F'.get t)-> ∀t∈o.op.Am,F.get t=F'.get t:=fun hs t ht=>hs t (by simp [Cs.reads,ht]);cases hcv:F.get g<;>cases want<;>rw [hcv] at h<;>simp only at h<;>first | exact h.elim | skip
    all_goals first
      | (obtain ⟨x,h1,h2⟩:=hop h
         refine ⟨x,h1,fun F' K' hs hk=>?_⟩;unfold KK;rw [hg];simp only;rw [other hs,hcv];exact h2 F' K' (sl hs) hk)
      | (refine ⟨_,h,fun F' K' hs hk=>?_⟩
         unfold KK;rw [hg];simp only;rw [other hs,hcv];exact hk)
theorem qA {q:Bool} {o:Cs} {F:Frame} {S:AB} {K:AA->AB->Prop} (hf:o.op.free=true) (h:KK P q o F S K):
    ∃x,K x S/\ ∀(F':Frame) (S':AB) (K':AA->AB->Prop),(∀t∈o.reads,F.get t=F'.get t)->K' x S'->KK P q o F' S' K':=by
  have hop:Lv P q F S (fun x S'=>Al o.G9 x fun x=>K x S') o.op-> ∃x,K x S/\ ∀(F':Frame) (S':AB) (K':AA->AB->Prop),(∀t∈o.op.Am,F.get t=F'.get t)->K' x S'->Lv P q F' S' (fun x S'=>Al o.G9 x fun x=>K' x S') o.op:=fun h=>by
    obtain ⟨y,h1,h2⟩:=tD hf h;obtain ⟨x,h3,h4⟩:=Vr h1;exact ⟨x,h3,fun F' S' K' hs hk=>h2 F' S' _ hs (h4 _ hk)⟩
  unfold KK at h;split at h
  · rename_i hg
    obtain ⟨x,h1,h2⟩:=hop h;refine ⟨x,h1,fun F' S' K' hs hk=>?_⟩;unfold KK;rw [hg];exact h2 F' S' K' (fun t ht=>hs t (by simp [Cs.reads,ht])) hk
  · rename_i g want hg
    have other: ∀ {F':Frame},(∀t∈o.reads,F.get t=F'.get t)->F'.get g=F.get g:=fun hs=>(hs g (by simp [Cs.reads,hg])).symm;have sl: ∀ {F':Frame},(∀t∈o.reads,F.get t=F'.get t)-> ∀t∈o.op.Am,F.get t=F'.get t:=fun hs t ht=>hs t (by simp [Cs.reads,ht]);cases hcv:F.get g<;>cases want<;>rw [hcv] at h<;>simp only at h<;>first | exact h.elim | skip
    all_goals first
      | (obtain ⟨x,h1,h2⟩:=hop h
         refine ⟨x,h1,fun F' S' K' hs hk=>?_⟩;unfold KK;rw [hg];simp only;rw [other hs,hcv];exact h2 F' S' K' (sl hs) hk)
      | (refine ⟨_,h,fun F' S' K' hs hk=>?_⟩
         unfold KK;rw [hg];simp only;rw [other hs,hcv];exact hk)
theorem St.front {E:Env} {fz:Nat->Prop} {S:AB} {w:World} {o:Ob} (st:St E fz (S++[o]) w):St E fz S w:=by
  have up: ∀ {l:Nat} {x:Ob},S[l]?=some x->(S++[o])[l]?=some x:=fun {l x} h=>by
    rw [List.getElem?_append_left (List.getElem?_eq_some_iff.1 h).1];exact h
  exact ⟨fun l x h=>st.ok l x (up h),fun l l' b ⟨x,h1,h2⟩ ⟨y,g1,g2⟩=>st.sep l l' b ⟨x,up h1,h2⟩ ⟨y,up g1,g2⟩,st.Fx,st.fresh⟩
theorem SU {P:Program} {f:FuncId} {args:List AA} {S:AB} {r0:AA} {o:Ob} (h:AU P f args S (fun r S'=>r=r0/\S'=S)):AU P f args (S++[o]) (fun r S'=>r=r0/\S'=S++[o]):=by
  refine ⟨fun E fz w vals st hrel=>(h.out E fz w vals st.front hrel).mono ?_⟩;rintro e w' ⟨r,S',v,E',fz',h1,hx,st',hr,rfl,rfl⟩;have lt: ∀ {l:Nat} {x:Ob},S'[l]?=some x->l<S'.length:=fun h=>(List.getElem?_eq_some_iff.1 h).1;have up: ∀ {l:Nat} {x:Ob},S'[l]?=some x->(S'++[o])[l]?=some x:=fun {l x} h=>by
    rw [List.getElem?_append_left (lt h)];exact h
  have last:(S'++[o])[S'.length]?=some o:=by simp
  have split: ∀ {l:Nat} {x:Ob},(S'++[o])[l]?=some x->S'[l]?=some x\/(l=S'.length/\x=o):=fun {l x} h=>by
    rcases Nat.lt_or_ge l S'.length with c | c
    · rw [List.getElem?_append_left c] at h;exact .inl h
    · have:=(List.getElem?_eq_some_iff.1 h).1
      simp at this;have e:l=S'.length:=by omega
      subst e;rw [last] at h;cases h;exact .inr ⟨rfl,rfl⟩
  have ownUp: ∀ {b:Nat},Own E S' b->Own E (S'++[o]) b:=fun ⟨l,x,q1,q2⟩=>⟨l,x,up q1,q2⟩
  have oat: ∀ {b:Nat},AR E o=some b->DH E (S'++[o]) S'.length b:=fun hb=>⟨o,last,hb⟩
  have okO:=st.ok _ _ last;have blk:=okO.block hx.env;have notin: ∀ {b:Nat},AR E o=some b-> ¬Own E S' b:=fun hb ⟨l,x,q1,q2⟩=>by
    have:=st.sep l S'.length _ ⟨x,up q1,q2⟩ (oat hb);have:=lt q1;omega
  have safe: ∀b,AR E o=some b->w'.heap[b]?=w.heap[b]?/\ ¬fz' b:=fun b hb=>by
    obtain ⟨l1,l2⟩:=st.EU (oat hb);refine ⟨hx.AW b l1 (notin hb),fun hf=>?_⟩;rcases hx.Gi b hf with h | h | h
    · exact l2 h
    · exact notin hb h
    · omega
  have e1: ∀b,fz' b->fz b\/Own E (S'++[o]) b\/w.heap.size<=b:=fun b hb=>by
    rcases hx.Gi b hb with h | h | h
    · exact .inl h
    · exact .inr (.inl (ownUp h))
    · exact .inr (.inr h)
  have e2: ∀b,Own E' (S'++[o]) b->Own E (S'++[o]) b\/w.heap.size<=b:=fun b ⟨l,x,q1,q2⟩=>by
    rcases split q1 with h | ⟨rfl,rfl⟩
    · rcases hx.own b ⟨l,x,h,q2⟩ with h | h
      · exact .inl (ownUp h)
      · exact .inr h
    · rw [blk] at q2;exact .inl ⟨_,oat q2⟩
  have e3: ∀(l:Nat) x,(S'++[o])[l]?=some x->P5 E' fz' w' x:=fun l x hl=>by
    rcases split hl with h | ⟨rfl,rfl⟩
    · exact st'.ok l x h
    · exact okO.mono hx.env hx.WI (st.front.Yq hx) safe
  have e4: ∀l l' b,DH E' (S'++[o]) l b->DH E' (S'++[o]) l' b->l=l':=fun l l' b ⟨x,q1,q2⟩ ⟨y,g1,g2⟩=>by
    have cross: ∀ {l b:Nat} {x:Ob},S'[l]?=some x->AR E' x=some b->AR E' o=some b->False:=fun {l b x} h1 h2 h3=>by
      rw [blk] at h3;rcases hx.own b ⟨l,x,h1,h2⟩ with h | h
      · exact notin h3 h
      · have:=(st.EU (oat h3)).1;omega
    rcases split q1 with h | ⟨k1,k2⟩<;>rcases split g1 with h' | ⟨k3,k4⟩
    · exact st'.sep l l' b ⟨x,h,q2⟩ ⟨y,h',g2⟩
    · rw [k4] at g2;exact (cross h q2 g2).elim
    · rw [k2] at q2;exact (cross h' g2 q2).elim
    · rw [k1,k3]
  exact ⟨_,_,v,E',fz',h1,⟨hx.env,hx.WI,e1,fun b hb hn=>hx.AW b hb fun ho=>hn (ownUp ho),e2,hx.size,hx.os,hx.output,hx.tape⟩,⟨e3,e4,st'.Fx,st'.fresh⟩,hr,rfl,rfl⟩
theorem dy {P:Program} {f:FuncId} {args:List AA} {S:AB} {R:AA->AB->Prop} {i:Nat} {o:Ob} (hd:S[i]?=some .dead) (hR: ∀r S',R r S'->S'[i]?=some .dead) (h:AU P f args S R):AU P f args (S.set i o) (fun r T=> ∃S',R r S'/\T=S'.set i o):=by
  have vp:(S.set i o)[i]?=some o:=List.getElem?_set_self (List.getElem?_eq_some_iff.1 hd).1;have nd: ∀ {E:Env} {x:Ob} {b:Nat},AR E x=some b->x≠ .dead:=fun {E x b} h e=>by subst e;simp [AR] at h
  have old: ∀ {S:AB} {l:Nat} {x:Ob},S[i]?=some .dead->S[l]?=some x->x≠ .dead->(S.set i o)[l]?=some x:=fun {S l x} hd h hx=>by
    rw [List.getElem?_set_ne (fun e=>by subst e;rw [hd] at h;cases h;exact hx rfl)];exact h
  have split: ∀ {S:AB} {l:Nat} {x:Ob},S[i]?=some .dead->(S.set i o)[l]?=some x->(l≠i/\S[l]?=some x)\/(l=i/\x=o):=fun {S l x} hd h=>by
    by_cases e:l=i
    · subst e;rw [List.getElem?_set_self (List.getElem?_eq_some_iff.1 hd).1] at h;cases h;exact .inr ⟨rfl,rfl⟩
    · rw [List.getElem?_set_ne (Ne.symm e)] at h;exact .inl ⟨e,h⟩
  refine ⟨fun E fz w vals st hrel=>?_⟩;have frt:St E fz S w:=⟨fun l x h=>by
      by_cases e:x= .dead
      · subst e;trivial
      · exact st.ok l x (old hd h e),fun l l' b ⟨x,h1,h2⟩ ⟨y,g1,g2⟩=>st.sep l l' b ⟨x,old hd h1 (nd h2),h2⟩ ⟨y,old hd g1 (nd g2),g2⟩,st.Fx,st.fresh⟩
  refine (h.out E fz w vals frt hrel).mono ?_;rintro e w' ⟨r,S',v,E',fz',h1,hx,st',hr,hRr⟩;have hd':=hR r S' hRr;have ownUp: ∀ {b:Nat},Own E S b->Own E (S.set i o) b:=fun ⟨l,x,q1,q2⟩=>⟨l,x,old hd q1 (nd q2),q2⟩
  have oat: ∀ {b:Nat},AR E o=some b->DH E (S.set i o) i b:=fun hb=>⟨o,vp,hb⟩
  have okO:=st.ok _ _ vp;have blk:=okO.block hx.env;have notin: ∀ {b:Nat},AR E o=some b-> ¬Own E S b:=fun hb ⟨l,x,q1,q2⟩=>by
    have:=st.sep l i _ ⟨x,old hd q1 (nd q2),q2⟩ (oat hb);subst this;rw [hd] at q1;cases q1;exact nd q2 rfl
  have safe: ∀b,AR E o=some b->w'.heap[b]?=w.heap[b]?/\ ¬fz' b:=fun b hb=>by
    obtain ⟨l1,l2⟩:=st.EU (oat hb);refine ⟨hx.AW b l1 (notin hb),fun hf=>?_⟩;rcases hx.Gi b hf with h | h | h
    · exact l2 h
    · exact notin hb h
    · omega
  have e1: ∀b,fz' b->fz b\/Own E (S.set i o) b\/w.heap.size<=b:=fun b hb=>by
    rcases hx.Gi b hb with h | h | h
    · exact .inl h
    · exact .inr (.inl (ownUp h))
    · exact .inr (.inr h)
  have e2: ∀b,Own E' (S'.set i o) b->Own E (S.set i o) b\/w.heap.size<=b:=fun b ⟨l,x,q1,q2⟩=>by
    rcases split hd' q1 with ⟨_,h⟩ | ⟨rfl,rfl⟩
    · rcases hx.own b ⟨l,x,h,q2⟩ with h | h
      · exact .inl (ownUp h)
      · exact .inr h
    · rw [blk] at q2;exact .inl ⟨_,oat q2⟩
  have e3: ∀(l:Nat) x,(S'.set i o)[l]?=some x->P5 E' fz' w' x:=fun l x hl=>by
    rcases split hd' hl with ⟨_,h⟩ | ⟨rfl,rfl⟩
    · exact st'.ok l x h
    · exact okO.mono hx.env hx.WI (frt.Yq hx) safe
  have e4: ∀l l' b,DH E' (S'.set i o) l b->DH E' (S'.set i o) l' b->l=l':=fun l l' b ⟨x,q1,q2⟩ ⟨y,g1,g2⟩=>by
    have cross: ∀ {l b:Nat} {x:Ob},S'[l]?=some x->AR E' x=some b->AR E' o=some b->False:=fun {l b x} h1 h2 h3=>by
      rw [blk] at h3;rcases hx.own b ⟨l,x,h1,h2⟩ with h | h
      · exact notin h3 h
      · have:=(st.EU (oat h3)).1;omega
    rcases split hd' q1 with ⟨_,h⟩ | ⟨k1,k2⟩<;>rcases split hd' g1 with ⟨_,h'⟩ | ⟨k3,k4⟩
    · exact st'.sep l l' b ⟨x,h,q2⟩ ⟨y,h',g2⟩
    · rw [k4] at g2;exact (cross h q2 g2).elim
    · rw [k2] at q2;exact (cross h' g2 q2).elim
    · rw [k1,k3]
  exact ⟨r,S'.set i o,v,E',fz',h1,⟨hx.env,hx.WI,e1,fun b hb hn=>hx.AW b hb fun ho=>hn (ownUp ho),e2,hx.size,hx.os,hx.output,hx.tape⟩,⟨e3,e4,st'.Fx,st'.fresh⟩,hr,S',hRr,rfl⟩
theorem Nl {S:AB} {l v:Nat} {o:Ob} {K:Nat->List AA->Prop} (h:JK S l v K):JK (S++[o]) l v K:=by
  obtain ⟨k,cs,h1,h2⟩:=AN.1 h;refine AN.2 ⟨k,cs,?_,h2⟩;rw [List.getElem?_append_left (List.getElem?_eq_some_iff.1 h1).1];exact h1
theorem XW {S:AB} {n:Nat} {ag:Bool} {x:AA} {o:Ob} {K:AA->Prop} (h:ID S n ag x K):ID (S++[o]) n ag x K:=by
  cases x<;>simp only [ID] at h |- <;>first | exact h.elim | exact h | exact Nl h
theorem oR {S:AB} {n i:Nat} {ag:Bool} {x:AA} {o:Ob} {K:AA->Prop} (hd:S[i]?=some .dead) (h:ID S n ag x K):ID (S.set i o) n ag x K:=by
  cases x<;>simp only [ID] at h |- <;>first | exact h.elim | exact h | skip
  obtain ⟨k,cs,h1,h2⟩:=AN.1 h;refine AN.2 ⟨k,cs,?_,h2⟩;rw [List.getElem?_set_ne (fun e=>by subst e;rw [hd] at h1;cases h1)];exact h1
theorem Qn {F:Frame} {S:AB} {i:Nat} {o:Ob} {x:AA} {so:Dw} (hl:so.Yw=true) (hd:S[i]?=some .dead) (h:AF P F S (fun y T=>y=x/\T=S) so):AF P F (S.set i o) (fun y T=>y=x/\T=S.set i o) so:=by
  cases so<;>simp only [Dw.Yw] at hl<;>first | (cases hl;done) | skip
  case load n ag y=>
    simp only [AF,AD] at h |-;obtain ⟨z,h1,h2⟩:=Ju _ (oR (o:=o) hd h);exact h2 _ ⟨h1.1,by trivial⟩
  case Ke q ok z m k=>
    simp only [AF,AD] at h |-;generalize rd F m=X at*;refine ⟨h.1,?_⟩;have h:=h.2;cases X<;>first | exact h.elim | skip
    · obtain ⟨es,hl,h1,h2,_⟩:=Co.1 h
      refine Co.2 ⟨es,?_,h1,h2,by trivial⟩;rw [List.getElem?_set_ne (fun e=>by subst e;rw [hd] at hl;cases hl)];exact hl
    · exact ⟨h.1,by trivial⟩
theorem eM {S:AB} {x:AA} {o:Ob} {K:List UInt8->Prop} (h:Mh S x K):Mh (S++[o]) x K:=by
  cases x<;>simp only [Mh] at h |- <;>first | exact h.elim | exact h | exact Nl h
theorem gM {F:Frame} {S:AB} {o:Ob} {x:AA} {so:Dw} (hq:so.quiet=true) (h:C2 P F S (fun y T=>y=x/\T=S) so):C2 P F (S++[o]) (fun y T=>y=x/\T=S++[o]) so:=by
  by_cases hf:so.free=true
  · obtain ⟨z,h1,h2⟩:=tD hf (show Lv P true F S (fun y T=>y=x/\T=S) so from h)
    exact h2 F (S++[o]) (fun y T=>y=x/\T=S++[o]) (fun _ _=>rfl) ⟨h1.1,rfl⟩
  cases so<;>simp only [Dw.quiet] at hq<;>first | (cases hq;done) | (exact (hf rfl).elim) | (exact (hf hq).elim) | skip
  case call f xs=>
    simp only [C2,Ap] at h |-;obtain ⟨r0,h1,h2,h3⟩:=h;exact ⟨r0,SU h1,h2,by trivial⟩
  case Fo y xs=>
    simp only [C2,AD,Ap] at h |-;generalize rd F y=X at*;cases X<;>first | exact h.elim | skip
    rename_i f first cap
    cases f<;>first | exact h.elim | skip
    cases first<;>first | exact h.elim | skip
    obtain ⟨hc,r0,h1,h2,h3⟩:=h;exact ⟨hc,r0,SU h1,h2,by trivial⟩
  case qW y=>
    simp only [C2,AF,AD] at h |-;obtain ⟨z,h1,h2⟩:=Wx _ (eM (o:=o) h);exact h2 _ ⟨h1.1,by trivial⟩
  case load n ag y=>
    simp only [C2,AF,AD] at h |-;obtain ⟨z,h1,h2⟩:=Ju _ (XW (o:=o) h);exact h2 _ ⟨h1.1,by trivial⟩
  case Ke q ok z m k=>
    simp only [C2,AF,AD] at h |-;generalize rd F m=X at*;refine ⟨h.1,?_⟩;have h:=h.2;cases X<;>first | exact h.elim | skip
    · obtain ⟨es,hl,h1,h2,_⟩:=Co.1 h
      refine Co.2 ⟨es,?_,h1,h2,by trivial⟩;rw [List.getElem?_append_left (List.getElem?_eq_some_iff.1 hl).1];exact hl
    · exact ⟨h.1,by trivial⟩
  case again t n ag y=>
    simp only [C2,AF,AD] at h |-;obtain ⟨z,h1,h2⟩:=Ju _ (XW (o:=o) h);exact h2 _ ⟨h1.1,h1.2.1,by trivial⟩
  case slice3 k y a b=>
    simp only [C2,AF,AD] at h |-;obtain ⟨n,h1,h2⟩:=MD _ h;generalize rd F y=X at*;cases X<;>simp only at h1 h2 |- <;>first | exact h1.2.elim | skip
    · exact h2 _ ⟨h1.1,h1.2.1,h1.2.2.1,by trivial⟩
    · refine h2 _ ⟨h1.1,h1.2.1,Nl ?_⟩
      obtain ⟨k',cs,hl,e,hk⟩:=AN.1 h1.2.2;exact AN.2 ⟨k',cs,hl,e,hk.1,by trivial⟩
  case slice k y lo hi=>
    cases k with
    | zero=>exact (hf rfl).elim
    | succ k=>
      simp only [C2,AF,AD] at h |-;generalize rd F y=X at*;cases X<;>first | exact h.elim | skip
      all_goals
        simp only at h |-;obtain ⟨hh,h1,h2⟩:=fA _ h;obtain ⟨j,h3,h4⟩:=fB _ h1
      · exact h2 _ (h4 _ ⟨h3.1,h3.2.1,h3.2.2.1,by trivial⟩)
      · refine h2 _ (h4 _ ⟨h3.1,h3.2.1,Nl ?_⟩)
        obtain ⟨k',cs,hl,e,hk⟩:=AN.1 h3.2.2;exact AN.2 ⟨k',cs,hl,e,hk.1,by trivial⟩
      · exact h2 _ (h4 _ ⟨h3.1,h3.2.1,h3.2.2.1,h3.2.2.2.1,by trivial⟩)
  case D_ k ar y i=>
    simp only [C2,AF,AD] at h |-;generalize rd F y=X at*;obtain ⟨j,h1,h2⟩:=MD _ h;cases X<;>cases ar<;>simp only at h1 h2 |- <;>first | exact h1.elim | skip
    · exact h2 _ ⟨h1.1,h1.2.1,by trivial⟩
    · exact h2 _ ⟨h1.1,h1.2.1,by trivial⟩
    · obtain ⟨g1,g2⟩:=h1
      obtain ⟨k',cs,hl,e,hk⟩:=AN.1 g2;exact h2 _ ⟨g1,Nl (AN.2 ⟨k',cs,hl,e,hk.1,by trivial⟩)⟩
    · obtain ⟨g1,xs,g2,g3⟩:=h1
      exact h2 _ ⟨g1,xs,g2,g3.1,by trivial⟩
theorem qB {q:Bool} {g:Cs} {F:Frame} {S:AB} {o:Ob} {x:AA} (hq:g.op.quiet=true) (hc:q=true\/g.op.DD=false) (h:KK P q g F S (fun y T=>y=x/\T=S)):KK P q g F (S++[o]) (fun y T=>y=x/\T=S++[o]):=by
  have hop:Lv P q F S (fun y T=>Al g.G9 y fun y=>y=x/\T=S) g.op->Lv P q F (S++[o]) (fun y T=>Al g.G9 y fun y=>y=x/\T=S++[o]) g.op:=fun h=>by
    obtain ⟨y,h1,h2⟩:=R7 hq hc h;have h3:=h2 F (fun z T=>z=y/\T=S) (fun _ _=>rfl) ⟨rfl,rfl⟩;have h4:C2 P F S (fun z T=>z=y/\T=S) g.op:=by
      cases q
      · rw [Lw (hc.resolve_left (by simp))];exact h3
      · exact h3
    have h5:=gM (o:=o) hq h4;have h6:Lv P q F (S++[o]) (fun z T=>z=y/\T=S++[o]) g.op:=by
      cases q
      · exact dd h5
      · exact h5
    refine KH h6 ?_;rintro z T ⟨rfl,rfl⟩;exact F7 h1 fun z hz=>⟨hz.1,rfl⟩
  unfold KK at h |-;split
  · rename_i hg;rw [hg] at h;exact hop h
  · rename_i s want hg
    rw [hg] at h;simp only at h;generalize F.get s=c at*;cases c<;>cases want<;>simp only at h |- <;>first | exact h.elim | exact ⟨h.1,by trivial⟩ | exact hop h
theorem uK {F:Frame} {S:AB} {K:AA->AB->Prop} {so:Dw} (hn:so.XN=true) (h:AF P F S K so):AF P F S (fun y T=>K y T/\ ∃o,T=S++[o]) so:=by
  cases so<;>simp only [Dw.XN] at hn<;>first | (cases hn;done) | skip
  case DU k=>simp only [AF,Av] at h |-;exact fun v=>⟨h v,_,rfl⟩
  case Mq=>simp only [AF,Av] at h |-;exact fun v=>⟨h v,_,rfl⟩
  case K6 x=>
    simp only [AF,AD] at h |-;generalize rd F x=X at*;cases X<;>first | exact h.elim | skip
    obtain ⟨es,h1,h2⟩:=Co.1 h;simp only [Av] at h2;refine Co.2 ⟨es,h1,?_⟩;simp only [Av];exact fun v=>⟨h2 v,_,rfl⟩
  case alloc k z=>simp only [AF,Av] at h |-;exact fun v=>⟨h v,_,rfl⟩
  case box k x=>
    simp only [AF,Av,AD] at h |-;exact N7 h fun c h v=>⟨h v,_,rfl⟩
  case A7 ro len k z ps=>
    cases ro
    · simp only [AF,Av] at h |-
      exact V0 h fun c h v=>⟨h v,_,rfl⟩
    · cases hn
  case qN x=>
    simp only [AF,Av,AD] at h |-;generalize rd F x=X at*;cases X<;>first | exact h.elim | exact fun v=>⟨h v,_,rfl⟩
  case Gy k b z x y=>
    simp only [AF,Av,AD] at h |-;obtain ⟨kk,j,e,h1,h2,h3⟩:=EK h;rw [e] at h1 |-;exact ⟨j,rfl,h1,h2,fun v=>⟨h3 v,_,rfl⟩⟩
theorem cC {so:Dw} (hn:so.XN=true):so.DD=false:=by
  cases so<;>simp only [Dw.XN] at hn<;>first | rfl | cases hn
theorem se {q:Bool} {g:Cs} {F:Frame} {S:AB} {K:AA->AB->Prop} (hn:g.op.XN=true) (h:KK P q g F S K):KK P q g F S (fun y T=>K y T/\(T=S\/ ∃o,T=S++[o])):=by
  have hop:Lv P q F S (fun y T=>Al g.G9 y fun y=>K y T) g.op->Lv P q F S (fun y T=>Al g.G9 y fun y=>K y T/\(T=S\/ ∃o,T=S++[o])) g.op:=fun h=>by
    rw [JJ (cC hn)] at h |-;exact jH (cC hn) (uK hn h) fun z T hz=>F7 hz.1 fun z h=>⟨h,.inr hz.2⟩
  unfold KK at h |-;split
  · rename_i hg;rw [hg] at h;exact hop h
  · rename_i s want hg
    rw [hg] at h;simp only at h;generalize F.get s=c at*;cases c<;>cases want<;>simp only at h |- <;>first | exact h.elim | exact ⟨h,.inl rfl⟩ | exact ⟨h,by simp⟩ | (simpa using h) | exact hop h
theorem put_comm {F:Frame} {a b:Cs} {x y:AA} (hz:JF a b=false) (t:Nat):(AK (AK F a.dst x) b.dst y).get t=(AK (AK F b.dst y) a.dst x).get t:=by
  simp only [Gp];by_cases h1:b.dst=some t
  · rw [if_pos h1]
    rw [if_neg]
    · rw [if_pos h1]
    · intro h2
      simp [JF,h2,Cs.names,h1] at hz
  · rw [if_neg h1,if_neg h1]
theorem Gl {F:Frame} {a b:Cs} {x:AA} (hz:JF a b=false): ∀t∈b.reads,(AK F a.dst x).get t=F.get t:=fun t ht=>by
  rw [Gp,if_neg];intro h;have hm:t∈b.names:=by
    simp only [Cs.reads,List.mem_append] at ht;simp only [Cs.names,List.mem_append];rcases ht with h | h
    · exact .inl (.inr h)
    · exact .inr h
  simp [JF,h,hm] at hz
theorem Qc {a b:Cs} (hz:JF a b=false):JF b a=false:=by
  simp only [JF,Bool.or_eq_false_iff] at hz |-;exact ⟨hz.2,hz.1⟩
theorem Vj {F:Frame} {so:Dw} {d:Nat} (h:so.gQ=some d) (hcl:so.n4=false): ∃(C:Prop) (O:Nat->Ob) (V:Nat->Nat->AA),∀(S:AB) (K:AA->AB->Prop),
    AF P F S K so↔(C/\0<d/\d<=S.length/\S[S.length-d]?=some .dead/\ ∀v,K (V (S.length-d) v) (S.set (S.length-d) (O v))):=by
  cases so<;>simp only [Dw.gQ,reduceCtorEq] at h
  case Mr d k b z x y=>
    cases h;by_cases hx: ∃(kk:IntKind) (j:Nat),rd F x= .int kk (j:Int)
    · obtain ⟨kk,j,e⟩:=hx
      refine ⟨rd F y=rd F x/\b*j<=140737488355328,fun v=>.row v k (List.replicate j z).flatten,fun l v=>.sl l v 0 j,fun S K=>?_⟩;simp only [AF,AD,e,LA];constructor
      · rintro ⟨j',e',h1,h2,h3,h4,h5,h6⟩
        have:j'=j:=by omega
        subst this;exact ⟨⟨h1,h2⟩,h3,h4,h5,h6⟩
      · rintro ⟨⟨h1,h2⟩,h3,h4,h5,h6⟩
        exact ⟨j,rfl,h1,h2,h3,h4,h5,h6⟩
    · refine ⟨False,fun _=>.dead,fun _ _=>.Ci,fun S K=>⟨fun h=>?_,fun h=>h.1.elim⟩⟩
      simp only [AF,AD] at h;obtain ⟨kk,j,e,_⟩:=EK h;exact absurd ⟨kk,j,e⟩ hx
  case Mk d k z=>
    cases h;exact ⟨True,fun v=>.row v k z,fun l v=>.ptr l v 0,fun S K=>by simp only [AF,true_and]⟩
  case JG d=>
    cases h;exact ⟨True,fun v=>.Cw v [],fun l v=>.map l v,fun S K=>by simp only [AF,true_and]⟩
  case Kw d k f xs zs=>
    cases h;exact ⟨_,fun v=>.row v k (zs.map (rd F)),fun l v=>.ptr l v 0,fun S K=>by simp only [AF,Ap];exact Iff.rfl⟩
  case NF d k f xs=>cases hcl
theorem lq {F:Frame} {so:Dw} {d:Nat} (h:so.gQ=some d): ∃(ι:Type) (C:ι->AB->Prop) (O:ι->Nat->Ob) (V:ι->Nat->Nat->AA),(∀(i:ι) (S:AB) (j:Nat) (o:Ob),S[j]?=some .dead->C i S->C i (S.set j o))/\ ∀(S:AB) (K:AA->AB->Prop),
    AF P F S K so↔ ∃i,C i S/\0<d/\d<=S.length/\S[S.length-d]?=some .dead/\ ∀v,K (V i (S.length-d) v) (S.set (S.length-d) (O i v)):=by
  cases hc:so.n4 with
  | false=>
    obtain ⟨C,O,V,f⟩:=Vj (P:=P) (F:=F) h hc;exact ⟨Unit,fun _ _=>C,fun _=>O,fun _=>V,fun _ _ _ _ _ h=>h,fun S K=>(f S K).trans ⟨fun h=>⟨(),h⟩,fun ⟨_,h⟩=>h⟩⟩
  | true=>
    cases so<;>simp only [Dw.n4] at hc<;>first | (cases hc;done) | skip
    rename_i d' k f xs;cases h;refine ⟨Nat×List AA,fun i S=>AU P f (xs.map (rd F)) S (fun r S'=> ∃v,r= .sl S.length v 0 i.1/\S'=S++[.row v k i.2]),fun i v=>.row v k i.2,fun i l v=>.sl l v 0 i.1,fun i S j o hd hC=>?_,fun S K=>?_⟩
    · have hj:=(List.getElem?_eq_some_iff.1 hd).1
      refine C6 (dy hd ?_ hC) ?_
      · rintro r S' ⟨v,_,rfl⟩
        rw [List.getElem?_append_left hj];exact hd
      · rintro r T ⟨S',⟨v,rfl,rfl⟩,rfl⟩
        exact ⟨v,by rw [List.length_set],List.set_append_left _ _ hj⟩
    · simp only [AF,Ap]
      exact ⟨fun ⟨n,cs,h⟩=>⟨(n,cs),h⟩,fun ⟨i,h⟩=>⟨i.1,i.2,h⟩⟩
theorem Lf {q:Bool} {g:Cs} {F:Frame} {S:AB} {K:AA->AB->Prop} {d:Nat} (h1:g.guard=none) (h2:g.G9=false) (h3:g.op.gQ=some d):KK P q g F S K↔AF P F S K g.op:=by
  have hc:g.op.DD=false:=by cases hg:g.op<;>rw [hg] at h3<;>first | rfl | cases h3
  unfold KK;rw [h1,h2];simp only [Al];rw [JJ hc]
theorem swap {qa qb:Bool} {a b:Cs} {F:Frame} {S:AB} {R:Frame->AB->Prop} (hok:Y_ qa qb a b=true) (hR: ∀F F' S,(∀t,F.get t=F'.get t)->R F S->R F' S)
    (h:KK P qa a F S fun x S1=>KK P qb b (AK F a.dst x) S1 fun y S2=>R (AK (AK F a.dst x) b.dst y) S2):
    KK P qb b F S fun y S1=>KK P qa a (AK F b.dst y) S1 fun x S2=>R (AK (AK F b.dst y) a.dst x) S2:=by
  simp only [Y_,Bool.and_eq_true,Bool.or_eq_true,Bool.not_eq_true'] at hok;obtain ⟨hz,hok⟩:=hok;rcases hok with ((hf | ⟨⟨ha,hca⟩,hn | ⟨hb,hcb⟩⟩) | hok) | hok
  · obtain ⟨x,h1,h2⟩:=qA hf h
    have h3:=Lt (F':=F) (Gl hz) h1;exact D2 h3 fun y S2 hy=>h2 _ S2 _ (fun t ht=>(Gl (Qc hz) t ht).symm) (hR _ _ _ (put_comm hz) hy)
  · obtain ⟨x,h1,h2⟩:=Lu ha hca h
    have h3:=se hn (Lt (F':=F) (Gl hz) h1);refine D2 h3 fun y S2 hy=>?_;obtain ⟨hy,hS⟩:=hy;have h4:=h2 (AK F b.dst y) (fun z T=>z=x/\T=S) (fun t ht=>(Gl (Qc hz) t ht).symm) ⟨rfl,rfl⟩;have h5:KK P qa a (AK F b.dst y) S2 (fun z T=>z=x/\T=S2):=by
      rcases hS with rfl | ⟨o,rfl⟩
      · exact h4
      · exact qB ha hca h4
    refine D2 h5 ?_;rintro z T ⟨rfl,rfl⟩;exact hR _ _ _ (put_comm hz) hy
  · obtain ⟨x,h1,h2⟩:=Lu ha hca h
    have h3:=Lt (F':=F) (Gl hz) h1;obtain ⟨y,h4,h5⟩:=Lu hb hcb h3;exact h5 F _ (fun _ _=>rfl) (h2 _ _ (fun t ht=>(Gl (Qc hz) t ht).symm) (hR _ _ _ (put_comm hz) h4))
  · split at hok
    · rename_i d d' ha hb
      simp only [Bool.and_eq_true,bne_iff_ne,ne_eq,Option.isNone_iff_eq_none,Bool.not_eq_true'] at hok;obtain ⟨⟨⟨⟨⟨hd,ga⟩,gb⟩,ia⟩,ib⟩,icl⟩:=hok;have slo: ∀ {g h:Cs} {F:Frame} {v:AA},JF g h=false-> ∀t∈h.op.Am,(AK F g.dst v).get t=F.get t:=fun hz t ht=>Gl hz t (by simp [Cs.reads,ht]);obtain ⟨ι,Ca,Oa,Va,sa,fa⟩:=lq (P:=P) (F:=F) ha;obtain ⟨Cb,Ob_,Vb,fb⟩:=Vj (P:=P) (F:=F) hb icl;rw [Lf ga ia ha,fa] at h;obtain ⟨ai,c1,c2,c3,c4,h6⟩:=h;have hb':=fun v=>Nc (F':=F) (slo hz) ((Lf gb ib hb).1 (h6 v));obtain ⟨g1,g2,g3,g4,_⟩:=(fb _ _).1 (hb' 0);have hne:S.length-d≠S.length-d':=by rw [List.length_set] at g3;omega
      rw [List.length_set] at g3 g4;rw [List.getElem?_set_ne hne] at g4;rw [Lf gb ib hb,fb];refine ⟨g1,g2,g3,g4,fun v=>?_⟩;rw [Lf ga ia ha];refine Nc (F:=F) (fun t ht=>(slo (Qc hz) t ht).symm) ((fa _ _).2 ⟨ai,sa ai _ _ _ g4 c1,c2,by rw [List.length_set];exact c3,?_,fun v'=>?_⟩)
      · rw [List.length_set,List.getElem?_set_ne (Ne.symm hne)];exact c4
      · have hh:=((fb _ _).1 (hb' v')).2.2.2.2 v
        simp only [List.length_set] at hh |-;rw [List.set_comm _ _ hne] at hh;exact hR _ _ _ (put_comm hz) hh
    · cases hok
  · simp only [Bool.and_eq_true,Option.isNone_iff_eq_none,Bool.not_eq_true',Option.isSome_iff_exists] at hok
    obtain ⟨⟨⟨⟨⟨⟨hl,d,hb⟩,ga⟩,gb⟩,ia⟩,ib⟩,icl⟩:=hok;have hq:a.op.quiet=true/\a.op.DD=false:=by cases ha:a.op<;>rw [ha] at hl<;>simp only [Dw.Yw] at hl<;>first | (cases hl;done) | exact ⟨rfl,rfl⟩
    have open_: ∀ {F:Frame} {S:AB} {K:AA->AB->Prop},KK P qa a F S K↔Lv P qa F S K a.op:=fun {F S K}=>by
      unfold KK;rw [ga,ia];simp only [Al]
    have slo: ∀ {v:AA},∀t∈b.op.Am,(AK F a.dst v).get t=F.get t:=fun t ht=>Gl hz t (by simp [Cs.reads,ht]);have sla: ∀ {v:AA},∀t∈a.op.Am,F.get t=(AK F b.dst v).get t:=fun t ht=>(Gl (Qc hz) t (by simp [Cs.reads,ht])).symm;rw [open_] at h;obtain ⟨x,h1,h2⟩:=R7 hq.1 (.inr hq.2) h;rw [Lf gb ib hb] at h1;obtain ⟨Cb,Ob_,Vb,fb⟩:=Vj (P:=P) (F:=F) hb icl;obtain ⟨c1,c2,c3,c4,c5⟩:=(fb _ _).1 (Nc (F':=F) slo h1);rw [Lf gb ib hb,fb];refine ⟨c1,c2,c3,c4,fun v=>?_⟩;rw [open_];have g1:=h2 (AK F b.dst (Vb (S.length-d) v)) (fun z T=>z=x/\T=S) sla ⟨rfl,rfl⟩;rw [JJ hq.2] at g1;have g2:=Qn (o:=Ob_ v) hl c4 g1;rw [<-JJ (q:=qa) hq.2] at g2;refine KH g2 ?_;rintro z T ⟨rfl,rfl⟩;exact hR _ _ _ (put_comm hz) (c5 v)
theorem X8 {K:Frame->AB->Prop} (hK: ∀F F' S,(∀t,F.get t=F'.get t)->K F S->K F' S): ∀(l:List (Nat×Bool×Cs)) (F F':Frame) (S:AB),(∀t,F.get t=F'.get t)->RM P K l F S->RM P K l F' S
  | [],F,F',S,he,h=>hK _ _ _ he h
  | x::l,F,F',S,he,h=>by
    simp only [RM] at h |-;refine D2 (Lt (fun t _=>he t) h) fun y S' hy=>?_;have hh: ∀t,(AK F x.2.2.dst y).get t=(AK F' x.2.2.dst y).get t:=fun t=>by
      rw [Gp,Gp];split
      · rfl
      · exact he t
    exact ⟨PU (fun k _ t _=>hh t) hy.1,X8 hK l _ _ _ hh hy.2⟩
theorem de {K K':Frame->AB->Prop} (hk: ∀F S,K F S->K' F S): ∀(l:List (Nat×Bool×Cs)) {F:Frame} {S:AB},RM P K l F S->RM P K' l F S
  | [],F,S,h=>hk _ _ h
  | x::l,F,S,h=>by
    simp only [RM] at h |-;exact D2 h fun y S' hy=>⟨hy.1,de hk l hy.2⟩
theorem pull {q:Bool} {a:Cs} {F:Frame} {S:AB} {Q:AA->AB->Prop} {c:List (Nat×Nat×Bool×AL)} (hq:a.op.quiet=true) (hc:q=true\/a.op.DD=false) (hd: ∀k∈c,∀d,a.dst=some d->d ∉ k.1::k.2.2.2.Am)
    (h:KK P q a F S fun y S'=>ND (AK F a.dst y) S' c/\Q y S'):ND F S c/\KK P q a F S Q:=by
  obtain ⟨y,h1,h2⟩:=Lu hq hc h;refine ⟨PU (fun k hk t ht=>?_) h1.1,h2 F Q (fun _ _=>rfl) h1.2⟩;rw [Gp,if_neg fun e=>hd k hk t e ht]
theorem vU {qa qb:Bool} {a b:Cs} {k:Nat×Nat×Bool×AL} {F:Frame} {S:AB} {R:Frame->AB->Prop} (ha:a.op= .load k.2.1 k.2.2.1 k.2.2.2) (hd:a.dst=some k.1) (hg:a.guard=none) (hi:a.G9=false) (hs:k.1 ∉ k.2.2.2.Am)
    (hz:JF a b=false) (hR: ∀F F' S,(∀t,F.get t=F'.get t)->R F S->R F' S)
    (h:KK P qa a F S fun x S1=>KK P qb b (AK F a.dst x) S1 fun y S2=>aJ (AK (AK F a.dst x) b.dst y) S2 k/\R (AK (AK F a.dst x) b.dst y) S2):
    KK P qb b F S fun y S1=>KK P qa a (AK F b.dst y) S1 fun x S2=>R (AK (AK F b.dst y) a.dst x) S2:=by
  obtain ⟨x,h1,_⟩:=Lu (by rw [ha];rfl) (.inr (by rw [ha];rfl)) h;refine D2 (Lt (F':=F) (Gl hz) h1) fun y S2 ⟨hk,hy⟩=>?_;have hn: ∀t∈k.1::k.2.2.2.Am,b.dst≠some t:=fun t ht e=>by
    have:t∈a.names:=by
      simp only [Cs.names,ha,hd,Dw.Am,Option.toList_some,List.mem_append,List.mem_singleton];rcases List.mem_cons.1 ht with rfl | ht
      · exact .inl (.inl rfl)
      · exact .inl (.inr ht)
    simp [JF,e,this] at hz
  have e1:(AK (AK F a.dst x) b.dst y).get k.1=x:=by
    rw [Gp,if_neg (hn k.1 (by simp)),Gp,if_pos hd]
  have e2:rd (AK (AK F a.dst x) b.dst y) k.2.2.2=rd (AK F b.dst y) k.2.2.2:=Ae fun t ht=>by
    rw [Gp,if_neg (hn t (by simp [ht])),Gp,if_neg,Gp,if_neg (hn t (by simp [ht]))];rw [hd];intro e;cases e;exact hs ht
  unfold aJ at hk;rw [e1,e2] at hk;obtain ⟨z,ez,hk2⟩:=Ju _ hk;have ez:z=x:=ez;subst ez;unfold KK;rw [hg,hi,ha];have hcl:Dw.DD (.load k.2.1 k.2.2.1 k.2.2.2)=false:=rfl;simp only [Al];rw [JJ hcl];simp only [AF,AD];exact hk2 _ (hR _ _ _ (put_comm hz) hy)
theorem eJ {K:Frame->AB->Prop} (hK: ∀F F' S,(∀t,F.get t=F'.get t)->K F S->K F' S) {x:Nat×Bool×Cs} {B:List (Nat×Bool×Cs)}: ∀(A:List (Nat×Bool×Cs)) (c:List (Nat×Nat×Bool×AL)) {F:Frame} {S:AB},(∀a∈A,Qq a.2.1 x.2.1 a.2.2 x.2.2=true)->
    (∀k∈c,k∈x.2.2.Kx)->(∀a∈A,∀k∈c,∀d,a.2.2.dst=some d->d ∉ k.1::k.2.2.2.Am)->(x.2.2.Kx=[]\/A.Pairwise fun a a'=>a.2.2.op.Yv=true-> ∀d,a'.2.2.dst=some d->d ∉ a.2.2.names)->
    RM P K (A++x::B) F S->KK P x.2.1 x.2.2 F S fun y S'=>ND (AK F x.2.2.dst y) S' c/\RM P K (A++B) (AK F x.2.2.dst y) S'
  | [],c,F,S,_,hc,_,_,h=>by
    simp only [List.nil_append,RM] at h;exact D2 h fun y S' hy=>⟨fun k hk=>hy.1 k (hc k hk),hy.2⟩
  | a::A,c,F,S,hA,hc,hw,hp,h=>by
    have h':RM P K (a::(A++x::B)) F S:=h;simp only [RM] at h';have hok:=hA a (by simp);simp only [Qq,Bool.and_eq_true,Bool.or_eq_true,List.isEmpty_iff,Bool.not_eq_true'] at hok;obtain ⟨hac,hok⟩:=hok;have fin: ∀ {y:AA} {S':AB},RM P K (A++B) (AK (AK F x.2.2.dst y) a.2.2.dst y) S'->True:=fun _=>trivial;have hp':x.2.2.Kx=[]\/A.Pairwise fun a a'=>a.2.2.op.Yv=true-> ∀d,a'.2.2.dst=some d->d ∉ a.2.2.names:=hp.imp id fun h=>(List.pairwise_cons.1 h).2;have done: ∀ {y:AA} {S':AB},ND (AK F x.2.2.dst y) S' c/\(KK P a.2.1 a.2.2 (AK F x.2.2.dst y) S' fun z T=>RM P K (A++B) (AK (AK F x.2.2.dst y) a.2.2.dst z) T)->ND (AK F x.2.2.dst y) S' c/\RM P K (a::A++B) (AK F x.2.2.dst y) S':=fun ⟨g1,g2⟩=>by
      refine ⟨g1,?_⟩;simp only [List.cons_append,RM];refine D2 g2 fun z T hz=>⟨?_,hz⟩
      rw [hac];intro k hk;cases hk
    have hRc: ∀(c:List (Nat×Nat×Bool×AL)) (F F':Frame) (S:AB),(∀t,F.get t=F'.get t)->ND F S c/\RM P K (A++B) F S->ND F' S c/\RM P K (A++B) F' S:=fun c F F' S he hh=>⟨PU (fun k _ t _=>he t) hh.1,X8 hK (A++B) _ _ _ he hh.2⟩
    rcases hok with ⟨hm,hq⟩ | ⟨hz,hl⟩
    · have h2:=D2 h' fun y S' hy=>eJ hK A c (fun b hb=>hA b (by simp [hb])) hc (fun b hb=>hw b (by simp [hb])) hp' hy.2
      have h3:=swap hm (R:=fun F S=>ND F S c/\RM P K (A++B) F S) (hRc c) h2;refine D2 h3 fun y S' hy=>done ?_;rcases hq with hq | ⟨hq,hcl⟩
      · have:c=[]:=by
          cases c with
          | nil=>rfl
          | cons k c=>have:=hc k (by simp);rw [hq] at this;cases this
        subst this;exact ⟨fun k hk=>(by cases hk),D2 hy fun z T hz=>hz.2⟩
      · exact pull hq hcl (hw a (by simp)) hy
    · unfold cM at hl
      split at hl
      case h_2=>cases hl
      rename_i n ag r t hop hdst;simp only [Bool.and_eq_true,Option.isNone_iff_eq_none,Bool.not_eq_true',bne_iff_ne,ne_eq,List.any_eq_true,beq_iff_eq] at hl;obtain ⟨⟨⟨hg,hi⟩,htr⟩,⟨k1,k2,k3,k4⟩,hk,⟨⟨e1,e2⟩,e3⟩,e4⟩:=hl;subst e1;subst e2;subst e3;split at e4
      case h_2=>cases e4
      rename_i s hs4;simp only [beq_iff_eq] at e4;subst e4;subst hs4;have hne:x.2.2.Kx≠[]:=fun e=>by rw [e] at hk;cases hk
      have hpa:=hp.resolve_left hne;have hnames: ∀t∈k1::AL.Am (.t s),t∈a.2.2.names:=fun t ht=>by
        simp only [Cs.names,hop,hdst,Dw.Am,Option.toList_some,List.mem_append,List.mem_singleton];rcases List.mem_cons.1 ht with rfl | ht
        · exact .inl (.inl rfl)
        · exact .inl (.inr ht)
      have h2:=D2 h' fun y S' hy=>eJ hK A ((k1,k2,k3,.t s)::c) (fun b hb=>hA b (by simp [hb])) (fun k hk'=>by
          rcases List.mem_cons.1 hk' with rfl | hk'
          · exact hk
          · exact hc k hk') (fun b hb k hk' d hd=>by
          rcases List.mem_cons.1 hk' with rfl | hk'
          · exact fun hm=>(List.pairwise_cons.1 hpa).1 b hb (by rw [hop];rfl) d hd (hnames d hm)
          · exact hw b (by simp [hb]) k hk' d hd) hp' hy.2
      have h3:=D2 h2 fun y S' hy=>D2 hy fun z T hz=>show aJ (AK (AK F a.2.2.dst y) x.2.2.dst z) T (k1,k2,k3,.t s)/\(ND (AK (AK F a.2.2.dst y) x.2.2.dst z) T c/\RM P K (A++B) (AK (AK F a.2.2.dst y) x.2.2.dst z) T) from
        ⟨hz.1 _ (by simp),fun k hk=>hz.1 k (by simp [hk]),hz.2⟩
      have h4:=vU (k:=(k1,k2,k3,.t s)) (R:=fun F S=>ND F S c/\RM P K (A++B) F S) hop hdst hg hi (by simpa [AL.Am] using htr) hz (hRc c) h3;refine D2 h4 fun y S' hy=>done ?_;exact pull (by rw [hop];rfl) (.inr (by rw [hop];rfl)) (hw a (by simp)) hy
theorem qD: ∀(π:List Nat) {gl:List Cs} {K:Frame->AB->Prop} {m:Nat} {F:Frame} {S:AB},PB ((GQ π gl).take m)=true->Ah P K m (DZ (GQ π gl)) F S->RM P K (LY gl m π) F S
  | [],gl,K,m,F,S,_,h=>by
    cases m<;>simpa [GQ,DZ,LY,RM,Ah,BC] using h
  | i::π,gl,K,m,F,S,hn,h=>by
    have e:GQ (i::π) gl=gl.getD i default::GQ π gl:=rfl;rw [e] at h hn;have hn':PB ((GQ π gl).take (m-1))=true:=by
      cases m with
      | zero=>simp [PB]
      | succ m=>
        simp only [List.take_succ_cons,PB,List.all_cons,Bool.and_eq_true] at hn;exact hn.2
    have rec0: ∀ {F:Frame} {S:AB},Ah P K (m-1) (DZ (GQ π gl)) F S->RM P K (LY gl (m-1) π) F S:=fun h=>qD π hn' h;simp only [LY,RM];simp only [DZ] at h;generalize gl.getD i default=o at*;have hm0:m≠0->o.Kx=[]:=fun h0=>by
      cases m with
      | zero=>exact (h0 rfl).elim
      | succ m=>
        simp only [List.take_succ_cons,PB,List.all_cons,Bool.and_eq_true,List.isEmpty_iff] at hn;exact hn.1
    have rec_: ∀ {F:Frame} {S:AB},Ah P K (m-1) (o.Kx.map NA++DZ (GQ π gl)) F S->ND F S o.Kx/\RM P K (LY gl (m-1) π) F S:=fun h=>by
      by_cases h0:m=0
      · subst h0
        obtain ⟨h1,h2⟩:=aK _ h;exact ⟨h1,rec0 h2⟩
      · rw [hm0 h0] at h |-
        exact ⟨fun k hk=>(by cases hk),rec0 h⟩
    unfold KK;cases m with
    | zero=>
      simp only [Ah,BC] at h;simp only [Ah,Nat.zero_sub] at rec_;have hop:AF P F S (fun x S'=>Al o.G9 x fun x=>BC P K (o.Kx.map NA++DZ (GQ π gl)) (AK F o.dst x) S') o.op->Lv P (decide (0<0)) F S (fun x S'=>Al o.G9 x fun x=>ND (AK F o.dst x) S' o.Kx/\RM P K (LY gl (0-1) π) (AK F o.dst x) S') o.op:=fun h=>
        KH (q:=false) (show Lv P false F S (fun x S'=>Al o.G9 x fun x=>BC P K (o.Kx.map NA++DZ (GQ π gl)) (AK F o.dst x) S') o.op from h) fun x S' h=>F7 h fun x h=>rec_ h
      cases hg:o.guard with
      | none=>rw [hg] at h;exact hop h
      | some sw=>
        obtain ⟨g,want⟩:=sw;rw [hg] at h;simp only [Bc] at h |-;generalize F.get g=c at*;cases c<;>cases want<;>simp only at h |- <;>first | exact h.elim | exact hop h | exact rec_ h
    | succ m=>
      simp only [Ah] at h;simp only [Nat.add_sub_cancel] at rec_;have hop:C2 P F S (fun x S'=>Al o.G9 x fun x=>Ah P K m (o.Kx.map NA++DZ (GQ π gl)) (AK F o.dst x) S') o.op->Lv P (decide (0<m+1)) F S (fun x S'=>Al o.G9 x fun x=>ND (AK F o.dst x) S' o.Kx/\RM P K (LY gl (m+1-1) π) (AK F o.dst x) S') o.op:=fun h=>by
        rw [show decide (0<m+1)=true from by simp];exact KH (q:=true) (show Lv P true F S (fun x S'=>Al o.G9 x fun x=>Ah P K m (o.Kx.map NA++DZ (GQ π gl)) (AK F o.dst x) S') o.op from h) fun x S' h=>F7 h fun x h=>rec_ h
      cases hg:o.guard with
      | none=>rw [hg] at h;exact hop h
      | some sw=>
        obtain ⟨g,want⟩:=sw;rw [hg] at h;simp only [Bc] at h |-;generalize F.get g=c at*;cases c<;>cases want<;>simp only at h |- <;>first | exact h.elim | exact hop h | exact rec_ h
theorem ju {rr:Option Nat} {ops:Array Oper} {hint gl:List Cs} {W:List Nat} {Q:Exit->Act->World->Prop} {K:Frame->AB->Prop} {E0:Env} {qJ:Nat->Prop} {S0:AB} {w0:World} {a0:Act}
    (hc:QE P N ops ops.toList hint=some gl) (hedge: ∀(j:Nat) o,ops[j]?=some o-> ∀e∈o.after,Region.binds .any e=true->e.on<j) (hW: ∀g∈gl,∀t,g.dst=some t->t∈W)
    (hK: ∀F F' S,(∀t,F.get t=F'.get t)->K F S->K F' S) (hQ: ∀a' w',Ha N E0 qJ S0 w0 a0 W K a' w'->Q .normal a' w'):
    ∀(fuel:Nat) (R:List (Nat×Bool×Cs)) (D:Array Bool) (a:Act) (w:World) (E:Env) (fz:Nat->Prop) (S:AB) (F:Frame),D.size=ops.size->UG ops D->(∀j,j<ops.size->(D.getD j false=false↔ ∃x∈R,x.1=j))->
      R.Pairwise (fun x y=>VR ops (PB gl) x y=true)->(∀x∈R,x.2.2=gl.getD x.1 default/\x.1<ops.size)->(R.map (·.1)).Nodup->R.length<=fuel->RM P K R F S->
      Ext E0 qJ S0 w0 E fz S w->St E fz S w->B3 E fz w F a.tmps->a.tmps.size=N->a.defers=a0.defers->(∀t,t ∉ W->a.tmps[t]?=a0.tmps[t]?)->wpAnyIn (wf rr) 0 P .any ops Q fuel D a w:=by
  obtain ⟨hlen,hget⟩:=UJ hc;intro fuel
  induction fuel with
  | zero=>
    intro R D a w E fz S F hsz hcl hD hp hx hnd hf h hx0 st hF hN hd hu;have hR:R=[]:=List.length_eq_zero_iff.1 (by omega);subst hR;refine ⟨List.eq_nil_iff_forall_not_mem.2 fun i hi=>?_,hQ a w ⟨F,S,E,fz,h,hx0,st,hF,hN,hd,hu⟩⟩;obtain ⟨h0,o,ho,_⟩:=mem_ready.1 hi;have hlt:=(Array.getElem?_eq_some_iff.1 ho).1;rw [Rj (by omega)] at h0;obtain ⟨x,hx,_⟩:=(hD i hlt).1 h0;cases hx
  | succ fuel ih=>
    intro R D a w E fz S F hsz hcl hD hp hx hnd hf h hx0 st hF hN hd hu;refine ⟨fun hr=>?_,fun i hi=>?_⟩
    · have hall:=lI hedge hsz hr
      have hR:R=[]:=List.eq_nil_iff_forall_not_mem.2 fun x hx'=>by
        have h1:=(hx x hx').2;have h2:=(hD x.1 h1).2 ⟨x,hx',rfl⟩;rw [hall _ h1] at h2;cases h2
      subst hR;exact hQ a w ⟨F,S,E,fz,h,hx0,st,hF,hN,hd,hu⟩
    · obtain ⟨h0,o,ho,ha⟩:=mem_ready.1 hi
      have hlt:=(Array.getElem?_eq_some_iff.1 ho).1;rw [Rj (by omega)] at h0;obtain ⟨x,hxm,hxi⟩:=(hD i hlt).1 h0;obtain ⟨A,B,rfl⟩:=List.append_of_mem hxm;rw [List.pairwise_append] at hp;obtain ⟨hpA,hpB,hpAB⟩:=hp;have hpass: ∀b∈A,Qq b.2.1 x.2.1 b.2.2 x.2.2=true:=fun b hb=>by
        have h1:=hpAB b hb x (by simp);simp only [VR,Bool.and_eq_true] at h1;have h1:=h1.1;simp only [Bool.or_eq_true] at h1;rcases h1 with h1 | h1
        · rw [hxi] at h1
          have h2:=gN hcl hi h1;have h3:=(hD b.1 (hx b (by simp [hb])).2).2 ⟨b,by simp [hb],rfl⟩;rw [h2] at h3;cases h3
        · exact h1
      have hch:x.2.2.Kx=[]\/A.Pairwise fun a a'=>a.2.2.op.Yv=true-> ∀d,a'.2.2.dst=some d->d ∉ a.2.2.names:=by
        by_cases hnc:PB gl=true
        · refine .inl ?_
          obtain ⟨x1,x2⟩:=hx x (by simp);have hxl:x.1<gl.length:=by rw [<-hlen];simpa using x2
          simp only [PB,List.all_eq_true,List.isEmpty_iff] at hnc;refine hnc _ ?_;rw [x1,List.getD_eq_getElem?_getD,List.getElem?_eq_getElem hxl];simp
        · refine .inr (hpA.imp fun {a a'} hq hld d hd=>?_)
          simp only [VR,Bool.and_eq_true,Bool.or_eq_true,hnc,false_or,Bool.false_eq_true,Bool.not_eq_true',hld,Bool.true_eq_false] at hq;have:=hq.2;simp only [tG,hd,List.contains_eq_mem,decide_eq_false_iff_not] at this;exact this
      have hb:=D2 (eJ hK A [] hpass (fun k hk=>(by cases hk)) (fun a _ k hk=>(by cases hk)) hch h) fun y S' hy=>hy.2;obtain ⟨g,ro,hg,hcop,hgd,hdst,hdo⟩:=hget i o (by simpa using ho);have hxg:x.2.2=g:=by rw [(hx x (by simp)).1,hxi,List.getD_eq_getElem?_getD,hg];rfl
      rw [hxg] at hb;refine sD ho hcop hgd st hF hb fun y S' E' fz' w' v hk' hx' hs hr=>?_;have nd: ∀b∈A++B,b.1≠i:=fun b hb e=>by
        simp only [List.map_append,List.map_cons,List.nodup_append,List.nodup_cons,List.mem_map,List.mem_cons] at hnd;rcases List.mem_append.1 hb with hb | hb
        · exact hnd.2.2 b.1 ⟨b,hb,rfl⟩ x.1 (.inl rfl) (by rw [e,hxi])
        · exact hnd.2.1.1 ⟨b,hb,by rw [e,hxi]⟩
      refine ih (A++B) _ _ w' E' fz' S' (AK F g.dst y) (by simpa using hsz) (eg hcl hsz hi) (fun j hj=>?_) ?_ (fun z hz=>hx z ?_) ?_ ?_ hk' (hx0.trans hx') hs (by rw [hdst];exact Vg (B3.mono st hx' hF) hr (by rw [hN];exact hdo)) (by rw [cq];exact hN) (by rw [put_defers];exact hd) fun t ht=>?_
      · rw [bC (by omega)]
        by_cases e:j=i
        · rw [if_pos e]
          refine ⟨fun h=>(by cases h),fun ⟨b,hb,e'⟩=>(nd b hb (by rw [e',e])).elim⟩
        · rw [if_neg e,hD j hj]
          constructor
          · rintro ⟨b,hb,e'⟩
            refine ⟨b,?_,e'⟩;rcases List.mem_append.1 hb with hb | hb
            · exact List.mem_append.2 (.inl hb)
            · rcases List.mem_cons.1 hb with rfl | hb
              · exact (e (by rw [<-e',hxi])).elim
              · exact List.mem_append.2 (.inr hb)
          · rintro ⟨b,hb,e'⟩
            refine ⟨b,?_,e'⟩;rcases List.mem_append.1 hb with hb | hb
            · exact List.mem_append.2 (.inl hb)
            · exact List.mem_append.2 (.inr (List.mem_cons_of_mem _ hb))
      · exact List.pairwise_append.2 ⟨hpA,(List.pairwise_cons.1 hpB).2,fun b hb c hc=>hpAB b hb c (List.mem_cons_of_mem _ hc)⟩
      · rcases List.mem_append.1 hz with hb | hb
        · exact List.mem_append.2 (.inl hb)
        · exact List.mem_append.2 (.inr (List.mem_cons_of_mem _ hb))
      · simp only [List.map_append,List.map_cons,List.nodup_append,List.nodup_cons] at hnd |-
        exact ⟨hnd.1,hnd.2.1.2,fun b hb c hc=>hnd.2.2 b hb c (List.mem_cons_of_mem _ hc)⟩
      · simp only [List.length_append,List.length_cons] at hf |-;omega
      · rw [Xm,hu t ht]
        intro e;exact ht (hW g (List.mem_of_getElem? hg) t (by rw [hdst,e]))
theorem P_ {ops:Array Oper} {nc:Bool}: ∀ {l:List (Nat×Bool×Cs)},P9 ops nc l=true->l.Pairwise (fun x y=>VR ops nc x y=true)
  | [],_=>.nil
  | x::l,h=>by
    simp only [P9,Bool.and_eq_true,List.all_eq_true] at h;exact .cons h.1 (P_ h.2)
theorem cG {gl:List Cs}: ∀(π:List Nat) (m:Nat),(LY gl m π).map (·.1)=π
  | [],_=>rfl
  | i::π,m=>by simp [LY,cG π]
theorem cH {gl:List Cs}: ∀ {π:List Nat} {m:Nat} {x:Nat×Bool×Cs},x∈LY gl m π->x.2.2=gl.getD x.1 default/\x.1∈π
  | [],_,_,h=>by simp [LY] at h
  | i::π,m,x,h=>by
    simp only [LY] at h;rcases List.mem_cons.1 h with rfl | h
    · exact ⟨rfl,by simp⟩
    · have:=cH h;exact ⟨this.1,by simp [this.2]⟩
theorem cF: ∀ {l:List Nat},ZG l=true->l.Nodup
  | [],_=>.nil
  | a::l,h=>by
    simp only [ZG,Bool.and_eq_true,Bool.not_eq_true',List.contains_eq_mem,decide_eq_false_iff_not] at h;exact List.nodup_cons.2 ⟨h.1,cF h.2⟩
theorem Uf {g:Cs}: ∀ {l:List Cs},g∈l->g∈DZ l
  | [],h=>by cases h
  | o::l,h=>by
    rcases List.mem_cons.1 h with rfl | h
    · simp [DZ]
    · simp only [DZ]
      exact List.mem_cons_of_mem _ (List.mem_append.2 (.inr (Uf h)))
theorem aY {rr:Option Nat} {id:Nat} {ops:Array Oper} {hint gl:List Cs} {m:Nat} {π:List Nat} (hc:QE P N ops ops.toList hint=some gl) (hok:YX ops m π gl=true) (hf:P.follows .mixedOrders=true)
    {K:Frame->AB->Prop} {E:Env} {fz:Nat->Prop} {S:AB} {w:World} {F:Frame} {a:Act} (st:St E fz S w) (hF:B3 E fz w F a.tmps) (hN:a.tmps.size=N) (h:Ah P K m (DZ (GQ π gl)) F S):
    (Code.region id ops true).wpIn (wf rr) 0 P (fun e a' w'=>e= .normal/\Ha N E fz S w a (Hk (DZ (GQ π gl))) K a' w') a w:=by
  obtain ⟨hlen,hget⟩:=UJ hc;simp only [YX,Bool.and_eq_true,List.all_eq_true,List.mem_range,decide_eq_true_eq,List.contains_eq_mem] at hok;obtain ⟨⟨⟨⟨⟨k1,k2⟩,k3⟩,k4⟩,k5⟩,k6⟩:=hok;obtain ⟨st',hx'⟩:=st.same (w':={w with drawn:=w.drawn+1}) rfl rfl rfl (Tp.of rfl (Nat.le_succ _));have hrep: ∀j,(Array.replicate ops.size false).getD j false=false:=fun j=>by
    rw [Array.getD_eq_getD_getElem?];cases hj:(Array.replicate ops.size false)[j]? with
    | none=>rfl
    | some b=>simp [Array.getElem?_replicate] at hj;simp [hj.2]
  have hm:=cG (gl:=gl) π m;have hnd:=cF k1;have hlen2:(LY gl m π).length<=ops.size:=by
    have h1:(LY gl m π).length=π.length:=by have:=congrArg List.length hm;simpa only [List.length_map] using this
    rw [h1];have h2:π.length<=(List.range ops.size).length:=by
      refine hnd.length_le_of_subset fun i hi=>List.mem_range.2 (k2 i hi)
    simpa using h2
  have hWr: ∀g∈gl,∀t,g.dst=some t->t∈Hk (DZ (GQ π gl)):=fun g hg t ht=>by
    obtain ⟨i,hi,e⟩:=List.getElem_of_mem hg;have hin:i<ops.size:=by have:ops.toList.length=gl.length:=hlen;simp at this;omega
    refine Si (g:=g) (Uf ?_) ht;simp only [GQ,List.mem_map];exact ⟨i,k3 i hin,by rw [List.getD_eq_getElem?_getD,List.getElem?_eq_getElem hi,e];rfl⟩
  have hv:=de (K':=fun F' S'=> ∃F0,(∀t,F0.get t=F'.get t)/\K F0 S') (fun F' S' h=>⟨F',fun _=>rfl,h⟩) _ (qD π k6 h);have g1: ∀(j:Nat) o,ops[j]?=some o-> ∀e∈o.after,Region.binds .any e=true->e.on<j:=fun j o ho e he hb=>by
    have hj:j<ops.size:=(Array.getElem?_eq_some_iff.1 ho).1;have:=k4 j hj;rw [ho] at this;have:=(Array.all_eq_true_iff_forall_mem.1 this) e he;simpa [hb] using this
  have g2: ∀a' w',Ha N E fz S w a (Hk (DZ (GQ π gl))) (fun F' S'=> ∃F0,(∀t,F0.get t=F'.get t)/\K F0 S') a' w'->Ha N E fz S w a (Hk (DZ (GQ π gl))) K a' w':=fun a' w' hA=>by
    obtain ⟨F',S',E',fz',⟨F0,q0,q1⟩,q2,q3,q4,q5,q6,q7⟩:=hA;exact ⟨F0,S',E',fz',q1,q2,q3,fun t=>by rw [q0];exact q4 t,q5,q6,q7⟩
  have g3: ∀j,j<ops.size->((Array.replicate ops.size false).getD j false=false↔ ∃x∈LY gl m π,x.1=j):=fun j hj=>by
    refine ⟨fun _=>?_,fun _=>hrep j⟩;have h1:j∈(LY gl m π).map (·.1):=by rw [hm];exact k3 j hj
    obtain ⟨x,h2,h3⟩:=List.mem_map.1 h1;exact ⟨x,h2,h3⟩
  have g4: ∀x∈LY gl m π,x.2.2=gl.getD x.1 default/\x.1<ops.size:=fun x hx=>by
    obtain ⟨h1,h2⟩:=cH hx;exact ⟨h1,k2 _ h2⟩
  exact wpIn_region_any hf (ju hc g1 hWr (fun F1 F2 S1 he ⟨F0,h1,h2⟩=>⟨F0,fun t=>(h1 t).trans (he t),h2⟩) (fun a' w' hA=>⟨rfl,g2 a' w' hA⟩) ops.size (LY gl m π) _ a _ E fz S F (by simp) (fun j o _ hj=>by rw [hrep] at hj;cases hj) g3 (P_ k5) g4 (by rw [hm];exact hnd) hlen2 hv hx' st' (B3.mono st hx' hF) hN rfl (fun _ _=>rfl))
end
end Go.Vc
end
section
namespace Go.Vc
def writes:Ak->List Nat
  | .skip=>[]
  | .ops l _ _=>Hk l
  | .seq a b=>writes a++writes b
  | .join _ _ _ a b=>writes a++writes b
  | .cond _ a b=>writes a++writes b
  | .block _ a=>writes a
  | .loop _ _ _ a=>writes a
  | .exit _=>[]
  | .ret=>[]
def apart (AW W:List Nat):Bool:=AW.all fun t=> !W.contains t
def nC:Ak:= .ops [⟨none,.bad,none,false,[]⟩] none []
def comp (P:Program) (N:Nat):Code->Ak->Option Ak
  | .skip,_=>some .skip
  | .region _ ops false,.ops l none AW=>(match QE P N ops ops.toList l with | some gl=>some (.ops gl none AW) | none=>none)
  | .region _ ops true,.ops l (some d) AW=>(match QE P N ops ops.toList (ud d.2.2 (pO l)) with | some gl=>if YX ops d.1 d.2.2 gl && P.follows .mixedOrders then some (.ops (DZ (GQ d.2.2 gl)) (some d) AW) else none | none=>none)
  | .seq a b,.seq x y=>(match comp P N a x,comp P N b y with | some x,some y=>some (.seq x y) | _,_=>none)
  | .seq a b,.join AW W n x y=>(match comp P N a x,comp P N b y with | some x,some y=>if apart AW (writes x) then some (.join AW W n x y) else none | _,_=>none)
  | .cond c a b,.cond _ x y=>(match Ac c,comp P N a x,comp P N b y with | some c,some x,some y=>some (.cond c x y) | _,_,_=>none)
  | .block id a,.block _ x=>(match comp P N a x with | some x=>some (.block id x) | none=>none)
  | .loop a,.loop AW W n x=>(match comp P N a x with | some x=>if apart AW (writes x) then some (.loop AW W n x) else none | none=>none)
  | .exit id,_=>some (.exit id)
  | .ret,_=>some .ret
  | .rangeFunc ..,_=>some nC
  | .scope _,_=>some nC
  | .label _,_=>some nC
  | .goto _,_=>some nC
  | .refuse _,_=>some nC
  | _,_=>none
def P4 (N:Nat) (E:Env) (fz:Nat->Prop) (S:AB) (w:World) (a:Act) (W:List Nat) (Q:BU->Frame->AB->Prop):Exit->Act->World->Prop
  | .normal,a',w'=>Ha N E fz S w a W (Q .normal) a' w'
  | .exit id,a',w'=>Ha N E fz S w a W (Q (.exit id)) a' w'
  | .ret,a',w'=>Ha N E fz S w a W (Q .ret) a' w'
  | _,_,_=>False
section
variable {P : Program} {N : Nat}
theorem Ha.mono {E:Env} {fz:Nat->Prop} {S:AB} {w:World} {a:Act} {W W':List Nat} {K K':Frame->AB->Prop} {a':Act} {w':World} (h:Ha N E fz S w a W K a' w') (hW: ∀t,t∈W->t∈W') (hK: ∀F S,K F S->K' F S):Ha N E fz S w a W' K' a' w':=by
  obtain ⟨F',S',E',fz',q1,q2,q3,q4,q5,q6,q7⟩:=h;exact ⟨F',S',E',fz',hK _ _ q1,q2,q3,q4,q5,q6,fun t ht=>q7 t fun h=>ht (hW t h)⟩
theorem Ha.trans {E E1:Env} {fz fz1:Nat->Prop} {S S1:AB} {w w1:World} {a a1:Act} {W W1 W2:List Nat} {K:Frame->AB->Prop} {a':Act} {w':World} (hx:Ext E fz S w E1 fz1 S1 w1) (hd:a1.defers=a.defers) (ht: ∀t,t ∉ W1->a1.tmps[t]?=a.tmps[t]?)
    (h:Ha N E1 fz1 S1 w1 a1 W2 K a' w') (h1: ∀t,t∈W1->t∈W) (h2: ∀t,t∈W2->t∈W):Ha N E fz S w a W K a' w':=by
  obtain ⟨F',S',E',fz',q1,q2,q3,q4,q5,q6,q7⟩:=h;refine ⟨F',S',E',fz',q1,hx.trans q2,q3,q4,q5,by rw [q6,hd],fun t hn=>?_⟩;rw [q7 t (fun h=>hn (h2 t h)),ht t (fun h=>hn (h1 t h))]
theorem E6 {AW:List Nat} {F:Frame} {K:Frame->Prop}:J0 AW F K↔K (AW.map fun t=>(t,F.get t)):=by
  induction AW generalizing K with
  | nil=>exact Iff.rfl
  | cons t AW ih=>simp only [J0,Bc,ih,List.map_cons]
theorem Ex {W:List Nat} {F:Frame} {K:List AA->Prop}:Sj W F K↔K (W.map F.get):=by
  induction W generalizing K with
  | nil=>exact Iff.rfl
  | cons t W ih=>simp only [Sj,Bc,ih,List.map_cons]
theorem St.sub {E:Env} {fz:Nat->Prop} {S S':AB} {w:World} (st:St E fz S w) (h: ∀(l:Nat) o,S'[l]?=some o->o= .dead\/S[l]?=some o):St E fz S' w/\Ext E fz S w E fz S' w:=by
  have own: ∀ {l b:Nat},DH E S' l b->DH E S l b:=fun {l b} ⟨o,h1,h2⟩=>by
    rcases h l o h1 with rfl | h3
    · simp [AR] at h2
    · exact ⟨o,h3,h2⟩
  refine ⟨⟨fun l o hl=>?_,fun l l' b h1 h2=>st.sep l l' b (own h1) (own h2),st.Fx,st.fresh⟩,⟨fun _ _ h=>h,fun _ h=>h,fun _ h=>.inl h,fun _ _ _=>rfl,fun b ⟨l,h⟩=>.inl ⟨l,own h⟩,Nat.le_refl _,rfl,rfl,(Tp.of rfl (Nat.le_refl _))⟩⟩;rcases h l o hl with rfl | h3
  · trivial
  · exact st.ok l o h3
theorem dq: ∀(W:List Nat) (xs:List AA) (F:Frame) (t:Nat),(∃i:Nat,W[i]?=some t/\xs[i]?=some ((Ei W xs F).get t))\/(Ei W xs F).get t=F.get t
  | [],xs,F,t=>by cases xs<;>simp [Ei]
  | u::W,[],F,t=>by simp [Ei]
  | u::W,x::xs,F,t=>by
    simp only [Ei,Frame.get];cases h:Nat.beq u t with
    | true=>
      have e:u=t:=Nat.eq_of_beq_eq_true h;exact .inl ⟨0,by simp [e],by simp⟩
    | false=>
      rcases dq W xs F t with ⟨i,h1,h2⟩ | h1
      · exact .inl ⟨i+1,by simpa using h1,by simpa using h2⟩
      · exact .inr h1
theorem Rn (AW:List Nat) (F:Frame) (t:Nat):Frame.get (AW.map fun t=>(t,F.get t)) t=F.get t/\t∈AW\/Frame.get (AW.map fun t=>(t,F.get t)) t= .Ci:=by
  induction AW with
  | nil=>exact .inr rfl
  | cons u AW ih=>
    simp only [List.map_cons,Frame.get];cases h:Nat.beq u t with
    | true=>
      have e:u=t:=Nat.eq_of_beq_eq_true h;subst e;exact .inl ⟨rfl,by simp⟩
    | false=>
      rcases ih with ⟨h1,h2⟩ | h1
      · exact .inl ⟨h1,by simp [h2]⟩
      · exact .inr h1
theorem Jo {n:Nat} {f:List AA->Prop}:jt n f↔ ∀xs:List AA,xs.length=n->f xs:=by
  induction n generalizing f with
  | zero=>simp [jt]
  | succ n ih=>
    simp only [jt,ih];constructor
    · intro h xs hx
      cases xs with
      | nil=>simp at hx
      | cons x xs=>exact h x xs (by simpa using hx)
    · intro h x xs hx
      exact h (x::xs) (by simp [hx])
theorem apart_spec {AW W:List Nat} (h:apart AW W=true) {t:Nat} (ht:t∈AW):t ∉ W:=by
  have:=List.all_eq_true.1 h t ht;simpa using this
theorem Vh {E E':Env} {fz fz':Nat->Prop} {S S':AB} {w w':World} {F F':Frame} {a a':Act} {AW W:List Nat} {Wr:List Nat} (st:St E fz S w) (hx:Ext E fz S w E' fz' S' w') (hF:B3 E fz w F a.tmps) (hF':B3 E' fz' w' F' a'.tmps)
    (hu: ∀t,t ∉ Wr->a'.tmps[t]?=a.tmps[t]?) (hk:apart AW Wr=true):B3 E' fz' w' (Ei W (W.map F'.get) (AW.map fun t=>(t,F.get t))) a'.tmps:=by
  intro t;rcases dq W (W.map F'.get) (AW.map fun t=>(t,F.get t)) t with ⟨i,h1,h2⟩ | h1
  · rw [List.getElem?_map,h1] at h2
    simp at h2;rw [<-h2];exact hF' t
  · rw [h1]
    rcases Rn AW F t with ⟨h2,h3⟩ | h2
    · rw [h2,rK (hu t (apart_spec hk h3))]
      exact st.rel hx (hF t)
    · rw [h2];simp [Rel]
theorem T9 {E E1:Env} {fz fz1:Nat->Prop} {S S1:AB} {w w1:World} {a a1:Act} {W W1 W2:List Nat} {Q:BU->Frame->AB->Prop} {e:Exit} {a':Act} {w':World} (hx:Ext E fz S w E1 fz1 S1 w1) (hd:a1.defers=a.defers) (ht: ∀t,t ∉ W1->a1.tmps[t]?=a.tmps[t]?) (h1: ∀t,t∈W1->t∈W) (h2: ∀t,t∈W2->t∈W)
    (h:P4 N E1 fz1 S1 w1 a1 W2 Q e a' w'):P4 N E fz S w a W Q e a' w':=by
  cases e<;>simp only [P4] at h |- <;>exact h.trans hx hd ht h1 h2
def N9 (P:Program) (N:Nat):Prop:= ∀(rr:Option Nat) (id:Nat) (ops:Array Oper) (hint gl:List Cs) (m:Nat) (π:List Nat),QE P N ops ops.toList hint=some gl->YX ops m π gl=true->P.follows .mixedOrders=true->
  ∀ {K:Frame->AB->Prop} {E:Env} {fz:Nat->Prop} {S:AB} {w:World} {F:Frame} {a:Act},St E fz S w->B3 E fz w F a.tmps->a.tmps.size=N->Ah P K m (DZ (GQ π gl)) F S->
    (Code.region id ops true).wpIn (wf rr) 0 P (fun e a' w'=>e= .normal/\Ha N E fz S w a (Hk (DZ (GQ π gl))) K a' w') a w
theorem R5 {E:Env} {S:AB} {r b:Nat}:Own E (S++List.replicate r .dead) b↔Own E S b:=by
  constructor
  · rintro ⟨l,o,h1,h2⟩
    rcases Nat.lt_or_ge l S.length with h | h
    · rw [List.getElem?_append_left h] at h1;exact ⟨l,o,h1,h2⟩
    · rw [List.getElem?_append_right h,List.getElem?_replicate] at h1
      split at h1
      · cases h1;simp [AR] at h2
      · cases h1
  · rintro ⟨l,o,h1,h2⟩
    exact ⟨l,o,by rw [List.getElem?_append_left (List.getElem?_eq_some_iff.1 h1).1];exact h1,h2⟩
theorem St.aP {E:Env} {fz:Nat->Prop} {S:AB} {w:World} (st:St E fz S w) (r:Nat):St E fz (S++List.replicate r .dead) w:=by
  have back: ∀ {l:Nat} {o:Ob},(S++List.replicate r Ob.dead)[l]?=some o->S[l]?=some o\/o= .dead:=fun {l o} h1=>by
    rcases Nat.lt_or_ge l S.length with h | h
    · rw [List.getElem?_append_left h] at h1;exact .inl h1
    · rw [List.getElem?_append_right h,List.getElem?_replicate] at h1
      split at h1
      · cases h1;exact .inr rfl
      · cases h1
  refine ⟨fun l o h=>?_,fun l l' b ⟨o,h1,h2⟩ ⟨o',h1',h2'⟩=>?_,st.Fx,st.fresh⟩
  · rcases back h with h | rfl
    · exact st.ok l o h
    · trivial
  · rcases back h1 with h | rfl
    · rcases back h1' with h' | rfl
      · exact st.sep l l' b ⟨o,h,h2⟩ ⟨o',h',h2'⟩
      · simp [AR] at h2'
    · simp [AR] at h2
theorem Ext.aP {E E':Env} {fz fz':Nat->Prop} {S S':AB} {w w':World} {r:Nat} (h:Ext E fz (S++List.replicate r .dead) w E' fz' S' w'):Ext E fz S w E' fz' S' w':=
  ⟨h.env,h.WI,fun b hb=>(h.Gi b hb).imp id (Or.imp R5.1 id),fun b hb hn=>h.AW b hb fun q=>hn (R5.1 q),fun b hb=>(h.own b hb).imp R5.1 id,h.size,h.os,h.output,h.tape⟩
theorem EB {rr:Option Nat} (hD:N9 P N): ∀(c:Code) (hint sc:Ak),comp P N c hint=some sc-> ∀ {Q:BU->Frame->AB->Prop} {E:Env} {fz:Nat->Prop} {S:AB} {w:World} {F:Frame} {a:Act},
    St E fz S w->B3 E fz w F a.tmps->a.tmps.size=N->vc P sc Q F S->c.wpIn (wf rr) 0 P (P4 N E fz S w a (writes sc) Q) a w
  | .skip,hint,sc,hc,Q,E,fz,S,w,F,a,st,hF,hN,h=>by
    simp only [comp] at hc;cases hc;exact wpIn_skip ⟨F,S,E,fz,h,.refl,st,hF,hN,rfl,fun _ _=>rfl⟩
  | .exit id,hint,sc,hc,Q,E,fz,S,w,F,a,st,hF,hN,h=>by
    simp only [comp] at hc;cases hc;exact wpIn_exit ⟨F,S,E,fz,h,.refl,st,hF,hN,rfl,fun _ _=>rfl⟩
  | .ret,hint,sc,hc,Q,E,fz,S,w,F,a,st,hF,hN,h=>by
    simp only [comp] at hc;cases hc;exact wpIn_ret ⟨F,S,E,fz,h,.refl,st,hF,hN,rfl,fun _ _=>rfl⟩
  | .region id ops draw,hint,sc,hc,Q,E,fz,S,w,F,a,st,hF,hN,h=>by
    cases draw
    · cases hint<;>(try simp only [comp] at hc)<;>first | (cases hc;done) | skip
      rename_i l d AW;cases d<;>(try simp only [comp] at hc)<;>first | (cases hc;done) | skip
      split at hc<;>cases hc;rename_i gl hgl;simp only [vc] at h;refine wpIn_region ?_;have:=Xf (rr:=rr) (Q:=P4 N E fz S w a (writes (.ops gl none AW)) Q) ops.toList l gl 0 (fun j=>by simp) hgl st hF hN h (fun a' w' hA=>?_)
      · simpa [List.range_eq_range'] using this
      · obtain ⟨F',S',E',fz',q1,q2,q3,q4,q5,q6,q7⟩:=hA
        rw [E6] at q1;refine ⟨_,S',E',fz',q1,q2,q3,fun t=>?_,q5,q6,q7⟩;rcases Rn AW F' t with ⟨h1,_⟩ | h1
        · rw [h1];exact q4 t
        · rw [h1];simp [Rel]
    · cases hint<;>(try simp only [comp] at hc)<;>first | (cases hc;done) | skip
      rename_i l d AW;cases d<;>(try simp only [comp] at hc)<;>first | (cases hc;done) | skip
      split at hc
      · rename_i gl hgl
        split at hc
        · rename_i hok
          cases hc;simp only [Bool.and_eq_true] at hok;simp only [vc] at h;refine wpIn_mono (hD rr id ops _ gl _ _ hgl hok.1 hok.2 (st.aP _) hF hN h) ?_;rintro e a' w' ⟨rfl,hA⟩;obtain ⟨F',S',E',fz',q1,q2,q3,q4,q5,q6,q7⟩:=hA;rw [E6] at q1;refine ⟨_,S',E',fz',q1,q2.aP,q3,fun t=>?_,q5,q6,q7⟩;rcases Rn AW F' t with ⟨h1,_⟩ | h1
          · rw [h1];exact q4 t
          · rw [h1];simp [Rel]
        · cases hc
      · cases hc
  | .cond c x y,hint,sc,hc,Q,E,fz,S,w,F,a,st,hF,hN,h=>by
    cases hint<;>simp only [comp] at hc<;>first | (cases hc;done) | skip
    split at hc<;>cases hc;rename_i r sx sy hr hx hy;have hrel:=Ab hF hr;simp only [vc,AD] at h;have tr:vc P sx Q F S->a.eval c= .bool true->(Code.cond c x y).wpIn (wf rr) 0 P (P4 N E fz S w a (writes (.cond r sx sy)) Q) a w:=fun hv he=>
      wpIn_cond_true he (wpIn_mono (EB hD x _ sx hx st hF hN hv) fun e a' w' hl=>T9 .refl rfl (W1:=[]) (fun _ _=>rfl) (by simp) (fun t ht=>by simp [writes,ht]) hl)
    have fl:vc P sy Q F S->a.eval c= .bool false->(Code.cond c x y).wpIn (wf rr) 0 P (P4 N E fz S w a (writes (.cond r sx sy)) Q) a w:=fun hv he=>
      wpIn_cond_false he (wpIn_mono (EB hD y _ sy hy st hF hN hv) fun e a' w' hl=>T9 .refl rfl (W1:=[]) (fun _ _=>rfl) (by simp) (fun t ht=>by simp [writes,ht]) hl)
    cases hC:rd F r<;>rw [hC] at h hrel<;>simp only [Rel] at h hrel
    · exact tr h hrel
    · exact fl h hrel
    · rename_i b
      cases b
      · exact fl (h.2 rfl) hrel
      · exact tr (h.1 rfl) hrel
  | .seq x y,hint,sc,hc,Q,E,fz,S,w,F,a,st,hF,hN,h=>by
    cases hint<;>simp only [comp] at hc<;>first | (cases hc;done) | skip
    · split at hc<;>cases hc
      rename_i sx sy hx hy;simp only [vc] at h;refine wpIn_seq (wpIn_mono (EB hD x _ sx hx st hF hN h) fun e a1 w1 hl=>?_);cases e<;>simp only [P4] at hl
      · obtain ⟨F1,S1,E1,fz1,q1,q2,q3,q4,q5,q6,q7⟩:=hl
        exact wpIn_mono (EB hD y _ sy hy q3 q4 q5 q1) fun e a' w' hl2=>T9 q2 q6 q7 (fun t ht=>by simp [writes,ht]) (fun t ht=>by simp [writes,ht]) hl2
      · exact hl.mono (fun t ht=>by simp [writes,ht]) fun _ _ q=>q
      · exact hl.mono (fun t ht=>by simp [writes,ht]) fun _ _ q=>q
    · rename_i AW W n _ _
      split at hc
      · rename_i sx sy hx hy
        split at hc
        · rename_i hap
          cases hc;simp only [vc] at h;have h':=h (fun xs os=>vc P sy Q (Ei W xs (AW.map fun t=>(t,F.get t))) os) (by
            rw [E6,Jo];intro xs _ os q;exact q)
          refine wpIn_seq (wpIn_mono (EB hD x _ sx hx st hF hN h') fun e a1 w1 hl=>?_);cases e<;>simp only [P4] at hl
          · obtain ⟨F1,S1,E1,fz1,q1,q2,q3,q4,q5,q6,q7⟩:=hl
            simp only [BU.Dj,Ex] at q1;have hz:=Vh (W:=W) st q2 hF q4 q7 hap;exact wpIn_mono (EB hD y _ sy hy q3 hz q5 q1) fun e a' w' hl2=>T9 q2 q6 q7 (fun t ht=>by simp [writes,ht]) (fun t ht=>by simp [writes,ht]) hl2
          · exact hl.mono (fun t ht=>by simp [writes,ht]) fun _ _ q=>q
          · exact hl.mono (fun t ht=>by simp [writes,ht]) fun _ _ q=>q
        · cases hc
      · cases hc
  | .block id x,hint,sc,hc,Q,E,fz,S,w,F,a,st,hF,hN,h=>by
    cases hint<;>simp only [comp] at hc<;>first | (cases hc;done) | skip
    split at hc<;>cases hc;rename_i sx hx;simp only [vc] at h;refine wpIn_block (wpIn_mono (EB hD x _ sx hx st hF hN h) fun e a1 w1 hl=>?_);cases e<;>simp only [P4] at hl
    · exact hl.mono (fun t ht=>ht) fun _ _ q=>q
    · rename_i id'
      simp only [Exit.inBlock];by_cases e:id'=id
      · subst e
        rw [if_pos rfl];refine hl.mono (fun t ht=>ht) fun _ _ q=>?_;simpa [BU.Gz,Nat.beq_refl] using q
      · rw [if_neg e]
        refine hl.mono (fun t ht=>ht) fun _ _ q=>?_;have:Nat.beq id' id=false:=by
          cases hb:Nat.beq id' id with
          | false=>rfl
          | true=>exact (e (Nat.eq_of_beq_eq_true hb)).elim
        simpa [BU.Gz,this] using q
    · exact hl.mono (fun t ht=>ht) fun _ _ q=>q
  | .loop x,hint,sc,hc,Q,E,fz,S,w,F,a,st,hF,hN,h=>by
    cases hint<;>simp only [comp] at hc<;>first | (cases hc;done) | skip
    rename_i AW W n _;split at hc
    · rename_i sx hx
      split at hc
      · rename_i hap
        cases hc;simp only [vc] at h;obtain ⟨I,h0,hr⟩:=h;rw [Ex] at h0;obtain ⟨k0,h0⟩:=h0;rw [E6,Jo] at hr;refine wpIn_loop_ghost (fun k a1 w1=> ∃xs os E1 fz1,xs.length=W.length/\I k xs os/\Ext E fz S w E1 fz1 os w1/\St E1 fz1 os w1/\B3 E1 fz1 w1 (Ei W xs (AW.map fun t=>(t,F.get t))) a1.tmps/\a1.tmps.size=N/\a1.defers=a.defers/\
          ∀t,t ∉ writes sx->a1.tmps[t]?=a.tmps[t]?) k0 ?_ ?_
        · exact ⟨_,S,E,fz,by simp,h0,.refl,st,Vh (W:=W) st .refl hF hF (fun _ _=>rfl) hap,hN,rfl,fun _ _=>rfl⟩
        · rintro k a1 w1 ⟨xs,os,E1,fz1,l1,hI,p1,p2,p3,p4,p5,p6⟩
          refine wpIn_mono (EB hD x _ sx hx p2 p3 p4 (hr xs l1 k os hI)) fun e a2 w2 hl=>?_;cases e<;>simp only [P4] at hl
          · obtain ⟨F2,S2,E2,fz2,q1,q2,q3,q4,q5,q6,q7⟩:=hl
            simp only [BU.Dj,Ex] at q1;obtain ⟨k',hk',q1⟩:=q1;refine ⟨k',hk',_,_,E2,fz2,by simp,q1,p1.trans q2,q3,?_,q5,by rw [q6,p5],fun t ht=>by rw [q7 t ht,p6 t ht]⟩;exact Vh (W:=W) st (p1.trans q2) hF q4 (fun t ht=>by rw [q7 t ht,p6 t ht]) hap
          · exact hl.trans p1 p5 p6 (fun t ht=>ht) (fun t ht=>ht)
          · exact hl.trans p1 p5 p6 (fun t ht=>ht) (fun t ht=>ht)
      · cases hc
    · cases hc
  | .rangeFunc ..,hint,sc,hc,_,_,_,_,_,_,_,_,_,_,h=>by simp only [comp] at hc;cases hc;exact h.elim
  | .scope _,hint,sc,hc,_,_,_,_,_,_,_,_,_,_,h=>by simp only [comp] at hc;cases hc;exact h.elim
  | .label _,hint,sc,hc,_,_,_,_,_,_,_,_,_,_,h=>by simp only [comp] at hc;cases hc;exact h.elim
  | .goto _,hint,sc,hc,_,_,_,_,_,_,_,_,_,_,h=>by simp only [comp] at hc;cases hc;exact h.elim
  | .refuse _,hint,sc,hc,_,_,_,_,_,_,_,_,_,_,h=>by simp only [comp] at hc;cases hc;exact h.elim
end
end Go.Vc
end
section
namespace Go.Vc
def V_ (P:Program):List ResultVar->Option (List Kk)
  | []=>some []
  | .tmp t::rs=>(match V_ P rs with | some l=>some (.tmp t::l) | none=>none)
  | .cell a t::rs=>(match P.info? t,P.underlying t,V_ P rs with
    | some i,some u,some l=>if G8 u then some (.cell a i.size true::l) else some (.cell a 1 false::l)
    | _,_,_=>none)
theorem PX (P:Program) (N:Nat):N9 P N:=fun _ _ _ _ _ _ _ hc hok hf _ _ _ _ _ _ _ st hF hN h=>aY hc hok hf st hF hN h
section
variable {P : Program}
theorem aA: ∀(xs:List AA) (i t:Nat),(TY i xs).get t=if i<=t then (match xs[t-i]? with | some x=>x | none=>.Ci) else .Ci
  | [],i,t=>by simp [TY,Frame.get]
  | x::xs,i,t=>by
    simp only [TY,Frame.get];cases h:Nat.beq i t with
    | true=>
      have e:i=t:=Nat.eq_of_beq_eq_true h;subst e;simp
    | false=>
      have e:i≠t:=Nat.ne_of_beq_eq_false h;simp only [aA xs (i+1) t];by_cases hle:i<=t
      · rw [if_pos hle,if_pos (by omega),show t-i=(t-(i+1))+1 by omega]
        simp
      · rw [if_neg hle,if_neg (by omega)]
theorem ZQ {E:Env} {fz:Nat->Prop} {S:AB} {w:World} {F:Frame} {tmps:Array Value} (st:St E fz S w) (hF:B3 E fz w F tmps): ∀(rs:List ResultVar) (l:List Kk) {K:List AA->Prop},V_ P rs=some l->I5 F S K l->
    ∃(xs:List AA) (vs:List Value),(rs.mapM fun r=>(match r with | .tmp t=>pure (tmps.getD t undef) | .cell a t=>do loadVar t (<-asAddr (tmps.getD a undef)):Sem Value)).run P w= .ok vs w/\AZ E fz w xs vs/\K xs
  | [],l,K,hc,h=>by
    simp only [V_] at hc;cases hc;exact ⟨[],[],by simp,by simp [AZ],h⟩
  | .tmp t::rs,l,K,hc,h=>by
    simp only [V_] at hc;split at hc<;>cases hc;rename_i l' hl;simp only [I5,Bc] at h;obtain ⟨xs,vs,h1,h2,h3⟩:=ZQ st hF rs l' hl h;refine ⟨_::xs,_::vs,?_,by simp only [AZ];exact ⟨_,_,rfl,hF t,h2⟩,h3⟩;rw [List.mapM_cons];simp only [Sem.run_bind,Sem.run_pure,Result.andThen_ok,h1]
  | .cell ad t::rs,l,K,hc,h=>by
    simp only [V_] at hc;split at hc
    · rename_i i u l' hi hu hl
      have main: ∀ {n:Nat} {ag:Bool},ag=G8 u->(ag=true->n=i.size)->(ag=false->n=1)->I5 F S K (.cell ad n ag::l')-> ∃(xs:List AA) (vs:List Value),((ResultVar.cell ad t::rs).mapM fun r=>(match r with | .tmp t=>pure (tmps.getD t undef) | .cell a t=>do loadVar t (<-asAddr (tmps.getD a undef)):Sem Value)).run P w= .ok vs w/\AZ E fz w xs vs/\K xs:=fun {n ag} hag hn hn1 hw=>by
        simp only [I5,Bc] at hw;obtain ⟨b,off,e,ys,us,g1,g2,g3,g4,g5,hk⟩:=SQ (P:=P) st hw (hF ad);have fin: ∀ {x:AA} {v:Value},(loadVar t ⟨b,off,none⟩).run P w= .ok v w->Rel E fz w x v->I5 F S (fun xs=>K (x::xs)) l'-> ∃(xs:List AA) (vs:List Value),((ResultVar.cell ad t::rs).mapM fun r=>(match r with | .tmp t=>pure (tmps.getD t undef) | .cell a t=>do loadVar t (<-asAddr (tmps.getD a undef)):Sem Value)).run P w= .ok vs w/\AZ E fz w xs vs/\K xs:=fun {x v} hr hrel hw'=>by
          obtain ⟨xs,vs,h1,h2,h3⟩:=ZQ st hF rs l' hl hw';refine ⟨x::xs,v::vs,?_,by simp only [AZ];exact ⟨_,_,rfl,hrel,h2⟩,h3⟩;rw [List.mapM_cons];have ea:(asAddr (tmps.getD ad undef)).run P w= .ok ⟨b,off,none⟩ w:=by rw [e];rfl
          simp only [Sem.run_bind,Sem.run_pure,Result.andThen_ok,ea,hr,h1]
        rcases Ho.1 hk with ⟨ha,hk2⟩ | ⟨ha,y,rfl,hk2⟩
        · have hn':=hn ha
          subst hn';refine fin (v:= .agg us.toArray) ?_ ?_ hk2
          · simp [loadVar,HR hu,<-hag,ha,sizeOf,Gq hi,g4]
          · simp only [Rel];exact ⟨us,rfl,g2,g3⟩
        · simp only [AZ] at g2
          obtain ⟨v,us',rfl,hv,rfl⟩:=g2;have hc0:=g5 0 v rfl;refine fin (v:=v) ?_ hv hk2;simp only [Nat.add_zero] at hc0;simp [loadVar,HR hu,<-hag,ha,hc0]
      split at hc<;>cases hc
      · rename_i hag;exact main hag.symm (fun _=>rfl) (fun e=>by cases e) h
      · rename_i hag;exact main (by cases hq:G8 u<;>simp_all) (fun e=>by cases e) (fun _=>rfl) h
    · cases hc
theorem XK {f:FuncId} {fn:Func} {c:Code} {hint sc:Ak} {res:List Kk} {args:List AA} {S:AB} {R:AA->AB->Prop} (ha:Cy P f=true) (hD:N9 P fn.ntmps) (hf:P.funcs[f]?=some fn) (hb:fn.body=some c) (hc:comp P fn.ntmps c hint=some sc) (hr:V_ P fn.results.toList=some res)
    (hlen:args.length<=fn.ntmps) (h:jg P sc res args S R):AU P f args S R:=by
  refine ⟨fun E fz w vals st hrel=>?_⟩;refine .inl ⟨ha,calls_of_wp hf hb ?_⟩;have hvl:=hrel.length;have hF:B3 E fz w (TY 0 args) (vals.toArray++Array.replicate (fn.ntmps-vals.toArray.size) undef):=by
    intro t;rw [aA];rw [if_pos (Nat.zero_le _)];simp only [Nat.sub_zero];cases hx:args[t]? with
    | none=>simp [Rel]
    | some x=>
      obtain ⟨v,hv,hr⟩:=hrel.get hx;have hlt:t<vals.length:=(List.getElem?_eq_some_iff.1 hv).1;have:(vals.toArray++Array.replicate (fn.ntmps-vals.toArray.size) undef).getD t undef=v:=by
        rw [Array.getD_eq_getD_getElem?,Array.getElem?_append_left (by simpa using hlt)];simp [hv]
      rw [this];exact hr
  refine wp_mono (wpIn_wide.1 (EB (rr:=none) hD c hint sc hc st hF (by simp;omega) h)) ?_;have fin: ∀ {a':Act} {w':World} {K:Frame->AB->Prop},Ha fn.ntmps E fz S w {tmps:=vals.toArray++Array.replicate (fn.ntmps-vals.toArray.size) undef,defers:=[]} (writes sc) K a' w'->(∀F' S',K F' S'->I5 F' S' (fun xs=>R9 xs fun r=>R r S') res)->
      a'.defers=[]/\ ∃v,(results fn a'.tmps).run P w'= .ok v w'/\ ∃r S' v' E' fz',Ending.returned v= .returned v'/\Ext E fz S w E' fz' S' w'/\St E' fz' S' w'/\Rel E' fz' w' r v'/\R r S':=fun {a' w' K} hA hK=>by
    obtain ⟨F',S',E',fz',q1,q2,q3,q4,q5,q6,q7⟩:=hA;obtain ⟨xs,vs,g1,g2,g3⟩:=ZQ q3 q4 fn.results.toList res hr (hK _ _ q1);refine ⟨q6,?_⟩;have hrun:(fn.results.mapM fun r=>(match r with | .tmp t=>pure (a'.tmps.getD t undef) | .cell a t=>do loadVar t (<-asAddr (a'.tmps.getD a undef)):Sem Value)).run P w'= .ok vs.toArray w':=by
      rw [Array.mapM_eq_mapM_toList,Sem.run_map,g1];rfl
    have hres:(results fn a'.tmps).run P w'= .ok (if h:vs.toArray.size=1 then vs.toArray[0] else .tuple vs.toArray) w':=by
      unfold results;rw [Sem.run_bind];refine Eq.trans (congrArg (fun r=>Result.andThen r _) hrun) ?_;rfl
    have hl:=g2.length
    match xs,vs,hl,g2,g3,hres with
    | [x],[v],_,g2,g3,hres=>
      simp only [AZ] at g2;obtain ⟨v',us,e,hv,_⟩:=g2;cases e;exact ⟨v,hres,x,S',v,E',fz',rfl,q2,q3,hv,g3⟩
    | [],[],_,g2,g3,hres=>exact ⟨_,hres,.DG [],S',_,E',fz',rfl,q2,q3,by simp only [Rel];exact ⟨[],rfl,g2⟩,g3⟩
    | x::y::xs,v::u::vs,_,g2,g3,hres=>
      refine ⟨.tuple (v::u::vs).toArray,?_,.DG (x::y::xs),S',_,E',fz',rfl,q2,q3,by simp only [Rel];exact ⟨_,rfl,g2⟩,g3⟩;rw [hres,dif_neg (by simp)]
    | [],_::_,hl,_,_,_=>simp at hl
    | _::_,[],hl,_,_,_=>simp at hl
    | [_],_::_::_,hl,_,_,_=>simp at hl
    | _::_::_,[_],hl,_,_,_=>simp at hl
  intro e a' w' hl;cases e<;>simp only [P4] at hl
  · exact fin hl fun _ _ q=>q
  · obtain ⟨F',S',E',fz',q1,_⟩:=hl;exact q1.elim
  · exact fin hl fun _ _ q=>q
theorem AU.mono {f:FuncId} {args:List AA} {S:AB} {R R':AA->AB->Prop} (h:AU P f args S R) (hr: ∀r S',R r S'->R' r S'):AU P f args S R':=
  ⟨fun E fz w vals st hrel=>(h.out E fz w vals st hrel).mono fun e w' ⟨r,S',v,E',fz',h1,h2,h3,h4,h5⟩=>⟨r,S',v,E',fz',h1,h2,h3,h4,hr _ _ h5⟩⟩
end
end Go.Vc
end
section
namespace Go.Vc
section
variable {P : Program} {f : FuncId} {args : List AA}
theorem AU.use {S:AB} {Q:AA->Prop} {K:AA->AB->Prop} (h:AU P f args [] (fun r _=>Q r)) (hK: ∀r,Q r->K r S):AU P f args S K:=
  h.Yo fun r S' q=>⟨r,id,[],.refl r,.nil,by rw [List.append_nil];exact hK r q⟩
def deref (S:AB):Nat->AA->AA
  | 0,x=>x
  | n+1,.sl l v off len=>match S[l]? with
    | some (.row v' _ cs)=>if v'=v then .Em len ((cs.drop off).map (deref S n)) else .sl l v off len
    | _=>.sl l v off len
  | n+1,.ptr l v off=>match S[l]? with
    | some (.row v' _ cs)=>if v'=v then .Fm ((cs.drop off).map (deref S n)) else .ptr l v off
    | _=>.ptr l v off
  | n+1,.agg cs=>.agg (cs.map (deref S n))
  | n+1,.DG cs=>.DG (cs.map (deref S n))
  | _+1,.AM=>.Em 0 []
  | _+1,x=>x
theorem Le {E:Env} {fz fz':Nat->Prop} {w:World} {g:AA->AA} (hg: ∀x v,Rel E fz w x v->Rel E fz' w (g x) v): ∀(xs:List AA) (vs:List Value),AZ E fz w xs vs->AZ E fz' w (xs.map g) vs
  | [],_,h=>by simpa [AZ] using h
  | x::xs,_,h=>by
    simp only [AZ,List.map_cons] at*;obtain ⟨v,us,h0,h1,h2⟩:=h;exact ⟨v,us,h0,hg x v h1,Le hg xs us h2⟩
theorem Ni {E:Env} {fz fz':Nat->Prop} {w:World} {g:AA->AA} (hg: ∀x v,Rel E fz w x v->Rel E fz' w (g x) v) {b:Nat}: ∀(xs:List AA) (off:Nat),CR E fz w b off xs->CR E fz' w b off (xs.map g)
  | [],_,h=>by simp [CR]
  | x::xs,off,h=>by
    simp only [CR,List.map_cons] at*;obtain ⟨⟨c,h1,h2,h3⟩,h4⟩:=h;exact ⟨⟨c,h1,h2,hg x c h3⟩,Ni hg xs _ h4⟩
def frozen (E:Env) (fz:Nat->Prop) (S:AB) (b:Nat):Prop:=fz b\/Own E S b
theorem RX {E:Env} {fz:Nat->Prop} {S:AB} {w:World} (st:St E fz S w): ∀(n:Nat) (x:AA) (v:Value),Rel E fz w x v->Rel E (frozen E fz S) w (deref S n x) v:=by
  have up: ∀(x:AA) (v:Value),Rel E fz w x v->Rel E (frozen E fz S) w x v:=fun x v h=>Rel.mono (fun _ _ h=>h) (fun _ h=>.inl h) (fun _ _=>rfl) x h;intro n
  induction n with
  | zero=>intro x v h;exact up x v h
  | succ n ih=>
    intro x v h;have row: ∀ {l ver k:Nat} {cs:List AA} {b base cap k0:Nat},S[l]?=some (.row ver k cs)->E ver=some (.real b base cap k0)->frozen E fz S b/\CR E fz w b base cs:=fun {l ver k cs b base cap k0} hl hv=>by
      rcases st.ok l _ hl with ⟨h1,_⟩ | ⟨b',base',cap',arr,T,lo,hi,h1,_,_,_,_,h6,_⟩
      · rw [h1] at hv;cases hv
      · rw [h1] at hv;cases hv
        exact ⟨.inr ⟨l,_,hl,by simp [AR,h1]⟩,h6⟩
    cases x
    case sl l ver off len=>
      simp only [deref];split
      · rename_i v' k cs hl
        split
        · rename_i he;subst he
          simp only [Rel] at h |-;rcases h with ⟨h1,a,h2⟩ | ⟨b,base,cap,k0,c,h1,h2,h3,h4⟩
          · exact .inl ⟨h1,a,0,h2⟩
          · obtain ⟨g1,g2⟩:=row hl h1
            exact .inr ⟨b,base+off,c,g1,h2,h4,Ni ih _ _ (g2.drop off)⟩
        · exact up _ _ h
      · exact up _ _ h
    case ptr l ver off=>
      simp only [deref];split
      · rename_i v' k cs hl
        split
        · rename_i he;subst he
          simp only [Rel] at h |-;obtain ⟨b,base,cap,k0,h1,h2⟩:=h;obtain ⟨g1,g2⟩:=row hl h1;exact ⟨b,base+off,g1,h2,Ni ih _ _ (g2.drop off)⟩
        · exact up _ _ h
      · exact up _ _ h
    case agg cs=>
      simp only [deref,Rel] at h |-;obtain ⟨vs,h1,h2,h3⟩:=h;exact ⟨vs,h1,Le ih cs vs h2,h3⟩
    case DG cs=>
      simp only [deref,Rel] at h |-;obtain ⟨vs,h1,h2⟩:=h;exact ⟨vs,h1,Le ih cs vs h2⟩
    case AM=>
      simp only [deref,Rel] at h |-;exact .inl ⟨by simp,none,0,h⟩
    all_goals exact up _ _ h
theorem St.freeze {E:Env} {fz:Nat->Prop} {S:AB} {w:World} (st:St E fz S w):St E (frozen E fz S) [] w:=
  ⟨fun l o h=>by simp at h,fun l l' b ⟨o,h,_⟩=>by simp at h,fun b hb=>hb.elim (st.Fx b) fun ⟨l,h⟩=>(st.EU h).1,st.fresh⟩
theorem AU.freeze {R:AA->AB->Prop} (n:Nat) (h:AU P f args [] (fun r S'=>R (deref S' n r) [])):AU P f args [] R:=
  ⟨fun E fz w vals st hrel=>(h.out E fz w vals st hrel).mono fun e w' ⟨r,S',v,E',fz',h1,h2,h3,h4,h5⟩=>
    ⟨_,[],v,E',frozen E' fz' S',h1,⟨h2.env,fun b hb=>.inl (h2.WI b hb),fun b hb=>hb.elim (h2.Gi b) fun ho=>.inr (h2.own b ho),h2.AW,fun b ⟨l,o,hl,_⟩=>by simp at hl,h2.size,h2.os,h2.output,h2.tape⟩,
      h3.freeze,RX h3 n r v h4,h5⟩⟩
end
end Go.Vc
end
section
namespace Go.Vc
open Go.ChangeShapes Go.WideShapes Go.ChangeAt Go.RowKit
mutual
inductive Ty where
  | int (k:IntKind)
  | str
  | bool
  | st (fs:KJ)
  | sl (e:Ty)
inductive KJ where
  | nil
  | cons (t:Ty) (ts:KJ)
end
mutual
def T:Ty->Type
  | .int _=>Int
  | .str=>List UInt8
  | .bool=>Bool
  | .st fs=>Ts fs
  | .sl e=>List (T e)
def Ts:KJ->Type
  | .nil=>Unit
  | .cons t .nil=>T t
  | .cons t (.cons u ts)=>T t×Ts (.cons u ts)
end
mutual
def GZ:Ty->Nat
  | .int _=>1
  | .str=>1
  | .bool=>1
  | .st fs=>sR fs
  | .sl _=>1
def sR:KJ->Nat
  | .nil=>0
  | .cons t ts=>GZ t+sR ts
end
mutual
def BQ:(t:Ty)->T t->List AA
  | .int k,n=>[.int k n]
  | .str,s=>[.str s]
  | .bool,b=>[.bool b]
  | .st fs,x=>Gg fs x
  | .sl e,l=>[.Em (List.length (α:=T e) l) (List.flatMap (β:=AA) (α:=T e) (BQ e) l)]
def Gg:(ts:KJ)->Ts ts->List AA
  | .nil,_=>[]
  | .cons t .nil,x=>BQ t x
  | .cons t (.cons u ts),(x,y)=>BQ t x++Gg (.cons u ts) y
end
mutual
def uj:(t:Ty)->T t->Prop
  | .int k,n=>LE.le (α:=Int) k.min n/\LE.le (α:=Int) n k.max
  | .str,s=>List.length (α:=UInt8) s<=140737488351232
  | .bool,_=>True
  | .st fs,x=>ZK fs x
  | .sl e,l=>List.length (α:=T e) l<=140737488351232/\ ∀x:T e,List.Mem x l->uj e x
def ZK:(ts:KJ)->Ts ts->Prop
  | .nil,_=>True
  | .cons t .nil,x=>uj t x
  | .cons t (.cons u ts),(x,y)=>uj t x/\ZK (.cons u ts) y
end
mutual
def tS:(t:Ty)->T t->Nat
  | .int _,_=>1
  | .str,s=>List.length (α:=UInt8) s+1
  | .bool,_=>1
  | .st fs,x=>dp fs x+1
  | .sl e,l=>List.foldr (α:=T e) (β:=Nat) (fun x n=>tS e x+n) 1 l
def dp:(ts:KJ)->Ts ts->Nat
  | .nil,_=>0
  | .cons t .nil,x=>tS t x
  | .cons t (.cons u ts),(x,y)=>tS t x+dp (.cons u ts) y
end
def DL:(t:Ty)->T t->AA
  | .st fs,x=>.agg (Gg fs x)
  | .int k,n=>.int k n
  | .str,s=>.str s
  | .bool,b=>.bool b
  | .sl e,l=>.Em (List.length (α:=T e) l) (List.flatMap (β:=AA) (α:=T e) (BQ e) l)
def Ff:(ts:KJ)->Ts ts->List AA
  | .nil,_=>[]
  | .cons t .nil,x=>[DL t x]
  | .cons t (.cons u ts),(x,y)=>DL t x::Ff (.cons u ts) y
def N5 (P:Program) (go:TypeId->Option Ty):Nat->List Field->Option (KJ×Nat)
  | off,[]=>some (.nil,off)
  | off,f::fs=>if f.offset=off then (match go f.type with
    | some t=>if GZ t=P.cellsOf f.type then (match N5 P go (off+P.cellsOf f.type) fs with | some (ts,n)=>some (.cons t ts,n) | none=>none) else none
    | none=>none) else none
def Zj (P:Program):Nat->TypeId->Option Ty
  | 0,_=>none
  | n+1,t=>match P.underlying t with
    | some (.int k)=>some (.int k)
    | some .string=>some .str
    | some .bool=>some .bool
    | some (.slice e)=>(match Zj P n e with | some u=>if GZ u=P.cellsOf e/\0<P.cellsOf e/\0<P.bytesOf e then some (.sl u) else none | none=>none)
    | some (.struct fs)=>(match N5 P (Zj P n) 0 fs.toList with | some (ts,m)=>if m=P.cellsOf t then some (.st ts) else none | none=>none)
    | _=>none
def dZ (P:Program) (n:Nat):List TypeId->Option KJ
  | []=>some .nil
  | t::ts=>match Zj P n t,dZ P n ts with | some u,some us=>some (.cons u us) | _,_=>none
structure dz {H:Type} (bulk:DataW H->Nat) (all:List (DataW H)->Nat):Prop where
  int: ∀k n,1<=bulk (.lit (.int k n))
  bool: ∀b,1<=bulk (.lit (.bool b))
  str: ∀s,s.length+1<=bulk (.lit (.string s))
  nil:1<=bulk .nil
  slice: ∀es sp,all es+1<=bulk (.slice es sp)
  agg: ∀ps,all ps+1<=bulk (.agg ps)
  none:all []=0
  cons: ∀d r,all (d::r)=bulk d+all r
section
variable {H : Type} {enc : TypeId × Value -> H} {P : Program} {w : World} {base : Nat} {spare : Nat -> Bool} {held : Bool} {bulk : DataW H -> Nat} {all : List (DataW H) -> Nat}
abbrev E0:Env:=fun _=>none
abbrev qJ (w:World):Nat->Prop:=fun b=>b<w.heap.size
def YE (w:World) (bulk:DataW H->Nat) (t:Ty) (cs:List Value) (d:DataW H):Prop:=
  ∃x:T t,AZ E0 (qJ w) w (BQ t x) cs/\uj t x/\tS t x<=bulk d/\ ∀c∈cs,c.oneCell'=true
theorem bz {α β:Type} {g:α->Option β}: ∀ {l:List α} {ys:List β},l.mapM g=some ys-> ∀(i:Nat) a,l[i]?=some a-> ∃b,g a=some b/\ys[i]?=some b
  | [],_,_,i,a,ha=>by simp at ha
  | x::l,ys,h,i,a,ha=>by
    cases hx:g x with
    | none=>simp [hx] at h
    | some b=>
      cases hl:l.mapM g with
      | none=>simp [hx,hl] at h
      | some bs=>
        simp [hx,hl] at h;subst h;cases i with
        | zero=>simp at ha;subst ha;exact ⟨b,hx,rfl⟩
        | succ i=>simp at ha;simpa using bz hl i a ha
theorem Ve (hb:dz bulk all) {e:Ty} {k:Nat} {b off:Nat}: ∀(ds:List (DataW H)) (i0:Nat),(∀(i:Nat) d,ds[i]?=some d-> ∃cs:List Value,cs.length=k/\(∀j,j<k->w.cell? ⟨b,off+(i0+i)*k+j,none⟩=cs[j]?)/\YE w bulk e cs d)->
    ∃l:List (T e),l.length=ds.length/\CR E0 (qJ w) w b (off+i0*k) (l.flatMap (BQ e))/\(∀x∈l,uj e x)/\l.foldr (fun x n=>tS e x+n) 1<=all ds+1
  | [],i0,_=>⟨[],rfl,by simp [CR],by simp,by simp⟩
  | d::ds,i0,h=>by
    obtain ⟨cs,h1,h2,x,h3,h4,h5,h6⟩:=h 0 d rfl;obtain ⟨l,g1,g2,g3,g4⟩:=Ve hb ds (i0+1) fun i d' hd=>by
      have:=h (i+1) d' (by simpa using hd);rwa [show i0+(i+1)=i0+1+i by omega] at this
    have hlen:=h3.length;refine ⟨x::l,by simp [g1],?_,?_,?_⟩
    · rw [List.flatMap_cons]
      refine CR.append (CR.mk fun i a ha=>?_) ?_
      · obtain ⟨v,q1,q2⟩:=h3.get ha
        have hi:i<k:=by
          have:=(List.getElem?_eq_some_iff.1 q1).1;omega
        exact ⟨v,by have:=h2 i hi;rw [Nat.add_zero] at this;rw [this,q1],h6 v (List.mem_of_getElem? q1),q2⟩
      · rw [show off+i0*k+(BQ e x).length=off+(i0+1)*k by rw [<-hlen,h1,Nat.add_mul];omega]
        exact g2
    · intro y hy
      rcases List.mem_cons.1 hy with rfl | hy
      · exact h4
      · exact g3 y hy
    · rw [hb.cons]
      simp only [List.foldr_cons];omega
theorem Qz {n:Nat} (hb:dz bulk all) {go:TypeId->Option Ty} (ih: ∀(t:TypeId) (u:Ty) (cs:List Value) (d:DataW H) (ps:List MemPlace),go t=some u->(∀x∈d.weights P t,x<=reachBytes)->DataW.trod enc P w 0 spare held n t cs=some (d,ps)->YE w bulk u cs d) (cs:List Value):
    ∀(fs:List Field) (off:Nat) (ts:KJ) (m:Nat) (xs:List (DataW H×List MemPlace)),N5 P go off fs=some (ts,m)->m<=cs.length->fs.mapM (fun f=>DataW.trod enc P w 0 spare held n f.type ((cs.drop f.offset).take (P.cellsOf f.type)))=some xs->(∀x∈DataW.weightsEach P (fs.map (·.type)) (xs.map (·.1)),x<=reachBytes)->
    off<=m/\ ∃x:Ts ts,AZ E0 (qJ w) w (Gg ts x) ((cs.drop off).take (m-off))/\ZK ts x/\dp ts x<=all (xs.map (·.1))/\ ∀c∈(cs.drop off).take (m-off),c.oneCell'=true
  | [],off,ts,m,xs,hc,hm,hx,hR=>by
    simp only [N5,Option.some.injEq,Prod.mk.injEq] at hc;obtain ⟨rfl,rfl⟩:=hc;exact ⟨Nat.le_refl _,(),by simp [Gg,AZ],by simp [ZK],by simp [dp],by simp⟩
  | f::fs,off,ts,m,xs,hc,hm,hx,hR=>by
    unfold N5 at hc;split at hc
    · rename_i ho
      split at hc
      · rename_i t ht
        split at hc
        · rename_i hsz
          split at hc
          · rename_i ts' m' hr
            cases hc;rw [List.mapM_cons] at hx;cases hq:DataW.trod enc P w 0 spare held n f.type ((cs.drop f.offset).take (P.cellsOf f.type)) with
            | none=>simp [hq] at hx
            | some y=>
              cases hq2:fs.mapM (fun f=>DataW.trod enc P w 0 spare held n f.type ((cs.drop f.offset).take (P.cellsOf f.type))) with
              | none=>simp [hq,hq2] at hx
              | some ys=>
                simp [hq,hq2] at hx;subst hx;simp only [List.map_cons,DataW.weightsEach,List.mem_append] at hR;obtain ⟨i1,x2,r2,o2,w2,c2⟩:=Qz hb ih cs fs (off+P.cellsOf f.type) ts' m ys hr hm hq2 (fun x hx=>hR x (.inr hx));obtain ⟨x1,r1,o1,w1,c1⟩:=ih f.type t _ y.1 y.2 ht (fun x hx=>hR x (.inl hx)) hq;rw [ho] at r1 c1;have split_:(cs.drop off).take (m-off)=(cs.drop off).take (P.cellsOf f.type)++(cs.drop (off+P.cellsOf f.type)).take (m-(off+P.cellsOf f.type)):=by
                  rw [show m-off=P.cellsOf f.type+(m-(off+P.cellsOf f.type)) by omega,List.take_add,List.drop_drop]
                refine ⟨by omega,?_⟩;rw [split_];have hone: ∀c∈(cs.drop off).take (P.cellsOf f.type)++(cs.drop (off+P.cellsOf f.type)).take (m-(off+P.cellsOf f.type)),c.oneCell'=true:=fun c hc'=>by
                  rcases List.mem_append.1 hc' with h | h
                  · exact c1 c h
                  · exact c2 c h
                cases ts' with
                | nil=>
                  simp only [Gg,AZ] at r2;rw [r2,List.append_nil];exact ⟨x1,r1,o1,by simp only [List.map_cons,hb.cons];exact Nat.le_trans w1 (Nat.le_add_right _ _),by rw [r2,List.append_nil] at hone;exact hone⟩
                | cons u us=>
                  exact ⟨(x1,x2),r1.append r2,⟨o1,o2⟩,by simp only [List.map_cons,hb.cons];exact Nat.add_le_add w1 w2,hone⟩
          · cases hc
        · cases hc
      · cases hc
    · cases hc
theorem cy (hb:dz bulk all): ∀(fuel n:Nat) (t:TypeId) (u:Ty) (cs:List Value) (d:DataW H) (ps:List MemPlace),Zj P n t=some u->(∀x∈d.weights P t,x<=reachBytes)->DataW.trod enc P w 0 spare held fuel t cs=some (d,ps)->YE w bulk u cs d:=by
  intro fuel
  induction fuel with
  | zero=>intro n t u cs d ps _ _ h;simp [DataW.trod] at h
  | succ fuel ih=>
    intro n t u cs d ps hu hR h;cases n with
    | zero=>simp [Zj] at hu
    | succ n=>
      unfold Zj at hu;split at hu
      · rename_i k hk
        cases hu;obtain ⟨x,rfl,h2,h3⟩:=DataW.trod_int hk h;simp only [Prod.mk.injEq] at h2;simp only [Lit.wf,Bool.and_eq_true,decide_eq_true_eq] at h3;exact ⟨x,by simp [BQ,AZ,Rel],h3,by rw [h2.1];exact hb.int _ _,by simp [Value.oneCell']⟩
      · rename_i hk
        cases hu;obtain ⟨s,rfl,h2,h3⟩:=DataW.trod_string hk h;simp only [Prod.mk.injEq] at h2;refine ⟨s.data.toList,by simp [BQ,AZ,Rel],?_,by rw [h2.1];exact hb.str _,by simp [Value.oneCell']⟩;show List.length s.data.toList<=140737488351232;have:=hR s.data.toList.length (by rw [h2.1];simp [DataW.weights]);exact this
      · rename_i hk
        cases hu;obtain ⟨x,rfl,h2⟩:=DataW.trod_bool hk h;simp only [Prod.mk.injEq] at h2;exact ⟨x,by simp [BQ,AZ,Rel],trivial,by rw [h2.1];exact hb.bool _,by simp [Value.oneCell']⟩
      · rename_i e hk
        split at hu
        · rename_i u' hu'
          split at hu
          · rename_i hsz
            cases hu;unfold DataW.trod at h;rw [hk] at h;split at h<;>try (cases ‹some (TypeDesc.slice e)=some _›;done)
            all_goals try cases ‹some (TypeDesc.slice e)=some _›
            · cases h
              exact ⟨[],by simp [BQ,AZ,Rel],⟨Nat.zero_le _,fun x hx=>nomatch hx⟩,hb.nil,by simp [Value.oneCell']⟩
            · rename_i a len cap
              dsimp only at h;split at h
              · rename_i hcnd
                obtain ⟨_,hlc,hcap⟩:=hcnd;obtain ⟨elems,hel,h⟩:=Option.bind_eq_some_iff.1 h;obtain ⟨rest,hre,h⟩:=Option.map_eq_some_iff.1 h;simp only [Prod.mk.injEq] at h;obtain ⟨rfl,_⟩:=h;have hlen:elems.length=len:=by have:=mapM_some_length hel;simpa using this
                have one:Value.oneCell' (.slice (some a) len cap)=true:=by simp [Value.oneCell']
                have e1:=hb.slice (elems.map (·.1)) (rest.map (·.1));by_cases h0:len=0
                · subst h0
                  refine ⟨[],?_,⟨Nat.zero_le _,fun x hx=>nomatch hx⟩,?_,by simpa using one⟩
                  · simp [BQ,AZ,Rel]
                  · simp only [tS,List.foldr_nil];omega
                have hwt:(elems.length+rest.length)*P.bytesOf e<=reachBytes/\ ∀y∈elems,∀x∈y.1.weights P e,x<=reachBytes:=by
                  have all: ∀ {l:List (DataW H×List MemPlace)} {y:DataW H×List MemPlace},y∈l-> ∀x∈y.1.weights P e,x∈DataW.weightsAll P e (l.map (·.1)):=by
                    intro l
                    induction l with
                    | nil=>intro y hy;cases hy
                    | cons z l ih'=>
                      intro y hy x hx;simp only [List.map_cons,DataW.weightsAll,List.mem_append];rcases List.mem_cons.1 hy with rfl | hy
                      · exact .inl hx
                      · exact .inr (ih' hy x hx)
                  refine ⟨hR _ (by simp [DataW.weights,hk]),fun y hy x hx=>hR x ?_⟩;simp only [DataW.weights,hk,List.mem_cons,List.mem_append];exact .inr (.inl (all hy x hx))
                have key: ∀(i:Nat) d',(elems.map (·.1))[i]?=some d'-> ∃cs:List Value,cs.length=P.cellsOf e/\(∀j,j<P.cellsOf e->w.cell? ((a.add (i*P.cellsOf e)).add j)=cs[j]?)/\YE w bulk u' cs d':=fun i d' hd=>by
                  rw [List.getElem?_map] at hd;cases hq:elems[i]? with
                  | none=>simp [hq] at hd
                  | some y=>
                    simp [hq] at hd;subst hd;have hi:i<len:=by have:=(List.getElem?_eq_some_iff.1 hq).1;omega
                    obtain ⟨y',q1,q2⟩:=bz hel i i (by simp [hi]);rw [hq] at q2;cases q2;cases hcs:w.cells? 0 (a.add (i*P.cellsOf e)) (P.cellsOf e) with
                    | none=>simp [hcs] at q1
                    | some cs=>
                      simp only [hcs,Option.bind_some] at q1;obtain ⟨_,q3,q4⟩:=World.cells?_some hcs;exact ⟨cs,q3,q4,ih n e u' cs y.1 y.2 hu' (hwt.2 y (List.mem_of_getElem? hq)) q1⟩
                obtain ⟨b,off,spot⟩:=a;have hsp:spot=none/\b<w.heap.size:=by
                  obtain ⟨cs,k1,k2,_⟩:=key 0 _ (List.getElem?_eq_getElem (by simp;omega));have k3:=k2 0 hsz.2.1;rw [List.getElem?_eq_getElem (by omega)] at k3;have k4:spot=none:=by simpa [Addr.add] using World.cell?_spot k3
                  refine ⟨k4,?_⟩;rcases Nat.lt_or_ge b w.heap.size with hl | hl
                  · exact hl
                  · simp [World.cell?,Addr.add,Array.getElem?_eq_none hl] at k3
                obtain ⟨rfl,hbl⟩:=hsp;obtain ⟨l,g1,g2,g3,g4⟩:=Ve (w:=w) hb (e:=u') (k:=P.cellsOf e) (b:=b) (off:=off) (elems.map (·.1)) 0 fun i d' hd=>by
                  obtain ⟨cs,k1,k2,k3⟩:=key i d' hd;refine ⟨cs,k1,fun j hj=>?_,k3⟩;rw [<-k2 j hj,Nat.zero_add];unfold Addr.add;split<;>split<;>simp_all
                rw [List.length_map,hlen] at g1;refine ⟨l,?_,⟨?_,fun x hx=>g3 x hx⟩,?_,by simpa using one⟩
                · simp only [BQ,AZ]
                  refine ⟨_,_,rfl,?_,rfl⟩;simp only [Rel];exact .inr ⟨b,off,cap,hbl,by rw [g1];exact hlc,by rw [g1],by simpa using g2⟩
                · show List.length l<=140737488351232
                  rw [g1,<-hlen];have q1:=hwt.1;have q2:(elems.length+rest.length)*1<=(elems.length+rest.length)*P.bytesOf e:=Nat.mul_le_mul_left _ hsz.2.2;have q3:reachBytes=140737488351232:=rfl;omega
                · simp only [tS];omega
              · cases h
            all_goals (first | cases h | skip)
          · cases hu
        · cases hu
      · rename_i fs hk
        split at hu
        · rename_i ts m hf
          split at hu
          · rename_i hm
            cases hu;simp only [DataW.trod,hk] at h;split at h
            · rename_i hlen
              obtain ⟨xs,hx,h⟩:=Option.map_eq_some_iff.1 h;simp only [Prod.mk.injEq] at h;obtain ⟨rfl,_⟩:=h;obtain ⟨_,x,r,o,wt,c1⟩:=Qz hb (fun t u cs d ps=>ih n t u cs d ps) cs fs.toList 0 ts m xs hf (by omega) hx (by simpa [DataW.weights,hk] using hR);rw [List.drop_zero,Nat.sub_zero,List.take_of_length_le (by omega)] at r c1;exact ⟨x,r,o,Nat.le_trans (Nat.add_le_add_right wt 1) (hb.agg _),c1⟩
            · cases h
          · cases hu
        · cases hu
      · cases hu
end
end Go.Vc
end
section
namespace Go.Vc
open Go.ChangeShapes Go.WideShapes Go.ChangeAt Go.RowKit
section
variable {H : Type} {enc : TypeId × Value -> H} {P : Program} {w : World} {bulk : DataW H -> Nat} {all : List (DataW H) -> Nat}
theorem lZ (hb:dz bulk all) {n:Nat} {t:TypeId} {u:Ty} {v:Value} {d:DataW H} {ps:List MemPlace} {spare:Nat->Bool} {held:Bool} (hu:Zj P n t=some u) (hv:Value.okWide P w .any 0 t v)
    (hR: ∀x∈d.weights P t,x<=reachBytes) (h:DataW.Trod enc P w 0 spare held t v d ps): ∃x:T u,Rel E0 (qJ w) w (DL u x) v/\uj u x/\tS u x<=bulk d:=by
  obtain ⟨fuel,hf⟩:=h;obtain ⟨x,h1,h2,h3,h4⟩:=cy hb fuel n t u _ d ps hu hR hf;refine ⟨x,?_,h2,h3⟩;have one:(∀cs,v≠ .agg cs)->v.cells.toList=[v]:=fun hn=>by
    cases v<;>first | rfl | exact absurd rfl (hn _)
  cases n with
  | zero=>simp [Zj] at hu
  | succ n=>
    unfold Zj at hu;split at hu
    · rename_i k hk
      cases hu;obtain ⟨m,rfl⟩:=okWide_int hk hv;simpa [BQ,DL,AZ,Value.cells] using h1
    · rename_i hk
      cases hu;have hn: ∀cs,v≠ .agg cs:=fun cs hc=>by subst hc;simp [Value.okWide,hk,Cell.okWide,Cell.ok] at hv
      rw [one hn] at h1;simpa [BQ,DL,AZ] using h1
    · rename_i hk
      cases hu;have hn: ∀cs,v≠ .agg cs:=fun cs hc=>by subst hc;simp [Value.okWide,hk,Cell.okWide,Cell.ok] at hv
      rw [one hn] at h1;simpa [BQ,DL,AZ] using h1
    · rename_i e hk
      have hn: ∀cs,v≠ .agg cs:=fun cs hc=>by subst hc;simp [Value.okWide,hk,Cell.okWide,Cell.ok] at hv
      rw [one hn] at h1;split at hu
      · split at hu
        · cases hu
          simpa [BQ,DL,AZ] using h1
        · cases hu
      · cases hu
    · rename_i fs hk
      obtain ⟨cs,rfl,_⟩:=okWide_struct hk hv;split at hu
      · split at hu
        · cases hu
          simp only [DL,Rel];exact ⟨cs.toList,by simp,by simpa [BQ,Value.cells] using h1,by simpa [Value.cells] using h4⟩
        · cases hu
      · cases hu
    · cases hu
theorem Vd (hb:dz bulk all) {n:Nat} {spare:Nat->Bool} {held:Bool}: ∀(ts:List TypeId) (us:KJ) (vs:List Value) (ds:List (DataW H)) (ps:List MemPlace),dZ P n ts=some us->
    (∀(j:Nat) t v,ts[j]?=some t->vs[j]?=some v->Value.okWide P w .any 0 t v)->DataW.TrodAll enc P w 0 spare held ts vs ds ps->(∀x∈DataW.weightsEach P ts ds,x<=reachBytes)->
    ds.length=ts.length/\ ∃x:Ts us,AZ E0 (qJ w) w (Ff us x) vs/\ZK us x/\dp us x<=all ds
  | [],us,vs,ds,ps,hu,hv,h,hR=>by
    obtain ⟨rfl,rfl,rfl⟩:=trodAll_nil h;simp only [dZ,Option.some.injEq] at hu;subst hu;exact ⟨rfl,(),by simp [Ff,AZ],trivial,by simp [dp]⟩
  | t::ts,us,vs,ds,ps,hu,hv,h,hR=>by
    obtain ⟨v,vs',d,ds',p,q,rfl,rfl,rfl,h1,h2⟩:=trodAll_cons h;simp only [DataW.weightsEach,List.mem_append] at hR;unfold dZ at hu;split at hu
    · rename_i u us' e1 e2
      cases hu;obtain ⟨x,r1,r2,r3⟩:=lZ hb e1 (hv 0 t v rfl rfl) (fun x hx=>hR x (.inl hx)) h1;obtain ⟨hl,y,q1,q2,q3⟩:=Vd hb ts us' vs' ds' q e2 (fun j t' v' a b=>hv (j+1) t' v' (by simpa using a) (by simpa using b)) h2 (fun x hx=>hR x (.inr hx));refine ⟨by simp [hl],?_⟩;rw [hb.cons];cases us' with
      | nil=>
        simp only [Ff,AZ] at q1;subst q1;exact ⟨x,by simp only [Ff,AZ];exact ⟨v,[],rfl,r1,rfl⟩,r2,by simp only [dp];omega⟩
      | cons u2 us2=>
        refine ⟨(x,y),?_,⟨r2,q2⟩,Nat.add_le_add r3 q3⟩;simp only [Ff,AZ];exact ⟨v,vs',rfl,r1,q1⟩
    · cases hu
theorem PJ (hl:laidOutB P=true) {W':World} {sp:Nat->Bool}: ∀(ts:List TypeId) (vs:List Value) (ds:List (DataW H)) (ps:List MemPlace),(∀t∈ts,P.readableRec t=true/\t<P.types.size)->
    DataW.TrodAll enc P w 0 (fun _=>true) true ts vs ds ps->(∀p∈ps,w.sameAt W' p)->(∀p∈ps,sp p.block=true)->DataW.TrodAll enc P W' 0 sp true ts vs ds ps
  | [],vs,ds,ps,_,h,_,_=>by
    obtain ⟨rfl,rfl,rfl⟩:=trodAll_nil h;exact trodAll_mk0
  | t::ts,vs,ds,ps,ht,h,hs,hp=>by
    obtain ⟨v,vs',d,ds',p,q,rfl,rfl,rfl,h1,h2⟩:=trodAll_cons h;exact ⟨p,q,WideElems.Trod_stays hl (ht t (by simp)).1 (ht t (by simp)).2 h1 (fun x hx=>hs x (by simp [hx])) (fun x hx=>hp x (by simp [hx])),
      PJ hl ts vs' ds' q (fun t' h'=>ht t' (by simp [h'])) h2 (fun x hx=>hs x (by simp [hx])) (fun x hx=>hp x (by simp [hx])),rfl⟩
theorem Wc {f:Func} {s:ChangeSpec} {apart fresh handsOn again:Bool} {W W':World} {args:Array Value} {ds:List (DataW H)} {before:List MemPlace} (hl:laidOutB P=true)
    (hpar: ∀t∈f.params.toList,P.readableRec t=true/\t<P.types.size) (hsv:s.vars=[])
    (hW:DataW.Whole enc P f.params.toList s.vars apart W args.toList ds [] before) (hsp:s.fn H ds={results:=[.lit (.bool true)],args:=ds}) {tb:TypeId} (hrt:f.resultTypes= #[tb]) (htb:P.underlying tb=some .bool)
    (hb:Below W.heap.size W W'):s.post enc P f apart fresh handsOn again W args (.bool true) W':=by
  have hlt:=hW.lt;obtain ⟨p,q,hA,hV,rfl,hfz,hnd⟩:=hW;have hV0:=hV;rw [hsv] at hV;obtain ⟨_,rfl⟩:=trodVars_none hV;have same: ∀x∈p,W.sameAt W' x:=fun x hx=>hb.same (hlt x (by simp [hx]));have hargs: ∀sp:Nat->Bool,(∀x∈p,sp x.block=true)->DataW.TrodAll enc P W' 0 sp true f.params.toList args.toList ds p:=fun sp hs=>PJ hl _ _ _ _ hpar hA same hs;have hres: ∀(b:Nat) (sp:Nat->Bool) (hd:Bool),DataW.TrodAll enc P W' b sp hd f.resultTypes.toList ((Value.bool true).resultList f.resultTypes.size) [DataW.lit (.bool true)] []:=fun b sp hd=>by
    rw [hrt];exact trodAll_mk1 (shut_bool htb _)
  refine ⟨ds,[],p++[],[],p,[],⟨p,[],hA,hV0,rfl,hfz,hnd⟩,?_,?_,?_,?_,fun _=>?_⟩
  · rw [List.append_nil,hsp];exact hres _ _ _
  · rw [List.append_nil,hsp];exact hargs _ fun x hx=>by simpa using hlt x (by simp [hx])
  · rw [List.append_nil,hsp,hsv];exact rfl
  · exact World.keptBut_mono (fun x hx=>by simpa using hx) (hb.frame (· ∈p++[]))
  · refine ⟨?_,[.lit (.bool true)]++ds,[],p++[],⟨p,[],?_,?_,rfl,?_,?_⟩,fun x hx _=>hx⟩
    · exact ok_one hrt rfl (okWide_bool_mk htb _)
    · have:=trodAll_append (hargs (fun _=>true) fun _ _=>rfl) (hres 0 (fun _=>true) true)
      simpa using this
    · rw [hsv];exact rfl
    · intro b off hp
      have:=hb.frozen (p:=⟨b,off,none⟩) (hlt _ hp);rw [this];exact hfz b off hp
    · exact hnd
theorem Y3 {fn:Func} {f:FuncId} {s:ChangeSpec} {tb:TypeId} {us:KJ} {n:Nat} {par:Array TypeId} (Ej:fn.params=par) (hb:dz bulk all) (hl:laidOutB P=true) (hpar: ∀t∈par.toList,P.readableRec t=true/\t<P.types.size) (hsv:s.vars=[])
    (hsp: ∀ds:List (DataW H),ds.length=par.toList.length->s.fn H ds={results:=[.lit (.bool true)],args:=ds}) (hrt:fn.resultTypes= #[tb]) (htb:P.underlying tb=some .bool) (hu:dZ P n par.toList=some us)
    {args:Array Value} {ds gs:List (DataW H)} {before:List MemPlace} {W:World} {apart fresh handsOn again:Bool}
    (law: ∀x:Ts us,ZK us x->dp us x<=all (ds++gs)->Cy P f=true/\AU P f (Ff us x) [] (fun r _=>r= .bool true))
    (hval: ∀(j:Nat) t v,fn.params[j]?=some t->args[j]?=some v->Value.okWide P W .any 0 t v)
    (hW:DataW.Whole enc P fn.params.toList s.vars apart W args.toList ds gs before) (hz:(DataW.weightsEach P (fn.params.toList++s.plain.varTypes P) (ds++gs)).all (· <=reachBytes)=true):
    Calls P f args W fun e W'=> ∃v,e= .returned v/\s.post enc P fn apart fresh handsOn again W args v W':=by
  subst Ej;have hW0:=hW;obtain ⟨p,q,hA,hV,_,_,_⟩:=hW;rw [hsv] at hV;obtain ⟨rfl,_⟩:=trodVars_none hV;have hR: ∀x∈DataW.weightsEach P fn.params.toList ds,x<=reachBytes:=by
    have mono: ∀(ts us:List TypeId) (ds es:List (DataW H)),∀x∈DataW.weightsEach P ts ds,ts.length=ds.length->x∈DataW.weightsEach P (ts++us) (ds++es):=by
      intro ts
      induction ts with
      | nil=>intro us ds es x hx _;cases ds<;>simp [DataW.weightsEach] at hx
      | cons t ts ih=>
        intro us ds es x hx hl;cases ds with
        | nil=>simp [DataW.weightsEach] at hx
        | cons d ds=>
          simp only [DataW.weightsEach,List.mem_append,List.cons_append] at hx |-;rcases hx with hx | hx
          · exact .inl hx
          · exact .inr (ih us ds es x hx (by simpa using hl))
    have hl:fn.params.toList.length=ds.length:=by
      have: ∀(ts:List TypeId) (vs:List Value) (ds:List (DataW H)) (ps:List MemPlace),DataW.TrodAll enc P W 0 (fun _=>true) true ts vs ds ps->ts.length=ds.length:=by
        intro ts
        induction ts with
        | nil=>intro vs ds ps h;obtain ⟨_,rfl,_⟩:=trodAll_nil h;rfl
        | cons t ts ih=>
          intro vs ds ps h;obtain ⟨v,vs',d,ds',p,q,_,rfl,_,_,h2⟩:=trodAll_cons h;simp [ih _ _ _ h2]
      exact this _ _ _ _ hA
    intro x hx;have:=List.all_eq_true.1 hz x (mono _ _ _ _ x hx hl);simpa using this
  obtain ⟨hlen,x,h1,h2,h3⟩:=Vd hb _ us _ ds p hu (fun j t v a b=>hval j t v (by simpa using a) (by simpa using b)) hA hR;have st0:St E0 (qJ W) [] W:=⟨fun l o h=>by simp at h,fun l l' b ⟨o,h,_⟩=>by simp at h,fun b h=>h,0,fun _ _=>rfl⟩
  have c0:=law x h2 (by rw [List.append_nil];exact h3);have c:=(c0.2.out E0 (qJ W) W args.toList st0 h1).calls c0.1;rw [show args.toList.toArray=args by simp] at c;refine c.mono fun e W' ⟨r,S',v,E',fz',e1,e2,e3,e4,e5⟩=>?_;subst e5;simp only [Rel] at e4;subst e4;refine ⟨_,e1,Wc hl hpar hsv hW0 (hsp ds (by simpa using hlen)) hrt htb ⟨e2.os,e2.tape.1,e2.output,e2.size,fun k hk=>e2.AW k hk fun ⟨l,o,h,_⟩=>by simp at h⟩⟩
end
end Go.Vc
end
section
namespace Go.Vc
theorem FB: ∀(n:Nat) (xs:List AA),n<=xs.length->takeN n xs=some (xs.take n)
  | 0,_,_=>by simp [takeN]
  | n+1,[],h=>by simp at h
  | n+1,x::xs,h=>by simp [takeN,FB n xs (by simpa using h)]
theorem BH {α:Type} {enc:α->List AA} {k:Nat} (hk: ∀x,(enc x).length=k) (l:List α):(l.flatMap enc).length=l.length*k:=by
  induction l with
  | nil=>simp
  | cons x l ih=>simp [List.flatMap_cons,hk,ih,Nat.add_mul,Nat.add_comm]
theorem RY {α:Type} {enc:α->List AA} {k:Nat} (hk: ∀x,(enc x).length=k): ∀(l:List α) (j:Nat),(l.flatMap enc).drop (j*k)=(l.drop j).flatMap enc
  | l,0=>by simp
  | [],j+1=>by simp
  | x::l,j+1=>by
    rw [List.flatMap_cons,List.drop_succ_cons,<-RY hk l j,Nat.add_mul,Nat.one_mul,Nat.add_comm,<-List.drop_drop];rw [List.drop_left' (hk x)]
theorem X7 {α:Type} {enc:α->List AA} {k:Nat} (hk: ∀x,(enc x).length=k) {l:List α} {j:Nat} (hj:j<l.length) (fo n:Nat) (h:fo+n<=k):
    takeN n ((l.flatMap enc).drop (j*k+fo))=some (((enc l[j]).drop fo).take n):=by
  rw [<-List.drop_drop,RY hk,List.drop_eq_getElem_cons hj,List.flatMap_cons,List.drop_append_of_le_length (by rw [hk];omega),FB _ _ (by simp [hk];omega),List.take_append_of_le_length (by simp [hk];omega)]
theorem gi {α:Type} {enc:α->List AA} {k:Nat} (hk: ∀x,(enc x).length=k) {l:List α} {j:Nat} (hj:j<l.length):
    takeN k ((l.flatMap enc).drop (j*k))=some (enc l[j]):=by
  have:=X7 hk hj 0 k (by omega);rw [Nat.add_zero] at this;rw [this,List.drop_zero,List.take_of_length_le (by rw [hk];omega)]
end Go.Vc
end
end
