/- Part of the proof of enginePlays_holds: the whole is true of every input. Conditions: none. -/
import Derived.Test.YtlibocgedgdmlaaGreatP2
import Derived.Orders
import Derived.Deep.LoopGhost
import Derived.ProofKit
import Derived.Below
import Derived.Carry
import Derived.JoinedCond
set_option linter.all false
section
section
namespace Go.Vc
def reach (ops:Array Oper):Nat->Nat->Nat->Bool
  | 0,_,_=>false
  | f+1,j,i=>match ops[j]? with
    | none=>false
    | some o=>(o.after.any fun e=>Region.binds .any e && e.on == i) || (o.after.any fun e=>Region.binds .any e && decide (i<e.on) && reach ops f e.on i)
def C9.names (g:C9):List Nat:=g.dst.toList++g.op.Ap++(match g.guard with | some (s,_)=>[s] | none=>[])
def J4 (g h:C9):Bool:=(match g.dst with | some d=>h.names.contains d | none=>false) || (match h.dst with | some d=>g.names.contains d | none=>false)
def EL.free:EL->Bool
  | .CD _ | .pick _ _ _ | .build _ _ | .Fg _ | .bin _ _ _ _ | .Od _ | .not _ | .neg _ | .conv _ _ | .Bo _ _ | .field _ _ _ _ | .index _ _ _ _ _ | .len _ _
  | .min _ | .max _ | .HJ _ _ _ | .extract _ _ | .ext _ _ | .slice 0 _ _ _ | .WR _ _ | .Pr _ _=>true
  | .Ax ro _ _ _ _=>ro
  | _=>false
def EL.Dd:EL->Bool
  | .call _ _ | .GZ _ _=>true
  | _=>false
def EL.Yi:EL->Bool
  | .DE _ | .alloc _ _ | .box _ _ | .Hq _ _ _ _ _ | .rn _ | .NR | .Ll _=>true
  | .Ax ro _ _ _ _=> !ro
  | _=>false
def EL.aL:EL->Bool
  | .load _ _ _=>true
  | _=>false
def eG (g h:C9):Bool:=match g.op,g.dst with
  | .load n ag (.t r),some t=>g.guard.isNone && !g.H5 && t != r && h.Lg.any fun k=>k.1 == t && k.2.1 == n && k.2.2.1 == ag && (match k.2.2.2 with | .t s=>s == r | _=>false)
  | _,_=>false
def EL.jU:EL->Option Nat
  | .NS d _ _ _ _ _=>some d
  | .NN d _ _=>some d
  | .J5 d=>some d
  | .Lf d _ _ _ _=>some d
  | .Nv d _ _ _=>some d
  | _=>none
def EL.pf:EL->Bool
  | .Nv _ _ _ _=>true
  | _=>false
def EL.aM:EL->Bool
  | .load _ _ _ | .LL _ _ _ _ _=>true
  | _=>false
def aU (qa qb:Bool) (g h:C9):Bool:= !J4 g h && (g.op.free || (g.op.quiet && (qa || !g.op.Dd) && (h.op.Yi || (h.op.quiet && (qb || !h.op.Dd)))) || (match g.op.jU,h.op.jU with
    | some d,some d'=>d != d' && g.guard.isNone && h.guard.isNone && !g.H5 && !h.H5 && !h.op.pf
    | _,_=>false) || (g.op.aM && h.op.jU.isSome && g.guard.isNone && h.guard.isNone && !g.H5 && !h.H5 && !h.op.pf))
def Rf (qa qb:Bool) (g h:C9):Bool:=g.Lg.isEmpty && ((aU qa qb g h && (h.Lg.isEmpty || (g.op.quiet && (qa || !g.op.Dd)))) || (!J4 g h && eG g h))
def uV (d:Option Nat) (l:List Nat):Bool:=match d with | some d=>l.contains d | none=>false
def HE (π:List Nat) (gl:List C9):List C9:=π.map fun i=>gl.getD i default
def vk (π:List Nat) (l:List C9):List C9:=(List.range π.length).map fun i=>l.getD (π.findIdx fun j=>j == i) default
def MH (gl:List C9):Nat->List Nat->List (Nat×Bool×C9)
  | _,[]=>[]
  | m,i::π=>(i,decide (0<m),gl.getD i default)::MH gl (m-1) π
def Wb (ops:Array Oper) (nc:Bool) (x y:Nat×Bool×C9):Bool:=(reach ops ops.size y.1 x.1 || Rf x.2.1 y.2.1 x.2.2 y.2.2) && (nc || !x.2.2.op.aL || !uV y.2.2.dst x.2.2.names)
def Qp (ops:Array Oper) (nc:Bool):List (Nat×Bool×C9)->Bool
  | []=>true
  | x::l=>(l.all fun y=>Wb ops nc x y) && Qp ops nc l
def Pp (gl:List C9):Bool:=gl.all fun g=>g.Lg.isEmpty
def ae:List Nat->Bool
  | []=>true
  | a::l=> !l.contains a && ae l
def Zr (ops:Array Oper) (m:Nat) (π:List Nat) (gl:List C9):Bool:=
  ae π && (π.all fun i=>decide (i<ops.size)) && ((List.range ops.size).all fun i=>π.contains i) &&
  ((List.range ops.size).all fun j=>(match ops[j]? with | some o=>o.after.all fun e=> !Region.binds .any e || decide (e.on<j) | none=>true)) &&
  Qp ops (Pp gl) (MH gl m π) && Pp ((HE π gl).take m)
section
variable {P : Program} {N : Nat}
theorem Ve {ops:Array Oper}: ∀ {l:List Oper} {hint gl:List C9},Qv P N ops l hint=some gl->l.length=gl.length/\ ∀(i:Nat) o,l[i]?=some o-> ∃g hh,gl[i]?=some g/\Zl P (vW hh) hh.op o.type o.op=g.op/\P7 ops o.guard=some g.guard/\g.dst=o.dst/\cZ N o.dst=true
  | [],hint,gl,h=>by
    cases hint<;>simp only [Qv] at h<;>cases h;simp
  | o::l,[],gl,h=>by simp only [Qv] at h;cases h
  | o::l,g::hint,gl,h=>by
    simp only [Qv] at h;split at h
    case h_2=>cases h
    rename_i gd rest hgd hrest;split at h
    case isFalse=>cases h
    rename_i hdst;cases h;obtain ⟨h1,h2⟩:=Ve hrest;refine ⟨by simp [h1],fun i o' hi=>?_⟩;cases i with
    | zero=>simp at hi;subst hi;exact ⟨_,g,rfl,rfl,hgd,rfl,hdst⟩
    | succ i=>simpa using h2 i o' (by simpa using hi)
def VX (ops:Array Oper) (D:Array Bool):Prop:= ∀j o,ops[j]?=some o->D.getD j false=true-> ∀e∈o.after,Region.binds .any e=true->D.getD e.on false=true
theorem Rm {ops:Array Oper} {D:Array Bool} (hc:VX ops D): ∀ {f j i:Nat} {o:Oper},ops[j]?=some o->(∀e∈o.after,Region.binds .any e=true->D.getD e.on false=true)->reach ops f j i=true->D.getD i false=true
  | 0,j,i,o,_,_,h=>by simp [reach] at h
  | f+1,j,i,o,hj,ha,h=>by
    simp only [reach,hj,Array.any_eq_true',Bool.and_eq_true,Bool.or_eq_true,beq_iff_eq] at h;rcases h with ⟨e,he,hb,h⟩ | ⟨e,he,⟨hb,_⟩,h⟩
    · rw [<-h];exact ha e he hb
    · have hl:=ha e he hb
      cases ho:ops[e.on]? with
      | none=>
        cases f with
        | zero=>simp [reach] at h
        | succ f=>simp [reach,ho] at h
      | some o'=>exact Rm hc ho (fun e' he' hb'=>hc _ _ ho hl e' he' hb') h
theorem Hb (F:Frame) (d:Option Nat) (x:AA) (t:Nat):(AK F d x).get t=if d=some t then x else F.get t:=by
  cases d with
  | none=>simp [AK]
  | some d=>
    simp only [AK,Frame.get];cases h:Nat.beq d t with
    | true=>rw [if_pos (by rw [Nat.eq_of_beq_eq_true h])]
    | false=>rw [if_neg (fun e=>Nat.ne_of_beq_eq_false h (by simpa using e))]
theorem OD {F F':Frame} {S:AB} {K:AA->AB->Prop} {so:EL} (hs: ∀t∈so.Ap,F.get t=F'.get t) (h:AF P F S K so):AF P F' S K so:=by
  by_cases hq:so.quiet=true
  · exact jl hq hs h
  · cases so<;>simp only [EL.quiet,not_true_eq_false] at hq
    case DE k=>exact h
    case NR=>exact h
    case Ll x=>simp only [AF,AD] at h |-;rw [<-Af hs];exact h
    case UK x=>simp only [AF,AD] at h |-;rw [<-Af hs];exact h
    case OA x=>simp only [AF,AD] at h |-;rw [<-Af hs];exact h
    case aZ q m k x=>
      simp only [EL.Ap,List.mem_append] at hs;simp only [AF,AD] at h |-;rw [<-Af (x:=m) fun t ht=>hs t (.inl (.inl ht)),<-Af (x:=k) fun t ht=>hs t (.inl (.inr ht)),<-Af (x:=x) fun t ht=>hs t (.inr ht)];exact h
    case m_ q z m k=>
      simp only [EL.Ap,List.mem_append] at hs;simp only [AF,AD] at h |-;rw [<-Af (x:=m) fun t ht=>hs t (.inl ht),<-Af (x:=k) fun t ht=>hs t (.inr ht)];exact h
    case nC m i x=>
      simp only [EL.Ap,List.mem_append] at hs;simp only [AF,AD] at h |-;rw [<-Af (x:=m) fun t ht=>hs t (.inl (.inl ht)),<-Af (x:=i) fun t ht=>hs t (.inl (.inr ht)),<-Af (x:=x) fun t ht=>hs t (.inr ht)];exact h
    case alloc k z=>exact h
    case box k x=>simp only [AF,AD] at h |-;rw [<-Af hs];exact h
    case Ax ro len k z ps=>exact LQ hs h
    case store n x v=>
      simp only [EL.Ap,List.mem_append] at hs;simp only [AF,AD] at h |-;rw [<-Af (x:=x) fun t ht=>hs t (.inl ht),<-Af (x:=v) fun t ht=>hs t (.inr ht)];exact h
    case Hq k b z x y=>
      simp only [EL.Ap,List.mem_append] at hs;simp only [AF,AD] at h |-;rw [<-Af (x:=x) fun t ht=>hs t (.inl ht),<-Af (x:=y) fun t ht=>hs t (.inr ht)];exact h
    case append k b x y=>
      simp only [EL.Ap,List.mem_append] at hs;simp only [AF,AD] at h |-;rw [<-Af (x:=x) fun t ht=>hs t (.inl ht),<-Af (x:=y) fun t ht=>hs t (.inr ht)];exact h
    case XQ k b x y=>
      simp only [EL.Ap,List.mem_append] at hs;simp only [AF,AD] at h |-;rw [<-Af (x:=x) fun t ht=>hs t (.inl ht),<-Af (x:=y) fun t ht=>hs t (.inr ht)];exact h
    case bad=>exact h
    case HB neg x=>simp only [AF,AD] at h |-;rw [<-Af hs];exact h
    case peq neg x y=>
      simp only [EL.Ap,List.mem_append] at hs;simp only [AF,AD] at h |-;rw [<-Af (x:=x) fun t ht=>hs t (.inl ht),<-Af (x:=y) fun t ht=>hs t (.inr ht)];exact h
    case Ms n x=>simp only [AF,AD] at h |-;rw [<-Af hs];exact h
    case clear k z x=>simp only [AF,AD] at h |-;rw [<-Af hs];exact h
    case rn x=>simp only [AF,AD] at h |-;rw [<-Af hs];exact h
    case mark x=>simp only [AF,AD] at h |-;rw [<-Af hs];exact h
    case NN d k z=>exact h
    case J5 d=>exact h
    case Lf d k f xs zs=>
      simp only [EL.Ap,List.mem_append] at hs;simp only [AF,Ar] at h |-;rw [<-Dy (xs:=xs) fun t ht=>hs t (.inl ht),<-Dy (xs:=zs) fun t ht=>hs t (.inr ht)];exact h
    case Nv d k f xs=>simp only [AF,Ar] at h |-;rw [<-Dy (xs:=xs) hs];exact h
    case NS d k b z x y=>
      simp only [EL.Ap,List.mem_append] at hs;simp only [AF,AD] at h |-;rw [<-Af (x:=x) fun t ht=>hs t (.inl ht),<-Af (x:=y) fun t ht=>hs t (.inr ht)];exact h
def Mj (P:Program) (q:Bool) (F:Frame) (S:AB) (K:AA->AB->Prop) (so:EL):Prop:=match q with | true=>DI P F S K so | false=>AF P F S K so
theorem Mk {F:Frame} {S:AB} {K:AA->AB->Prop} {so:EL} (h:so.Dd=false):DI P F S K so=AF P F S K so:=by
  cases so<;>first | rfl | cases h
theorem J8 {F:Frame} {S:AB} {K:AA->AB->Prop} {so:EL} {q:Bool} (h:so.Dd=false):Mj P q F S K so=AF P F S K so:=by
  cases q
  · rfl
  · exact Mk h
theorem fe {F:Frame} {S:AB} {K:AA->AB->Prop} {so:EL} (h:DI P F S K so):AF P F S K so:=by
  by_cases hc:so.Dd=true
  · have hq:so.quiet=true:=by cases so<;>simp only [EL.Dd] at hc<;>first | rfl | cases hc
    obtain ⟨x,h1,h2⟩:=O9 hq h;exact h2 K h1
  · rwa [Mk (by simpa using hc)] at h
theorem rS {F:Frame} {S:AB} {K:AA->AB->Prop} {so:EL} {q:Bool} (h:Mj P q F S K so):AF P F S K so:=by
  cases q
  · exact h
  · exact fe h
theorem Tm {F F':Frame} {S:AB} {K:AA->AB->Prop} {so:EL} {q:Bool} (hs: ∀t∈so.Ap,F.get t=F'.get t) (h:Mj P q F S K so):Mj P q F' S K so:=by
  cases q
  · exact OD hs h
  · by_cases hc:so.Dd=true
    · cases so<;>simp only [EL.Dd] at hc<;>first | (cases hc;done) | skip
      case call f xs=>simp only [Mj,DI,Ar] at h |-;rw [<-Dy (xs:=xs) hs];exact h
      case GZ x xs=>
        simp only [EL.Ap,List.mem_append] at hs;simp only [Mj,DI,AD,Ar] at h |-;rw [<-Af (x:=x) fun t ht=>hs t (.inl ht),<-Dy (xs:=xs) fun t ht=>hs t (.inr ht)];exact h
    · have hc:so.Dd=false:=by simpa using hc
      rw [J8 hc] at h |-;exact OD hs h
theorem TF {F:Frame} {S:AB} {K:AA->AB->Prop} {so:EL} {q:Bool} (hq:so.quiet=true) (hc:q=true\/so.Dd=false) (h:Mj P q F S K so):
    ∃x,K x S/\ ∀(F':Frame) (K':AA->AB->Prop),(∀t∈so.Ap,F.get t=F'.get t)->K' x S->Mj P q F' S K' so:=by
  by_cases hcl:so.Dd=true
  · rcases hc with rfl | hc
    · cases so<;>simp only [EL.Dd] at hcl<;>first | (cases hcl;done) | skip
      case call f xs=>
        simp only [Mj,DI,Ar] at h;obtain ⟨r0,h1,h2⟩:=h;refine ⟨r0,h2,fun F' K' hs hk=>?_⟩;simp only [Mj,DI,Ar];rw [<-Dy (xs:=xs) hs];exact ⟨r0,h1,hk⟩
      case GZ x xs=>
        simp only [Mj,DI,AD,Ar] at h;generalize hX:rd F x=X at h;cases X<;>first | exact h.elim | skip
        rename_i f first cap
        cases f<;>first | exact h.elim | skip
        cases first<;>first | exact h.elim | skip
        obtain ⟨hcl,r0,h1,h2⟩:=h;refine ⟨r0,h2,fun F' K' hs hk=>?_⟩;simp only [EL.Ap,List.mem_append] at hs;simp only [Mj,DI,AD,Ar];rw [<-Af (x:=x) fun t ht=>hs t (.inl ht),<-Dy (xs:=xs) fun t ht=>hs t (.inr ht),hX];exact ⟨hcl,r0,h1,hk⟩
    · rw [hcl] at hc;cases hc
  · have hcl:so.Dd=false:=by simpa using hcl
    rw [J8 hcl,<-Mk hcl] at h;obtain ⟨x,h1,h2⟩:=O9 hq h;exact ⟨x,h1,fun F' K' hs hk=>Tm hs (by rw [J8 hcl];exact h2 K' hk)⟩
theorem iO {so:EL} (h:so.free=true):so.quiet=true/\so.Dd=false:=by
  cases so<;>simp only [EL.free] at h<;>first | (cases h;done) | exact ⟨rfl,rfl⟩ | exact ⟨h,rfl⟩
theorem iP {F:Frame} {S S':AB} {K:AA->AB->Prop} {so:EL} (hf:so.free=true) (h:AF P F S K so):AF P F S' (fun x _=>K x S) so:=by
  cases so<;>simp only [EL.free] at hf<;>first | (cases hf;done) | exact h | skip
  case Ax ro len k z ps=>subst hf;exact h
  case slice k x lo hi=>
    cases k with
    | zero=>exact h
    | succ k=>cases hf
theorem uR {F:Frame} {S:AB} {K:AA->AB->Prop} {so:EL} {q:Bool} (hf:so.free=true) (h:Mj P q F S K so):
    ∃x,K x S/\ ∀(F':Frame) (S':AB) (K':AA->AB->Prop),(∀t∈so.Ap,F.get t=F'.get t)->K' x S'->Mj P q F' S' K' so:=by
  obtain ⟨hq,hc⟩:=iO hf;obtain ⟨x,h1,h2⟩:=TF hq (.inr hc) h;refine ⟨x,h1,fun F' S' K' hs hk=>?_⟩;have g:=h2 F' (fun z _=>z=x) hs rfl;rw [J8 hc] at g;have g':=iP (S':=S') hf g;rw [<-Mk hc] at g';obtain ⟨y,g1,g2⟩:=O9 hq g';rw [J8 hc];refine g2 K' ?_;have e:y=x:=g1;rw [e];exact hk
theorem Oi {x:AA} {K K':List AA->Prop} (h:HR x K) (hk: ∀c,K c->K' c):HR x K':=by
  cases x<;>simp only [HR] at h |- <;>first | exact h.elim | exact hk _ h
theorem XG {F:Frame} {K K':List AA->Prop} {ps:List (Nat×Nat×AO)} {cs:List AA} (h:KC F cs K ps) (hk: ∀c,K c->K' c):KC F cs K' ps:=by
  obtain ⟨x,h1,h2⟩:=Q4 _ h;exact h2 _ (hk _ h1)
theorem ZT {S:AB} {k:Nat} {x:AA} {K K':Nat->List AA->Prop} (h:Nh S k x K) (hk: ∀n c,K n c->K' n c):Nh S k x K':=by
  cases x<;>simp only [Nh] at h |- <;>first | exact h.elim | exact hk _ _ h | exact ⟨h.1,hk _ _ h.2⟩ | skip
  obtain ⟨k',cs,h1,h2,h3⟩:=AP.1 h;exact AP.2 ⟨k',cs,h1,h2,hk _ _ h3⟩
theorem gT {so:EL} (h:so.Dd=true):so.quiet=true:=by
  cases so<;>simp only [EL.Dd] at h<;>first | rfl | cases h
theorem ke {F:Frame} {S:AB} {K K':AA->AB->Prop} {so:EL} (hc:so.Dd=false) (h:AF P F S K so) (hk: ∀x S',K x S'->K' x S'):AF P F S K' so:=by
  by_cases hq:so.quiet=true
  · rw [<-J8 (q:=false) hc] at h
    obtain ⟨x,h1,h2⟩:=TF hq (.inr hc) h;exact h2 F K' (fun _ _=>rfl) (hk _ _ h1)
  · cases so<;>simp only [EL.quiet,not_true_eq_false] at hq
    case DE k=>simp only [AF,A5] at h |-;exact fun v=>hk _ _ (h v)
    case NR=>simp only [AF,A5] at h |-;exact fun v=>hk _ _ (h v)
    case Ll x=>
      simp only [AF,AD] at h |-;generalize rd F x=X at*;cases X<;>first | exact h.elim | skip
      obtain ⟨es,h1,h2⟩:=C7.1 h;simp only [A5] at h2;refine C7.2 ⟨es,h1,?_⟩;simp only [A5];exact fun v=>hk _ _ (h2 v)
    case UK x=>
      simp only [AF,AD] at h |-;generalize rd F x=X at*;cases X<;>first | exact h.elim | skip
      rename_i l v off;cases off<;>first | exact h.elim | skip
      obtain ⟨mv,since,last,seen,h1,lm,es,h2,h3,h4,h5⟩:=JO.1 h;refine JO.2 ⟨mv,since,last,seen,h1,lm,es,h2,h3,fun q=>hk _ _ (h4 q),fun i e q1 q2=>?_⟩;have:=h5 i e q1 q2;rw [Cj] at this |-;exact ⟨this.1,hk _ _ this.2⟩
    case OA x=>
      simp only [AF,AD] at h |-;generalize rd F x=X at*;cases X<;>first | exact h.elim | skip
      rename_i l v off;cases off<;>first | exact h.elim | skip
      obtain ⟨mv,since,last,seen,h1,lm,es,i,e,h2,h3,h4,h5,h6⟩:=JO.1 h;exact JO.2 ⟨mv,since,last,seen,h1,lm,es,i,e,h2,h3,h4,h5,hk _ _ h6⟩
    case aZ q m k x=>
      simp only [AF,AD] at h |-;generalize rd F m=X at*;refine ⟨h.1,?_⟩;have h:=h.2;cases X<;>first | exact h.elim | skip
      obtain ⟨es,h1,h2,h3⟩:=C7.1 h;rw [Cj] at h3;exact C7.2 ⟨es,h1,h2,Cj.2 ⟨h3.1,hk _ _ h3.2⟩⟩
    case m_ q z m k=>
      simp only [AF,AD] at h |-;generalize rd F m=X at*;refine ⟨h.1,?_⟩;have h:=h.2;cases X<;>first | exact h.elim | skip
      obtain ⟨es,h1,h2,h3⟩:=C7.1 h;refine C7.2 ⟨es,h1,h2,?_⟩;split at h3<;>rw [Cj] at h3<;>exact Cj.2 ⟨h3.1,hk _ _ h3.2⟩
    case nC m i x=>
      simp only [AF,AD] at h |-;obtain ⟨kk,j,e,h⟩:=Ep h;rw [e];refine ⟨j,rfl,?_⟩;generalize rd F m=X at*;cases X<;>first | exact h.elim | skip
      obtain ⟨es,h1,h2⟩:=C7.1 h;refine C7.2 ⟨es,h1,?_⟩;split at h2
      · rename_i e0 he
        rw [Cj] at h2;exact Cj.2 ⟨h2.1,hk _ _ h2.2⟩
      · exact h2.elim
    case alloc k z=>simp only [AF,A5] at h |-;exact fun v=>hk _ _ (h v)
    case box k x=>
      simp only [AF,A5,AD] at h |-;exact Oi h fun c h v=>hk _ _ (h v)
    case Ax ro len k z ps=>
      cases ro
      · simp only [AF,A5] at h |-
        exact XG h fun c h v=>hk _ _ (h v)
      · exact absurd rfl hq
    case store n x v=>
      simp only [AF,AD] at h |-;generalize rd F x=X at*;cases X<;>first | exact h.elim | skip
      obtain ⟨k,cs,h1,h2⟩:=AP.1 h;refine AP.2 ⟨k,cs,h1,Oi h2 fun c h=>⟨h.1,h.2.1,?_⟩⟩;have h3:=h.2.2;rw [Fo,Cj] at h3 |-;exact ⟨h3.1,hk _ _ h3.2⟩
    case Hq k b z x y=>
      simp only [AF,A5,AD] at h |-;obtain ⟨kk,j,e,h1,h2,h3⟩:=Ep h;rw [e] at h1 |-;exact ⟨j,rfl,h1,h2,fun v=>hk _ _ (h3 v)⟩
    case append k b s x=>
      simp only [AF,AD] at h |-;refine ZT h fun n ys h=>?_;generalize rd F s=X at*;cases X<;>first | exact h.elim | skip
      · simp only [A5] at h |-
        exact ⟨h.1,fun v=>hk _ _ (h.2 v)⟩
      · simp only at h |-
        obtain ⟨k',cs,h1,h2,h3,h4,h5⟩:=AP.1 h;refine AP.2 ⟨k',cs,h1,h2,h3,h4,fun v=>?_⟩;have:=h5 v;rw [Cj] at this |-;exact ⟨this.1,hk _ _ this.2⟩
    case XQ k b s x=>
      simp only [AF,AD] at h |-;refine ZT h fun n ys h=>⟨h.1,?_⟩
      have h:=h.2;generalize rd F s=X at*;cases X<;>first | exact h.elim | skip
      · simp only [A5] at h |-
        exact ⟨h.1,fun v=>hk _ _ (h.2 v)⟩
      · simp only at h |-
        obtain ⟨k',cs,h1,h2,h3,h4,h5,h6⟩:=AP.1 h;simp only [A5] at h6;rw [Cj] at h5;refine AP.2 ⟨k',cs,h1,h2,h3,h4,Cj.2 ⟨h5.1,hk _ _ h5.2⟩,?_⟩;simp only [A5];exact fun v=>hk _ _ (h6 v)
    case bad=>exact h
    case mark x=>
      simp only [AF,AD] at h |-;generalize rd F x=X at*;cases X<;>first | exact h.elim | skip
      obtain ⟨k',cs,h1,h0,h3⟩:=AP.1 h.2;exact ⟨h.1,AP.2 ⟨k',cs,h1,h0,hk _ _ h3⟩⟩
    case rn x=>
      simp only [AF,A5,AD] at h |-;generalize rd F x=X at*;cases X<;>first | exact h.elim | exact fun v=>hk _ _ (h v)
    case HB neg x=>
      simp only [AF,AD] at h |-;generalize rd F x=X at*;cases X<;>first | exact h.elim | exact hk _ _ h | exact fun b hb=>hk _ _ (h b hb)
    case Ms n x=>
      simp only [AF,AD] at h |-;generalize rd F x=X at*;cases X<;>first | exact h.elim | skip
      obtain ⟨k,cs,g1,g2,g3,h⟩:=AP.1 h;exact AP.2 ⟨k,cs,g1,g2,g3,hk _ _ h⟩
    case peq neg x y=>
      simp only [AF,AD] at h |-;generalize rd F x=X at*;generalize rd F y=Y at*;cases X<;>cases Y<;>first | exact h.elim | exact hk _ _ h | skip
      obtain ⟨k,cs,g1,g2,h⟩:=AP.1 h;obtain ⟨k',cs',g3,g4,h⟩:=AP.1 h;exact AP.2 ⟨k,cs,g1,g2,AP.2 ⟨k',cs',g3,g4,hk _ _ h⟩⟩
    case clear k z x=>
      simp only [AF,AD] at h |-;generalize rd F x=X at*;cases X<;>first | exact h.elim | exact hk _ _ h | skip
      simp only at h |-;obtain ⟨k',cs,h1,h2,h3,h4⟩:=AP.1 h;rw [Cj] at h4;exact AP.2 ⟨k',cs,h1,h2,h3,Cj.2 ⟨h4.1,hk _ _ h4.2⟩⟩
    case NS d k b z x y=>
      simp only [AF,AD] at h |-;obtain ⟨kk,j,e,h1,h2,h3,h4,h5,h6⟩:=Ep h;rw [e] at h1 |-;exact ⟨j,rfl,h1,h2,h3,h4,h5,fun v=>hk _ _ (h6 v)⟩
    case NN d k z=>
      simp only [AF] at h |-;exact ⟨h.1,h.2.1,h.2.2.1,fun v=>hk _ _ (h.2.2.2 v)⟩
    case J5 d=>
      simp only [AF] at h |-;exact ⟨h.1,h.2.1,h.2.2.1,fun v=>hk _ _ (h.2.2.2 v)⟩
    case Lf d k f xs zs=>
      simp only [AF,Ar] at h |-;exact ⟨h.1,h.2.1,h.2.2.1,h.2.2.2.1,fun v=>hk _ _ (h.2.2.2.2 v)⟩
    case Nv d k f xs=>
      simp only [AF,Ar] at h |-;obtain ⟨n,cs,h1,h2,h3,h4,h5⟩:=h;exact ⟨n,cs,h1,h2,h3,h4,fun v=>hk _ _ (h5 v)⟩
theorem Kw {F:Frame} {S:AB} {K K':AA->AB->Prop} {so:EL} {q:Bool} (h:Mj P q F S K so) (hk: ∀x S',K x S'->K' x S'):Mj P q F S K' so:=by
  by_cases hc:so.Dd=true
  · cases q
    · cases so<;>simp only [EL.Dd] at hc<;>first | (cases hc;done) | skip
      case call f xs=>simp only [Mj,AF,Ar] at h |-;exact DM h hk
      case GZ x xs=>
        simp only [Mj,AF,AD,Ar] at h |-;generalize rd F x=X at*;cases X<;>first | exact h.elim | skip
        rename_i f first cap
        cases f<;>first | exact h.elim | skip
        · cases first<;>first | exact h.elim | skip
          exact ⟨h.1,DM h.2 hk⟩
        · cases first<;>first | exact h.elim | skip
          cases cap<;>first | exact h.elim | skip
          exact ⟨h.1,LW.mono h.2 hk⟩
    · obtain ⟨x,h1,h2⟩:=TF (gT hc) (.inl rfl) h
      exact h2 F K' (fun _ _=>rfl) (hk _ _ h1)
  · have hc:so.Dd=false:=by simpa using hc
    rw [J8 hc] at h |-;exact ke hc h hk
def Kz (P:Program) (q:Bool) (o:C9) (F:Frame) (S:AB) (K:AA->AB->Prop):Prop:=
  match o.guard with
  | none=>Mj P q F S (fun x S'=>Ao o.H5 x fun x=>K x S') o.op
  | some (g,want)=>match F.get g,want with
    | .tt,true=>Mj P q F S (fun x S'=>Ao o.H5 x fun x=>K x S') o.op
    | .tt,false=>K (.DH []) S
    | .ff,false=>Mj P q F S (fun x S'=>Ao o.H5 x fun x=>K x S') o.op
    | .ff,true=>K (.DH []) S
    | .DH _,_=>K (.DH []) S
    | _,_=>False
def cJ (F:Frame) (S:AB) (k:Nat×Nat×Bool×AO):Prop:=I7 S k.2.1 k.2.2.1 (rd F k.2.2.2) fun r=>r=F.get k.1
def Nu (F:Frame) (S:AB) (l:List (Nat×Nat×Bool×AO)):Prop:= ∀k∈l,cJ F S k
theorem gg {F F':Frame} {S:AB} {k:Nat×Nat×Bool×AO} (hs: ∀t∈k.1::k.2.2.2.Ap,F.get t=F'.get t) (h:cJ F S k):cJ F' S k:=by
  unfold cJ at h |-;rw [<-Af (F:=F) (F':=F') fun t ht=>hs t (by simp [ht]),<-hs k.1 (by simp)];exact h
theorem P9 {F F':Frame} {S:AB} {l:List (Nat×Nat×Bool×AO)} (hs: ∀k∈l,∀t∈k.1::k.2.2.2.Ap,F.get t=F'.get t) (h:Nu F S l):Nu F' S l:=
  fun k hk=>gg (hs k hk) (h k hk)
theorem lQ {F:Frame} {S:AB} {K:AA->AB->Prop} {k:Nat×Nat×Bool×AO} (h:AF P F S K (.again k.1 k.2.1 k.2.2.1 k.2.2.2)):cJ F S k/\K .C3 S:=by
  simp only [AF,AD] at h;obtain ⟨z,h1,h2⟩:=Ka _ h;exact ⟨h2 _ h1.1,h1.2⟩
theorem cK {K:Frame->AB->Prop} {rest:List C9} {F:Frame} {S:AB}: ∀(l:List (Nat×Nat×Bool×AO)),BK P K (l.map Nr++rest) F S->Nu F S l/\BK P K rest F S
  | [],h=>⟨fun k hk=>(by cases hk),h⟩
  | k::l,h=>by
    simp only [List.map_cons,List.cons_append,BK,Nr,Ao,AK] at h;obtain ⟨h1,h2⟩:=lQ h;obtain ⟨h3,h4⟩:=cK l h2;refine ⟨fun k' hk=>?_,h4⟩;rcases List.mem_cons.1 hk with rfl | hk
    · exact h1
    · exact h3 k' hk
def SF (P:Program) (K:Frame->AB->Prop):List (Nat×Bool×C9)->Frame->AB->Prop
  | [],F,S=>K F S
  | x::l,F,S=>Kz P x.2.1 x.2.2 F S fun y S'=>Nu (AK F x.2.2.dst y) S' x.2.2.Lg/\SF P K l (AK F x.2.2.dst y) S'
theorem Gp {b:Bool} {x:AA} {K K':AA->Prop} (h:Ao b x K) (hk: ∀x,K x->K' x):Ao b x K':=by
  cases b
  · exact hk _ h
  · cases x<;>simp only [Ao] at h |- <;>first | exact h.elim | exact hk _ h | exact ⟨fun e=>hk _ (h.1 e),fun e=>hk _ (h.2 e)⟩
theorem EP {q:Bool} {o:C9} {F:Frame} {S:AB} {K K':AA->AB->Prop} (h:Kz P q o F S K) (hk: ∀x S',K x S'->K' x S'):Kz P q o F S K':=by
  unfold Kz at h |-;have hop: ∀ {so:EL},Mj P q F S (fun x S'=>Ao o.H5 x fun x=>K x S') so->Mj P q F S (fun x S'=>Ao o.H5 x fun x=>K' x S') so:=fun h=>Kw h fun x S' h=>Gp h fun y hy=>hk _ _ hy;split
  · rename_i hg;rw [hg] at h;exact hop h
  · rename_i g want hg
    rw [hg] at h;simp only at h;generalize F.get g=c at*;cases c<;>cases want<;>simp only at h |- <;>first | exact h.elim | exact hk _ _ h | exact hop h
theorem tg {rr:Option Nat} {ops:Array Oper} {k:Nat} {o:Oper} {g:C9} {q ro:Bool} {hint:EL} {Q:Exit->Act->World->Prop} {K:AA->AB->Prop} {E:Env} {fz:Nat->Prop} {S:AB} {w:World} {F:Frame} {a:Act} (ho:ops[k]?=some o)
    (hcop:Zl P ro hint o.type o.op=g.op) (hgd:P7 ops o.guard=some g.guard) (st:St E fz S w) (hF:CH E fz w F a.tmps) (h:Kz P q g F S K) {next:Act->World->Prop}
    (hn: ∀(x:AA) (S':AB) (E':Env) (fz':Nat->Prop) (w':World) (v:Value),K x S'->Ext E fz S w E' fz' S' w'->St E' fz' S' w'->Rel E' fz' w' x v->next (a.put o.dst v) w'):wpOpIn (wf rr) 0 P ops Q k next a w:=by
  have run:Mj P q F S (fun x S'=>Ao g.H5 x fun x=>K x S') g.op->o.wpIn (wf rr) 0 P a w next Q:=fun hop=>by
    refine XO (Q0 (by rw [hcop];exact rS hop)) (Vi st hF hcop (rS hop)) ?_;rintro v w' ⟨x,S',E',fz',hk,hx,hs,hr⟩;obtain ⟨y,hy,hr'⟩:=XA hk hr;exact hn y S' E' fz' w' v hy hx hs hr'
  have skip:K (.DH []) S->next (a.put o.dst undef) w:=fun hk=>
    hn _ S E fz w undef hk .refl st (by simp only [Rel];exact ⟨[],rfl,by simp [AZ]⟩)
  unfold Kz at h;simp only [wpOpIn,ho];cases hgo:o.guard with
  | none=>
    rw [hgo] at hgd;simp only [P7] at hgd;have hgd':=Option.some.inj hgd;rw [<-hgd'] at h;rw [if_pos (by simp [Region.wanted,hgo])];exact run h
  | some jw=>
    obtain ⟨j,want⟩:=jw;rw [hgo] at hgd;simp only [P7] at hgd;split at hgd
    case h_2=>cases hgd
    rename_i d hd;have hgd':=Option.some.inj hgd;rw [<-hgd'] at h;obtain ⟨w1,w2,w3⟩:=XI hgo hd hF;simp only at h;cases hg:F.get d<;>cases want<;>rw [hg] at h<;>simp only at h<;>first | exact h.elim | skip
    · rw [w1 hg,if_neg (by simp)];exact ⟨fun _ _=>trivial,skip h⟩
    · rw [w1 hg,if_pos rfl];exact run h
    · rw [w2 hg,if_pos (by simp)];exact run h
    · rw [w2 hg,if_neg (by simp)];exact ⟨fun _ _=>trivial,skip h⟩
    all_goals
      rw [w3 _ hg,if_neg (by simp)];exact ⟨fun _ _=>trivial,skip h⟩
theorem Sf {D:Array Bool} {j:Nat} (h:j<D.size):D.getD j true=D.getD j false:=by
  simp [Array.getD_eq_getD_getElem?,Array.getElem?_eq_getElem h]
theorem dG {D:Array Bool} {i j:Nat} (h:i<D.size):(D.setIfInBounds i true).getD j false=if j=i then true else D.getD j false:=by
  simp only [Array.getD_eq_getD_getElem?,Array.getElem?_setIfInBounds];by_cases e:i=j
  · subst e;simp [h]
  · rw [if_neg e,if_neg (fun h=>e h.symm)]
theorem jR {ops:Array Oper} {D:Array Bool} (hc:VX ops D) {i j:Nat} (hi:i∈Region.ready .any ops D) (h:reach ops ops.size i j=true):D.getD j false=true:=by
  obtain ⟨_,o,ho,ha⟩:=mem_ready.1 hi;exact Rm hc ho ha h
theorem nE {ops:Array Oper} {D:Array Bool} (hedge: ∀(j:Nat) o,ops[j]?=some o-> ∀e∈o.after,Region.binds .any e=true->e.on<j) (hsz:D.size=ops.size) (h:Region.ready .any ops D=[]): ∀j,j<ops.size->D.getD j false=true:=by
  intro j
  induction j using Nat.strongRecOn with
  | _ j ih=>
    intro hj;cases hd:D.getD j false with
    | true=>rfl
    | false=>
      have hmem:j∈Region.ready .any ops D:=mem_ready.2 ⟨by rw [Sf (by omega)];exact hd,ops[j],Array.getElem?_eq_getElem hj,fun e he hb=>by
        have:=hedge j _ (Array.getElem?_eq_getElem hj) e he hb;exact ih e.on this (by omega)⟩
      rw [h] at hmem;cases hmem
theorem gv {ops:Array Oper} {D:Array Bool} (hc:VX ops D) (hsz:D.size=ops.size) {i:Nat} (hi:i∈Region.ready .any ops D):VX ops (D.setIfInBounds i true):=by
  obtain ⟨h0,o,ho,ha⟩:=mem_ready.1 hi;have hlt:i<D.size:=by rw [hsz];exact (Array.getElem?_eq_some_iff.1 ho).1
  intro j o' hj hd e he hb;rw [dG hlt] at hd |-;split
  · rfl
  · split at hd
    · rename_i e1;subst e1
      rw [ho] at hj;cases hj;exact ha e he hb
    · exact hc j o' hj hd e he hb
theorem T9: ∀ {gl:List C9} {g:C9} {t:Nat},g∈gl->g.dst=some t->t∈Ie gl
  | [],g,t,h,_=>by cases h
  | g'::gl,g,t,h,hd=>by
    simp only [Ie,List.mem_append];rcases List.mem_cons.1 h with rfl | h
    · exact .inl (by simp [hd])
    · exact .inr (T9 h hd)
def C9.reads (o:C9):List Nat:=o.op.Ap++(match o.guard with | some (s,_)=>[s] | none=>[])
theorem Mh {q:Bool} {o:C9} {F F':Frame} {S:AB} {K:AA->AB->Prop} (hs: ∀t∈o.reads,F.get t=F'.get t) (h:Kz P q o F S K):Kz P q o F' S K:=by
  have hsl: ∀t∈o.op.Ap,F.get t=F'.get t:=fun t ht=>hs t (by simp [C9.reads,ht]);unfold Kz at h |-;split
  · rename_i hg;rw [hg] at h;exact Tm hsl h
  · rename_i g want hg
    rw [hg] at h;simp only at h;rw [<-hs g (by simp [C9.reads,hg])];generalize F.get g=c at*;cases c<;>cases want<;>simp only at h |- <;>first | exact h.elim | exact h | exact Tm hsl h
theorem W_ {b:Bool} {y:AA} {Q:AA->Prop} (h:Ao b y Q): ∃x,Q x/\ ∀Q':AA->Prop,Q' x->Ao b y Q':=by
  cases b
  · exact ⟨y,h,fun _ h=>h⟩
  · cases y<;>simp only [Ao] at h |- <;>first | exact h.elim | exact ⟨_,h,fun _ h=>h⟩ | skip
    rename_i b;cases b
    · exact ⟨.ff,h.2 rfl,fun _ h=>⟨fun e=>(by cases e),fun _=>h⟩⟩
    · exact ⟨.tt,h.1 rfl,fun _ h=>⟨fun _=>h,fun e=>(by cases e)⟩⟩
theorem Mi {q:Bool} {o:C9} {F:Frame} {S:AB} {K:AA->AB->Prop} (hq:o.op.quiet=true) (hc:q=true\/o.op.Dd=false) (h:Kz P q o F S K):
    ∃x,K x S/\ ∀(F':Frame) (K':AA->AB->Prop),(∀t∈o.reads,F.get t=F'.get t)->K' x S->Kz P q o F' S K':=by
  have hop:Mj P q F S (fun x S'=>Ao o.H5 x fun x=>K x S') o.op-> ∃x,K x S/\ ∀(F':Frame) (K':AA->AB->Prop),(∀t∈o.op.Ap,F.get t=F'.get t)->K' x S->Mj P q F' S (fun x S'=>Ao o.H5 x fun x=>K' x S') o.op:=fun h=>by
    obtain ⟨y,h1,h2⟩:=TF hq hc h;obtain ⟨x,h3,h4⟩:=W_ h1;exact ⟨x,h3,fun F' K' hs hk=>h2 F' _ hs (h4 _ hk)⟩
  unfold Kz at h;split at h
  · rename_i hg
    obtain ⟨x,h1,h2⟩:=hop h;refine ⟨x,h1,fun F' K' hs hk=>?_⟩;unfold Kz;rw [hg];exact h2 F' K' (fun t ht=>hs t (by simp [C9.reads,ht])) hk
  · rename_i g want hg
    have other: ∀ {F':Frame},(∀t∈o.reads,F.get t=F'.get t)->F'.get g=F.get g:=fun hs=>(hs g (by simp [C9.reads,hg])).symm;have sl: ∀ {F':Frame},(∀t∈o.reads,F.get t=F'.get t)-> ∀t∈o.op.Ap,F.get t=F'.get t:=fun hs t ht=>hs t (by simp [C9.reads,ht]);cases hcv:F.get g<;>cases want<;>rw [hcv] at h<;>simp only at h<;>first | exact h.elim | skip
    all_goals first
      | (obtain ⟨x,h1,h2⟩:=hop h
         refine ⟨x,h1,fun F' K' hs hk=>?_⟩;unfold Kz;rw [hg];simp only;rw [other hs,hcv];exact h2 F' K' (sl hs) hk)
      | (refine ⟨_,h,fun F' K' hs hk=>?_⟩
         unfold Kz;rw [hg];simp only;rw [other hs,hcv];exact hk)
theorem rQ {q:Bool} {o:C9} {F:Frame} {S:AB} {K:AA->AB->Prop} (hf:o.op.free=true) (h:Kz P q o F S K):
    ∃x,K x S/\ ∀(F':Frame) (S':AB) (K':AA->AB->Prop),(∀t∈o.reads,F.get t=F'.get t)->K' x S'->Kz P q o F' S' K':=by
  have hop:Mj P q F S (fun x S'=>Ao o.H5 x fun x=>K x S') o.op-> ∃x,K x S/\ ∀(F':Frame) (S':AB) (K':AA->AB->Prop),(∀t∈o.op.Ap,F.get t=F'.get t)->K' x S'->Mj P q F' S' (fun x S'=>Ao o.H5 x fun x=>K' x S') o.op:=fun h=>by
    obtain ⟨y,h1,h2⟩:=uR hf h;obtain ⟨x,h3,h4⟩:=W_ h1;exact ⟨x,h3,fun F' S' K' hs hk=>h2 F' S' _ hs (h4 _ hk)⟩
  unfold Kz at h;split at h
  · rename_i hg
    obtain ⟨x,h1,h2⟩:=hop h;refine ⟨x,h1,fun F' S' K' hs hk=>?_⟩;unfold Kz;rw [hg];exact h2 F' S' K' (fun t ht=>hs t (by simp [C9.reads,ht])) hk
  · rename_i g want hg
    have other: ∀ {F':Frame},(∀t∈o.reads,F.get t=F'.get t)->F'.get g=F.get g:=fun hs=>(hs g (by simp [C9.reads,hg])).symm;have sl: ∀ {F':Frame},(∀t∈o.reads,F.get t=F'.get t)-> ∀t∈o.op.Ap,F.get t=F'.get t:=fun hs t ht=>hs t (by simp [C9.reads,ht]);cases hcv:F.get g<;>cases want<;>rw [hcv] at h<;>simp only at h<;>first | exact h.elim | skip
    all_goals first
      | (obtain ⟨x,h1,h2⟩:=hop h
         refine ⟨x,h1,fun F' S' K' hs hk=>?_⟩;unfold Kz;rw [hg];simp only;rw [other hs,hcv];exact h2 F' S' K' (sl hs) hk)
      | (refine ⟨_,h,fun F' S' K' hs hk=>?_⟩
         unfold Kz;rw [hg];simp only;rw [other hs,hcv];exact hk)
theorem St.front {E:Env} {fz:Nat->Prop} {S:AB} {w:World} {o:Ob} (st:St E fz (S++[o]) w):St E fz S w:=by
  have up: ∀ {l:Nat} {x:Ob},S[l]?=some x->(S++[o])[l]?=some x:=fun {l x} h=>by
    rw [List.getElem?_append_left (List.getElem?_eq_some_iff.1 h).1];exact h
  exact ⟨fun l x h=>st.ok l x (up h),fun l l' b ⟨x,h1,h2⟩ ⟨y,g1,g2⟩=>st.sep l l' b ⟨x,up h1,h2⟩ ⟨y,up g1,g2⟩,st.Gi,st.fresh⟩
theorem Tu {P:Program} {f:FuncId} {args:List AA} {S:AB} {r0:AA} {o:Ob} (h:AV P f args S (fun r S'=>r=r0/\S'=S)):AV P f args (S++[o]) (fun r S'=>r=r0/\S'=S++[o]):=by
  refine ⟨fun E fz w vals st hrel=>(h.out E fz w vals st.front hrel).mono ?_⟩;rintro e w' ⟨r,S',v,E',fz',h1,hx,st',hr,rfl,rfl⟩;have lt: ∀ {l:Nat} {x:Ob},S'[l]?=some x->l<S'.length:=fun h=>(List.getElem?_eq_some_iff.1 h).1;have up: ∀ {l:Nat} {x:Ob},S'[l]?=some x->(S'++[o])[l]?=some x:=fun {l x} h=>by
    rw [List.getElem?_append_left (lt h)];exact h
  have last:(S'++[o])[S'.length]?=some o:=by simp
  have split: ∀ {l:Nat} {x:Ob},(S'++[o])[l]?=some x->S'[l]?=some x\/(l=S'.length/\x=o):=fun {l x} h=>by
    rcases Nat.lt_or_ge l S'.length with c | c
    · rw [List.getElem?_append_left c] at h;exact .inl h
    · have:=(List.getElem?_eq_some_iff.1 h).1
      simp at this;have e:l=S'.length:=by omega
      subst e;rw [last] at h;cases h;exact .inr ⟨rfl,rfl⟩
  have ownUp: ∀ {b:Nat},Own E S' b->Own E (S'++[o]) b:=fun ⟨l,x,q1,q2⟩=>⟨l,x,up q1,q2⟩
  have oat: ∀ {b:Nat},AU E o=some b->Dh E (S'++[o]) S'.length b:=fun hb=>⟨o,last,hb⟩
  have okO:=st.ok _ _ last;have blk:=okO.block hx.env;have notin: ∀ {b:Nat},AU E o=some b-> ¬Own E S' b:=fun hb ⟨l,x,q1,q2⟩=>by
    have:=st.sep l S'.length _ ⟨x,up q1,q2⟩ (oat hb);have:=lt q1;omega
  have safe: ∀b,AU E o=some b->w'.heap[b]?=w.heap[b]?/\ ¬fz' b:=fun b hb=>by
    obtain ⟨l1,l2⟩:=st.Ey (oat hb);refine ⟨hx.AW b l1 (notin hb),fun hf=>?_⟩;rcases hx.IE b hf with h | h | h
    · exact l2 h
    · exact notin hb h
    · omega
  have e1: ∀b,fz' b->fz b\/Own E (S'++[o]) b\/w.heap.size<=b:=fun b hb=>by
    rcases hx.IE b hb with h | h | h
    · exact .inl h
    · exact .inr (.inl (ownUp h))
    · exact .inr (.inr h)
  have e2: ∀b,Own E' (S'++[o]) b->Own E (S'++[o]) b\/w.heap.size<=b:=fun b ⟨l,x,q1,q2⟩=>by
    rcases split q1 with h | ⟨rfl,rfl⟩
    · rcases hx.own b ⟨l,x,h,q2⟩ with h | h
      · exact .inl (ownUp h)
      · exact .inr h
    · rw [blk] at q2;exact .inl ⟨_,oat q2⟩
  have e3: ∀(l:Nat) x,(S'++[o])[l]?=some x->Ql E' fz' w' x:=fun l x hl=>by
    rcases split hl with h | ⟨rfl,rfl⟩
    · exact st'.ok l x h
    · exact okO.mono hx.env hx.Yf (st.front.aF hx) safe
  have e4: ∀l l' b,Dh E' (S'++[o]) l b->Dh E' (S'++[o]) l' b->l=l':=fun l l' b ⟨x,q1,q2⟩ ⟨y,g1,g2⟩=>by
    have cross: ∀ {l b:Nat} {x:Ob},S'[l]?=some x->AU E' x=some b->AU E' o=some b->False:=fun {l b x} h1 h2 h3=>by
      rw [blk] at h3;rcases hx.own b ⟨l,x,h1,h2⟩ with h | h
      · exact notin h3 h
      · have:=(st.Ey (oat h3)).1;omega
    rcases split q1 with h | ⟨k1,k2⟩<;>rcases split g1 with h' | ⟨k3,k4⟩
    · exact st'.sep l l' b ⟨x,h,q2⟩ ⟨y,h',g2⟩
    · rw [k4] at g2;exact (cross h q2 g2).elim
    · rw [k2] at q2;exact (cross h' g2 q2).elim
    · rw [k1,k3]
  exact ⟨_,_,v,E',fz',h1,⟨hx.env,hx.Yf,e1,fun b hb hn=>hx.AW b hb fun ho=>hn (ownUp ho),e2,hx.size,hx.os,hx.output,hx.tape⟩,⟨e3,e4,st'.Gi,st'.fresh⟩,hr,rfl,rfl⟩
theorem gB {P:Program} {f:FuncId} {args:List AA} {S:AB} {R:AA->AB->Prop} {i:Nat} {o:Ob} (hd:S[i]?=some .dead) (hR: ∀r S',R r S'->S'[i]?=some .dead) (h:AV P f args S R):AV P f args (S.set i o) (fun r T=> ∃S',R r S'/\T=S'.set i o):=by
  have wT:(S.set i o)[i]?=some o:=List.getElem?_set_self (List.getElem?_eq_some_iff.1 hd).1;have nd: ∀ {E:Env} {x:Ob} {b:Nat},AU E x=some b->x≠ .dead:=fun {E x b} h e=>by subst e;simp [AU] at h
  have old: ∀ {S:AB} {l:Nat} {x:Ob},S[i]?=some .dead->S[l]?=some x->x≠ .dead->(S.set i o)[l]?=some x:=fun {S l x} hd h hx=>by
    rw [List.getElem?_set_ne (fun e=>by subst e;rw [hd] at h;cases h;exact hx rfl)];exact h
  have split: ∀ {S:AB} {l:Nat} {x:Ob},S[i]?=some .dead->(S.set i o)[l]?=some x->(l≠i/\S[l]?=some x)\/(l=i/\x=o):=fun {S l x} hd h=>by
    by_cases e:l=i
    · subst e;rw [List.getElem?_set_self (List.getElem?_eq_some_iff.1 hd).1] at h;cases h;exact .inr ⟨rfl,rfl⟩
    · rw [List.getElem?_set_ne (Ne.symm e)] at h;exact .inl ⟨e,h⟩
  refine ⟨fun E fz w vals st hrel=>?_⟩;have frt:St E fz S w:=⟨fun l x h=>by
      by_cases e:x= .dead
      · subst e;trivial
      · exact st.ok l x (old hd h e),fun l l' b ⟨x,h1,h2⟩ ⟨y,g1,g2⟩=>st.sep l l' b ⟨x,old hd h1 (nd h2),h2⟩ ⟨y,old hd g1 (nd g2),g2⟩,st.Gi,st.fresh⟩
  refine (h.out E fz w vals frt hrel).mono ?_;rintro e w' ⟨r,S',v,E',fz',h1,hx,st',hr,hRr⟩;have hd':=hR r S' hRr;have ownUp: ∀ {b:Nat},Own E S b->Own E (S.set i o) b:=fun ⟨l,x,q1,q2⟩=>⟨l,x,old hd q1 (nd q2),q2⟩
  have oat: ∀ {b:Nat},AU E o=some b->Dh E (S.set i o) i b:=fun hb=>⟨o,wT,hb⟩
  have okO:=st.ok _ _ wT;have blk:=okO.block hx.env;have notin: ∀ {b:Nat},AU E o=some b-> ¬Own E S b:=fun hb ⟨l,x,q1,q2⟩=>by
    have:=st.sep l i _ ⟨x,old hd q1 (nd q2),q2⟩ (oat hb);subst this;rw [hd] at q1;cases q1;exact nd q2 rfl
  have safe: ∀b,AU E o=some b->w'.heap[b]?=w.heap[b]?/\ ¬fz' b:=fun b hb=>by
    obtain ⟨l1,l2⟩:=st.Ey (oat hb);refine ⟨hx.AW b l1 (notin hb),fun hf=>?_⟩;rcases hx.IE b hf with h | h | h
    · exact l2 h
    · exact notin hb h
    · omega
  have e1: ∀b,fz' b->fz b\/Own E (S.set i o) b\/w.heap.size<=b:=fun b hb=>by
    rcases hx.IE b hb with h | h | h
    · exact .inl h
    · exact .inr (.inl (ownUp h))
    · exact .inr (.inr h)
  have e2: ∀b,Own E' (S'.set i o) b->Own E (S.set i o) b\/w.heap.size<=b:=fun b ⟨l,x,q1,q2⟩=>by
    rcases split hd' q1 with ⟨_,h⟩ | ⟨rfl,rfl⟩
    · rcases hx.own b ⟨l,x,h,q2⟩ with h | h
      · exact .inl (ownUp h)
      · exact .inr h
    · rw [blk] at q2;exact .inl ⟨_,oat q2⟩
  have e3: ∀(l:Nat) x,(S'.set i o)[l]?=some x->Ql E' fz' w' x:=fun l x hl=>by
    rcases split hd' hl with ⟨_,h⟩ | ⟨rfl,rfl⟩
    · exact st'.ok l x h
    · exact okO.mono hx.env hx.Yf (frt.aF hx) safe
  have e4: ∀l l' b,Dh E' (S'.set i o) l b->Dh E' (S'.set i o) l' b->l=l':=fun l l' b ⟨x,q1,q2⟩ ⟨y,g1,g2⟩=>by
    have cross: ∀ {l b:Nat} {x:Ob},S'[l]?=some x->AU E' x=some b->AU E' o=some b->False:=fun {l b x} h1 h2 h3=>by
      rw [blk] at h3;rcases hx.own b ⟨l,x,h1,h2⟩ with h | h
      · exact notin h3 h
      · have:=(st.Ey (oat h3)).1;omega
    rcases split hd' q1 with ⟨_,h⟩ | ⟨k1,k2⟩<;>rcases split hd' g1 with ⟨_,h'⟩ | ⟨k3,k4⟩
    · exact st'.sep l l' b ⟨x,h,q2⟩ ⟨y,h',g2⟩
    · rw [k4] at g2;exact (cross h q2 g2).elim
    · rw [k2] at q2;exact (cross h' g2 q2).elim
    · rw [k1,k3]
  exact ⟨r,S'.set i o,v,E',fz',h1,⟨hx.env,hx.Yf,e1,fun b hb hn=>hx.AW b hb fun ho=>hn (ownUp ho),e2,hx.size,hx.os,hx.output,hx.tape⟩,⟨e3,e4,st'.Gi,st'.fresh⟩,hr,S',hRr,rfl⟩
theorem OO {S:AB} {l v:Nat} {o:Ob} {K:Nat->List AA->Prop} (h:J9 S l v K):J9 (S++[o]) l v K:=by
  obtain ⟨k,cs,h1,h2⟩:=AP.1 h;refine AP.2 ⟨k,cs,?_,h2⟩;rw [List.getElem?_append_left (List.getElem?_eq_some_iff.1 h1).1];exact h1
theorem Yo {S:AB} {n:Nat} {ag:Bool} {x:AA} {o:Ob} {K:AA->Prop} (h:I7 S n ag x K):I7 (S++[o]) n ag x K:=by
  cases x<;>simp only [I7] at h |- <;>first | exact h.elim | exact h | exact OO h
theorem po {S:AB} {n i:Nat} {ag:Bool} {x:AA} {o:Ob} {K:AA->Prop} (hd:S[i]?=some .dead) (h:I7 S n ag x K):I7 (S.set i o) n ag x K:=by
  cases x<;>simp only [I7] at h |- <;>first | exact h.elim | exact h | skip
  obtain ⟨k,cs,h1,h2⟩:=AP.1 h;refine AP.2 ⟨k,cs,?_,h2⟩;rw [List.getElem?_set_ne (fun e=>by subst e;rw [hd] at h1;cases h1)];exact h1
theorem Ra {F:Frame} {S:AB} {i:Nat} {o:Ob} {x:AA} {so:EL} (hl:so.aM=true) (hd:S[i]?=some .dead) (h:AF P F S (fun y T=>y=x/\T=S) so):AF P F (S.set i o) (fun y T=>y=x/\T=S.set i o) so:=by
  cases so<;>simp only [EL.aM] at hl<;>first | (cases hl;done) | skip
  case load n ag y=>
    simp only [AF,AD] at h |-;obtain ⟨z,h1,h2⟩:=Ka _ (po (o:=o) hd h);exact h2 _ ⟨h1.1,by trivial⟩
  case LL q ok z m k=>
    simp only [AF,AD] at h |-;generalize rd F m=X at*;refine ⟨h.1,?_⟩;have h:=h.2;cases X<;>first | exact h.elim | skip
    · obtain ⟨es,hl,h1,h2,_⟩:=C7.1 h
      refine C7.2 ⟨es,?_,h1,h2,by trivial⟩;rw [List.getElem?_set_ne (fun e=>by subst e;rw [hd] at hl;cases hl)];exact hl
    · exact ⟨h.1,by trivial⟩
theorem gP {S:AB} {x:AA} {o:Ob} {K:List UInt8->Prop} (h:NL S x K):NL (S++[o]) x K:=by
  cases x<;>simp only [NL] at h |- <;>first | exact h.elim | exact h | exact OO h
theorem jQ {F:Frame} {S:AB} {o:Ob} {x:AA} {so:EL} (hq:so.quiet=true) (h:DI P F S (fun y T=>y=x/\T=S) so):DI P F (S++[o]) (fun y T=>y=x/\T=S++[o]) so:=by
  by_cases hf:so.free=true
  · obtain ⟨z,h1,h2⟩:=uR hf (show Mj P true F S (fun y T=>y=x/\T=S) so from h)
    exact h2 F (S++[o]) (fun y T=>y=x/\T=S++[o]) (fun _ _=>rfl) ⟨h1.1,rfl⟩
  cases so<;>simp only [EL.quiet] at hq<;>first | (cases hq;done) | (exact (hf rfl).elim) | (exact (hf hq).elim) | skip
  case call f xs=>
    simp only [DI,Ar] at h |-;obtain ⟨r0,h1,h2,h3⟩:=h;exact ⟨r0,Tu h1,h2,by trivial⟩
  case GZ y xs=>
    simp only [DI,AD,Ar] at h |-;generalize rd F y=X at*;cases X<;>first | exact h.elim | skip
    rename_i f first cap
    cases f<;>first | exact h.elim | skip
    cases first<;>first | exact h.elim | skip
    obtain ⟨hc,r0,h1,h2,h3⟩:=h;exact ⟨hc,r0,Tu h1,h2,by trivial⟩
  case sA y=>
    simp only [DI,AF,AD] at h |-;obtain ⟨z,h1,h2⟩:=YO _ (gP (o:=o) h);exact h2 _ ⟨h1.1,by trivial⟩
  case load n ag y=>
    simp only [DI,AF,AD] at h |-;obtain ⟨z,h1,h2⟩:=Ka _ (Yo (o:=o) h);exact h2 _ ⟨h1.1,by trivial⟩
  case LL q ok z m k=>
    simp only [DI,AF,AD] at h |-;generalize rd F m=X at*;refine ⟨h.1,?_⟩;have h:=h.2;cases X<;>first | exact h.elim | skip
    · obtain ⟨es,hl,h1,h2,_⟩:=C7.1 h
      refine C7.2 ⟨es,?_,h1,h2,by trivial⟩;rw [List.getElem?_append_left (List.getElem?_eq_some_iff.1 hl).1];exact hl
    · exact ⟨h.1,by trivial⟩
  case again t n ag y=>
    simp only [DI,AF,AD] at h |-;obtain ⟨z,h1,h2⟩:=Ka _ (Yo (o:=o) h);exact h2 _ ⟨h1.1,h1.2.1,by trivial⟩
  case slice3 k y a b=>
    simp only [DI,AF,AD] at h |-;obtain ⟨n,h1,h2⟩:=My _ h;generalize rd F y=X at*;cases X<;>simp only at h1 h2 |- <;>first | exact h1.2.elim | skip
    · exact h2 _ ⟨h1.1,h1.2.1,h1.2.2.1,by trivial⟩
    · refine h2 _ ⟨h1.1,h1.2.1,OO ?_⟩
      obtain ⟨k',cs,hl,e,hk⟩:=AP.1 h1.2.2;exact AP.2 ⟨k',cs,hl,e,hk.1,by trivial⟩
  case slice k y lo hi=>
    cases k with
    | zero=>exact (hf rfl).elim
    | succ k=>
      simp only [DI,AF,AD] at h |-;generalize rd F y=X at*;cases X<;>first | exact h.elim | skip
      all_goals
        simp only at h |-;obtain ⟨hh,h1,h2⟩:=iE _ h;obtain ⟨j,h3,h4⟩:=iG _ h1
      · exact h2 _ (h4 _ ⟨h3.1,h3.2.1,h3.2.2.1,by trivial⟩)
      · refine h2 _ (h4 _ ⟨h3.1,h3.2.1,OO ?_⟩)
        obtain ⟨k',cs,hl,e,hk⟩:=AP.1 h3.2.2;exact AP.2 ⟨k',cs,hl,e,hk.1,by trivial⟩
      · exact h2 _ (h4 _ ⟨h3.1,h3.2.1,h3.2.2.1,h3.2.2.2.1,by trivial⟩)
  case DT k ar y i=>
    simp only [DI,AF,AD] at h |-;generalize rd F y=X at*;obtain ⟨j,h1,h2⟩:=My _ h;cases X<;>cases ar<;>simp only at h1 h2 |- <;>first | exact h1.elim | skip
    · exact h2 _ ⟨h1.1,h1.2.1,by trivial⟩
    · exact h2 _ ⟨h1.1,h1.2.1,by trivial⟩
    · obtain ⟨g1,g2⟩:=h1
      obtain ⟨k',cs,hl,e,hk⟩:=AP.1 g2;exact h2 _ ⟨g1,OO (AP.2 ⟨k',cs,hl,e,hk.1,by trivial⟩)⟩
    · obtain ⟨g1,xs,g2,g3⟩:=h1
      exact h2 _ ⟨g1,xs,g2,g3.1,by trivial⟩
theorem rR {q:Bool} {g:C9} {F:Frame} {S:AB} {o:Ob} {x:AA} (hq:g.op.quiet=true) (hc:q=true\/g.op.Dd=false) (h:Kz P q g F S (fun y T=>y=x/\T=S)):Kz P q g F (S++[o]) (fun y T=>y=x/\T=S++[o]):=by
  have hop:Mj P q F S (fun y T=>Ao g.H5 y fun y=>y=x/\T=S) g.op->Mj P q F (S++[o]) (fun y T=>Ao g.H5 y fun y=>y=x/\T=S++[o]) g.op:=fun h=>by
    obtain ⟨y,h1,h2⟩:=TF hq hc h;have h3:=h2 F (fun z T=>z=y/\T=S) (fun _ _=>rfl) ⟨rfl,rfl⟩;have h4:DI P F S (fun z T=>z=y/\T=S) g.op:=by
      cases q
      · rw [Mk (hc.resolve_left (by simp))];exact h3
      · exact h3
    have h5:=jQ (o:=o) hq h4;have h6:Mj P q F (S++[o]) (fun z T=>z=y/\T=S++[o]) g.op:=by
      cases q
      · exact fe h5
      · exact h5
    refine Kw h6 ?_;rintro z T ⟨rfl,rfl⟩;exact Gp h1 fun z hz=>⟨hz.1,rfl⟩
  unfold Kz at h |-;split
  · rename_i hg;rw [hg] at h;exact hop h
  · rename_i s want hg
    rw [hg] at h;simp only at h;generalize F.get s=c at*;cases c<;>cases want<;>simp only at h |- <;>first | exact h.elim | exact ⟨h.1,by trivial⟩ | exact hop h
theorem vJ {F:Frame} {S:AB} {K:AA->AB->Prop} {so:EL} (hn:so.Yi=true) (h:AF P F S K so):AF P F S (fun y T=>K y T/\ ∃o,T=S++[o]) so:=by
  cases so<;>simp only [EL.Yi] at hn<;>first | (cases hn;done) | skip
  case DE k=>simp only [AF,A5] at h |-;exact fun v=>⟨h v,_,rfl⟩
  case NR=>simp only [AF,A5] at h |-;exact fun v=>⟨h v,_,rfl⟩
  case Ll x=>
    simp only [AF,AD] at h |-;generalize rd F x=X at*;cases X<;>first | exact h.elim | skip
    obtain ⟨es,h1,h2⟩:=C7.1 h;simp only [A5] at h2;refine C7.2 ⟨es,h1,?_⟩;simp only [A5];exact fun v=>⟨h2 v,_,rfl⟩
  case alloc k z=>simp only [AF,A5] at h |-;exact fun v=>⟨h v,_,rfl⟩
  case box k x=>
    simp only [AF,A5,AD] at h |-;exact Oi h fun c h v=>⟨h v,_,rfl⟩
  case Ax ro len k z ps=>
    cases ro
    · simp only [AF,A5] at h |-
      exact XG h fun c h v=>⟨h v,_,rfl⟩
    · cases hn
  case rn x=>
    simp only [AF,A5,AD] at h |-;generalize rd F x=X at*;cases X<;>first | exact h.elim | exact fun v=>⟨h v,_,rfl⟩
  case Hq k b z x y=>
    simp only [AF,A5,AD] at h |-;obtain ⟨kk,j,e,h1,h2,h3⟩:=Ep h;rw [e] at h1 |-;exact ⟨j,rfl,h1,h2,fun v=>⟨h3 v,_,rfl⟩⟩
theorem du {so:EL} (hn:so.Yi=true):so.Dd=false:=by
  cases so<;>simp only [EL.Yi] at hn<;>first | rfl | cases hn
theorem uF {q:Bool} {g:C9} {F:Frame} {S:AB} {K:AA->AB->Prop} (hn:g.op.Yi=true) (h:Kz P q g F S K):Kz P q g F S (fun y T=>K y T/\(T=S\/ ∃o,T=S++[o])):=by
  have hop:Mj P q F S (fun y T=>Ao g.H5 y fun y=>K y T) g.op->Mj P q F S (fun y T=>Ao g.H5 y fun y=>K y T/\(T=S\/ ∃o,T=S++[o])) g.op:=fun h=>by
    rw [J8 (du hn)] at h |-;exact ke (du hn) (vJ hn h) fun z T hz=>Gp hz.1 fun z h=>⟨h,.inr hz.2⟩
  unfold Kz at h |-;split
  · rename_i hg;rw [hg] at h;exact hop h
  · rename_i s want hg
    rw [hg] at h;simp only at h;generalize F.get s=c at*;cases c<;>cases want<;>simp only at h |- <;>first | exact h.elim | exact ⟨h,.inl rfl⟩ | exact ⟨h,by simp⟩ | (simpa using h) | exact hop h
theorem put_comm {F:Frame} {a b:C9} {x y:AA} (hz:J4 a b=false) (t:Nat):(AK (AK F a.dst x) b.dst y).get t=(AK (AK F b.dst y) a.dst x).get t:=by
  simp only [Hb];by_cases h1:b.dst=some t
  · rw [if_pos h1]
    rw [if_neg]
    · rw [if_pos h1]
    · intro h2
      simp [J4,h2,C9.names,h1] at hz
  · rw [if_neg h1,if_neg h1]
theorem HV {F:Frame} {a b:C9} {x:AA} (hz:J4 a b=false): ∀t∈b.reads,(AK F a.dst x).get t=F.get t:=fun t ht=>by
  rw [Hb,if_neg];intro h;have hm:t∈b.names:=by
    simp only [C9.reads,List.mem_append] at ht;simp only [C9.names,List.mem_append];rcases ht with h | h
    · exact .inl (.inr h)
    · exact .inr h
  simp [J4,h,hm] at hz
theorem RQ {a b:C9} (hz:J4 a b=false):J4 b a=false:=by
  simp only [J4,Bool.or_eq_false_iff] at hz |-;exact ⟨hz.2,hz.1⟩
theorem Wz {F:Frame} {so:EL} {d:Nat} (h:so.jU=some d) (hcl:so.pf=false): ∃(C:Prop) (O:Nat->Ob) (V:Nat->Nat->AA),∀(S:AB) (K:AA->AB->Prop),
    AF P F S K so↔(C/\0<d/\d<=S.length/\S[S.length-d]?=some .dead/\ ∀v,K (V (S.length-d) v) (S.set (S.length-d) (O v))):=by
  cases so<;>simp only [EL.jU,reduceCtorEq] at h
  case NS d k b z x y=>
    cases h;by_cases hx: ∃(kk:IntKind) (j:Nat),rd F x= .int kk (j:Int)
    · obtain ⟨kk,j,e⟩:=hx
      refine ⟨rd F y=rd F x/\b*j<=140737488355328,fun v=>.row v k (List.replicate j z).flatten,fun l v=>.sl l v 0 j,fun S K=>?_⟩;simp only [AF,AD,e,Lu];constructor
      · rintro ⟨j',e',h1,h2,h3,h4,h5,h6⟩
        have:j'=j:=by omega
        subst this;exact ⟨⟨h1,h2⟩,h3,h4,h5,h6⟩
      · rintro ⟨⟨h1,h2⟩,h3,h4,h5,h6⟩
        exact ⟨j,rfl,h1,h2,h3,h4,h5,h6⟩
    · refine ⟨False,fun _=>.dead,fun _ _=>.C3,fun S K=>⟨fun h=>?_,fun h=>h.1.elim⟩⟩
      simp only [AF,AD] at h;obtain ⟨kk,j,e,_⟩:=Ep h;exact absurd ⟨kk,j,e⟩ hx
  case NN d k z=>
    cases h;exact ⟨True,fun v=>.row v k z,fun l v=>.ptr l v 0,fun S K=>by simp only [AF,true_and]⟩
  case J5 d=>
    cases h;exact ⟨True,fun v=>.DA v [],fun l v=>.map l v,fun S K=>by simp only [AF,true_and]⟩
  case Lf d k f xs zs=>
    cases h;exact ⟨_,fun v=>.row v k (zs.map (rd F)),fun l v=>.ptr l v 0,fun S K=>by simp only [AF,Ar];exact Iff.rfl⟩
  case Nv d k f xs=>cases hcl
theorem nb {F:Frame} {so:EL} {d:Nat} (h:so.jU=some d): ∃(ι:Type) (C:ι->AB->Prop) (O:ι->Nat->Ob) (V:ι->Nat->Nat->AA),(∀(i:ι) (S:AB) (j:Nat) (o:Ob),S[j]?=some .dead->C i S->C i (S.set j o))/\ ∀(S:AB) (K:AA->AB->Prop),
    AF P F S K so↔ ∃i,C i S/\0<d/\d<=S.length/\S[S.length-d]?=some .dead/\ ∀v,K (V i (S.length-d) v) (S.set (S.length-d) (O i v)):=by
  cases hc:so.pf with
  | false=>
    obtain ⟨C,O,V,f⟩:=Wz (P:=P) (F:=F) h hc;exact ⟨Unit,fun _ _=>C,fun _=>O,fun _=>V,fun _ _ _ _ _ h=>h,fun S K=>(f S K).trans ⟨fun h=>⟨(),h⟩,fun ⟨_,h⟩=>h⟩⟩
  | true=>
    cases so<;>simp only [EL.pf] at hc<;>first | (cases hc;done) | skip
    rename_i d' k f xs;cases h;refine ⟨Nat×List AA,fun i S=>AV P f (xs.map (rd F)) S (fun r S'=> ∃v,r= .sl S.length v 0 i.1/\S'=S++[.row v k i.2]),fun i v=>.row v k i.2,fun i l v=>.sl l v 0 i.1,fun i S j o hd hC=>?_,fun S K=>?_⟩
    · have hj:=(List.getElem?_eq_some_iff.1 hd).1
      refine DM (gB hd ?_ hC) ?_
      · rintro r S' ⟨v,_,rfl⟩
        rw [List.getElem?_append_left hj];exact hd
      · rintro r T ⟨S',⟨v,rfl,rfl⟩,rfl⟩
        exact ⟨v,by rw [List.length_set],List.set_append_left _ _ hj⟩
    · simp only [AF,Ar]
      exact ⟨fun ⟨n,cs,h⟩=>⟨(n,cs),h⟩,fun ⟨i,h⟩=>⟨i.1,i.2,h⟩⟩
theorem MR {q:Bool} {g:C9} {F:Frame} {S:AB} {K:AA->AB->Prop} {d:Nat} (h1:g.guard=none) (h2:g.H5=false) (h3:g.op.jU=some d):Kz P q g F S K↔AF P F S K g.op:=by
  have hc:g.op.Dd=false:=by cases hg:g.op<;>rw [hg] at h3<;>first | rfl | cases h3
  unfold Kz;rw [h1,h2];simp only [Ao];rw [J8 hc]
theorem swap {qa qb:Bool} {a b:C9} {F:Frame} {S:AB} {R:Frame->AB->Prop} (hok:aU qa qb a b=true) (hR: ∀F F' S,(∀t,F.get t=F'.get t)->R F S->R F' S)
    (h:Kz P qa a F S fun x S1=>Kz P qb b (AK F a.dst x) S1 fun y S2=>R (AK (AK F a.dst x) b.dst y) S2):
    Kz P qb b F S fun y S1=>Kz P qa a (AK F b.dst y) S1 fun x S2=>R (AK (AK F b.dst y) a.dst x) S2:=by
  simp only [aU,Bool.and_eq_true,Bool.or_eq_true,Bool.not_eq_true'] at hok;obtain ⟨hz,hok⟩:=hok;rcases hok with ((hf | ⟨⟨ha,hca⟩,hn | ⟨hb,hcb⟩⟩) | hok) | hok
  · obtain ⟨x,h1,h2⟩:=rQ hf h
    have h3:=Mh (F':=F) (HV hz) h1;exact EP h3 fun y S2 hy=>h2 _ S2 _ (fun t ht=>(HV (RQ hz) t ht).symm) (hR _ _ _ (put_comm hz) hy)
  · obtain ⟨x,h1,h2⟩:=Mi ha hca h
    have h3:=uF hn (Mh (F':=F) (HV hz) h1);refine EP h3 fun y S2 hy=>?_;obtain ⟨hy,hS⟩:=hy;have h4:=h2 (AK F b.dst y) (fun z T=>z=x/\T=S) (fun t ht=>(HV (RQ hz) t ht).symm) ⟨rfl,rfl⟩;have h5:Kz P qa a (AK F b.dst y) S2 (fun z T=>z=x/\T=S2):=by
      rcases hS with rfl | ⟨o,rfl⟩
      · exact h4
      · exact rR ha hca h4
    refine EP h5 ?_;rintro z T ⟨rfl,rfl⟩;exact hR _ _ _ (put_comm hz) hy
  · obtain ⟨x,h1,h2⟩:=Mi ha hca h
    have h3:=Mh (F':=F) (HV hz) h1;obtain ⟨y,h4,h5⟩:=Mi hb hcb h3;exact h5 F _ (fun _ _=>rfl) (h2 _ _ (fun t ht=>(HV (RQ hz) t ht).symm) (hR _ _ _ (put_comm hz) h4))
  · split at hok
    · rename_i d d' ha hb
      simp only [Bool.and_eq_true,bne_iff_ne,ne_eq,Option.isNone_iff_eq_none,Bool.not_eq_true'] at hok;obtain ⟨⟨⟨⟨⟨hd,ga⟩,gb⟩,ia⟩,ib⟩,icl⟩:=hok;have slo: ∀ {g h:C9} {F:Frame} {v:AA},J4 g h=false-> ∀t∈h.op.Ap,(AK F g.dst v).get t=F.get t:=fun hz t ht=>HV hz t (by simp [C9.reads,ht]);obtain ⟨ι,Ca,Oa,Va,sa,fa⟩:=nb (P:=P) (F:=F) ha;obtain ⟨Cb,Ob_,Vb,fb⟩:=Wz (P:=P) (F:=F) hb icl;rw [MR ga ia ha,fa] at h;obtain ⟨ai,c1,c2,c3,c4,h6⟩:=h;have hb':=fun v=>OD (F':=F) (slo hz) ((MR gb ib hb).1 (h6 v));obtain ⟨g1,g2,g3,g4,_⟩:=(fb _ _).1 (hb' 0);have hne:S.length-d≠S.length-d':=by rw [List.length_set] at g3;omega
      rw [List.length_set] at g3 g4;rw [List.getElem?_set_ne hne] at g4;rw [MR gb ib hb,fb];refine ⟨g1,g2,g3,g4,fun v=>?_⟩;rw [MR ga ia ha];refine OD (F:=F) (fun t ht=>(slo (RQ hz) t ht).symm) ((fa _ _).2 ⟨ai,sa ai _ _ _ g4 c1,c2,by rw [List.length_set];exact c3,?_,fun v'=>?_⟩)
      · rw [List.length_set,List.getElem?_set_ne (Ne.symm hne)];exact c4
      · have hh:=((fb _ _).1 (hb' v')).2.2.2.2 v
        simp only [List.length_set] at hh |-;rw [List.set_comm _ _ hne] at hh;exact hR _ _ _ (put_comm hz) hh
    · cases hok
  · simp only [Bool.and_eq_true,Option.isNone_iff_eq_none,Bool.not_eq_true',Option.isSome_iff_exists] at hok
    obtain ⟨⟨⟨⟨⟨⟨hl,d,hb⟩,ga⟩,gb⟩,ia⟩,ib⟩,icl⟩:=hok;have hq:a.op.quiet=true/\a.op.Dd=false:=by cases ha:a.op<;>rw [ha] at hl<;>simp only [EL.aM] at hl<;>first | (cases hl;done) | exact ⟨rfl,rfl⟩
    have open_: ∀ {F:Frame} {S:AB} {K:AA->AB->Prop},Kz P qa a F S K↔Mj P qa F S K a.op:=fun {F S K}=>by
      unfold Kz;rw [ga,ia];simp only [Ao]
    have slo: ∀ {v:AA},∀t∈b.op.Ap,(AK F a.dst v).get t=F.get t:=fun t ht=>HV hz t (by simp [C9.reads,ht]);have sla: ∀ {v:AA},∀t∈a.op.Ap,F.get t=(AK F b.dst v).get t:=fun t ht=>(HV (RQ hz) t (by simp [C9.reads,ht])).symm;rw [open_] at h;obtain ⟨x,h1,h2⟩:=TF hq.1 (.inr hq.2) h;rw [MR gb ib hb] at h1;obtain ⟨Cb,Ob_,Vb,fb⟩:=Wz (P:=P) (F:=F) hb icl;obtain ⟨c1,c2,c3,c4,c5⟩:=(fb _ _).1 (OD (F':=F) slo h1);rw [MR gb ib hb,fb];refine ⟨c1,c2,c3,c4,fun v=>?_⟩;rw [open_];have g1:=h2 (AK F b.dst (Vb (S.length-d) v)) (fun z T=>z=x/\T=S) sla ⟨rfl,rfl⟩;rw [J8 hq.2] at g1;have g2:=Ra (o:=Ob_ v) hl c4 g1;rw [<-J8 (q:=qa) hq.2] at g2;refine Kw g2 ?_;rintro z T ⟨rfl,rfl⟩;exact hR _ _ _ (put_comm hz) (c5 v)
theorem ZR {K:Frame->AB->Prop} (hK: ∀F F' S,(∀t,F.get t=F'.get t)->K F S->K F' S): ∀(l:List (Nat×Bool×C9)) (F F':Frame) (S:AB),(∀t,F.get t=F'.get t)->SF P K l F S->SF P K l F' S
  | [],F,F',S,he,h=>hK _ _ _ he h
  | x::l,F,F',S,he,h=>by
    simp only [SF] at h |-;refine EP (Mh (fun t _=>he t) h) fun y S' hy=>?_;have hh: ∀t,(AK F x.2.2.dst y).get t=(AK F' x.2.2.dst y).get t:=fun t=>by
      rw [Hb,Hb];split
      · rfl
      · exact he t
    exact ⟨P9 (fun k _ t _=>hh t) hy.1,ZR hK l _ _ _ hh hy.2⟩
theorem fg {K K':Frame->AB->Prop} (hk: ∀F S,K F S->K' F S): ∀(l:List (Nat×Bool×C9)) {F:Frame} {S:AB},SF P K l F S->SF P K' l F S
  | [],F,S,h=>hk _ _ h
  | x::l,F,S,h=>by
    simp only [SF] at h |-;exact EP h fun y S' hy=>⟨hy.1,fg hk l hy.2⟩
theorem pull {q:Bool} {a:C9} {F:Frame} {S:AB} {Q:AA->AB->Prop} {c:List (Nat×Nat×Bool×AO)} (hq:a.op.quiet=true) (hc:q=true\/a.op.Dd=false) (hd: ∀k∈c,∀d,a.dst=some d->d ∉ k.1::k.2.2.2.Ap)
    (h:Kz P q a F S fun y S'=>Nu (AK F a.dst y) S' c/\Q y S'):Nu F S c/\Kz P q a F S Q:=by
  obtain ⟨y,h1,h2⟩:=Mi hq hc h;refine ⟨P9 (fun k hk t ht=>?_) h1.1,h2 F Q (fun _ _=>rfl) h1.2⟩;rw [Hb,if_neg fun e=>hd k hk t e ht]
theorem wu {qa qb:Bool} {a b:C9} {k:Nat×Nat×Bool×AO} {F:Frame} {S:AB} {R:Frame->AB->Prop} (ha:a.op= .load k.2.1 k.2.2.1 k.2.2.2) (hd:a.dst=some k.1) (hg:a.guard=none) (hi:a.H5=false) (hs:k.1 ∉ k.2.2.2.Ap)
    (hz:J4 a b=false) (hR: ∀F F' S,(∀t,F.get t=F'.get t)->R F S->R F' S)
    (h:Kz P qa a F S fun x S1=>Kz P qb b (AK F a.dst x) S1 fun y S2=>cJ (AK (AK F a.dst x) b.dst y) S2 k/\R (AK (AK F a.dst x) b.dst y) S2):
    Kz P qb b F S fun y S1=>Kz P qa a (AK F b.dst y) S1 fun x S2=>R (AK (AK F b.dst y) a.dst x) S2:=by
  obtain ⟨x,h1,_⟩:=Mi (by rw [ha];rfl) (.inr (by rw [ha];rfl)) h;refine EP (Mh (F':=F) (HV hz) h1) fun y S2 ⟨hk,hy⟩=>?_;have hn: ∀t∈k.1::k.2.2.2.Ap,b.dst≠some t:=fun t ht e=>by
    have:t∈a.names:=by
      simp only [C9.names,ha,hd,EL.Ap,Option.toList_some,List.mem_append,List.mem_singleton];rcases List.mem_cons.1 ht with rfl | ht
      · exact .inl (.inl rfl)
      · exact .inl (.inr ht)
    simp [J4,e,this] at hz
  have e1:(AK (AK F a.dst x) b.dst y).get k.1=x:=by
    rw [Hb,if_neg (hn k.1 (by simp)),Hb,if_pos hd]
  have e2:rd (AK (AK F a.dst x) b.dst y) k.2.2.2=rd (AK F b.dst y) k.2.2.2:=Af fun t ht=>by
    rw [Hb,if_neg (hn t (by simp [ht])),Hb,if_neg,Hb,if_neg (hn t (by simp [ht]))];rw [hd];intro e;cases e;exact hs ht
  unfold cJ at hk;rw [e1,e2] at hk;obtain ⟨z,ez,hk2⟩:=Ka _ hk;have ez:z=x:=ez;subst ez;unfold Kz;rw [hg,hi,ha];have hcl:EL.Dd (.load k.2.1 k.2.2.1 k.2.2.2)=false:=rfl;simp only [Ao];rw [J8 hcl];simp only [AF,AD];exact hk2 _ (hR _ _ _ (put_comm hz) hy)
theorem gO {K:Frame->AB->Prop} (hK: ∀F F' S,(∀t,F.get t=F'.get t)->K F S->K F' S) {x:Nat×Bool×C9} {B:List (Nat×Bool×C9)}: ∀(A:List (Nat×Bool×C9)) (c:List (Nat×Nat×Bool×AO)) {F:Frame} {S:AB},(∀a∈A,Rf a.2.1 x.2.1 a.2.2 x.2.2=true)->
    (∀k∈c,k∈x.2.2.Lg)->(∀a∈A,∀k∈c,∀d,a.2.2.dst=some d->d ∉ k.1::k.2.2.2.Ap)->(x.2.2.Lg=[]\/A.Pairwise fun a a'=>a.2.2.op.aL=true-> ∀d,a'.2.2.dst=some d->d ∉ a.2.2.names)->
    SF P K (A++x::B) F S->Kz P x.2.1 x.2.2 F S fun y S'=>Nu (AK F x.2.2.dst y) S' c/\SF P K (A++B) (AK F x.2.2.dst y) S'
  | [],c,F,S,_,hc,_,_,h=>by
    simp only [List.nil_append,SF] at h;exact EP h fun y S' hy=>⟨fun k hk=>hy.1 k (hc k hk),hy.2⟩
  | a::A,c,F,S,hA,hc,hw,hp,h=>by
    have h':SF P K (a::(A++x::B)) F S:=h;simp only [SF] at h';have hok:=hA a (by simp);simp only [Rf,Bool.and_eq_true,Bool.or_eq_true,List.isEmpty_iff,Bool.not_eq_true'] at hok;obtain ⟨hac,hok⟩:=hok;have fin: ∀ {y:AA} {S':AB},SF P K (A++B) (AK (AK F x.2.2.dst y) a.2.2.dst y) S'->True:=fun _=>trivial;have hp':x.2.2.Lg=[]\/A.Pairwise fun a a'=>a.2.2.op.aL=true-> ∀d,a'.2.2.dst=some d->d ∉ a.2.2.names:=hp.imp id fun h=>(List.pairwise_cons.1 h).2;have done: ∀ {y:AA} {S':AB},Nu (AK F x.2.2.dst y) S' c/\(Kz P a.2.1 a.2.2 (AK F x.2.2.dst y) S' fun z T=>SF P K (A++B) (AK (AK F x.2.2.dst y) a.2.2.dst z) T)->Nu (AK F x.2.2.dst y) S' c/\SF P K (a::A++B) (AK F x.2.2.dst y) S':=fun ⟨g1,g2⟩=>by
      refine ⟨g1,?_⟩;simp only [List.cons_append,SF];refine EP g2 fun z T hz=>⟨?_,hz⟩
      rw [hac];intro k hk;cases hk
    have hRc: ∀(c:List (Nat×Nat×Bool×AO)) (F F':Frame) (S:AB),(∀t,F.get t=F'.get t)->Nu F S c/\SF P K (A++B) F S->Nu F' S c/\SF P K (A++B) F' S:=fun c F F' S he hh=>⟨P9 (fun k _ t _=>he t) hh.1,ZR hK (A++B) _ _ _ he hh.2⟩
    rcases hok with ⟨hm,hq⟩ | ⟨hz,hl⟩
    · have h2:=EP h' fun y S' hy=>gO hK A c (fun b hb=>hA b (by simp [hb])) hc (fun b hb=>hw b (by simp [hb])) hp' hy.2
      have h3:=swap hm (R:=fun F S=>Nu F S c/\SF P K (A++B) F S) (hRc c) h2;refine EP h3 fun y S' hy=>done ?_;rcases hq with hq | ⟨hq,hcl⟩
      · have:c=[]:=by
          cases c with
          | nil=>rfl
          | cons k c=>have:=hc k (by simp);rw [hq] at this;cases this
        subst this;exact ⟨fun k hk=>(by cases hk),EP hy fun z T hz=>hz.2⟩
      · exact pull hq hcl (hw a (by simp)) hy
    · unfold eG at hl
      split at hl
      case h_2=>cases hl
      rename_i n ag r t hop hdst;simp only [Bool.and_eq_true,Option.isNone_iff_eq_none,Bool.not_eq_true',bne_iff_ne,ne_eq,List.any_eq_true,beq_iff_eq] at hl;obtain ⟨⟨⟨hg,hi⟩,htr⟩,⟨k1,k2,k3,k4⟩,hk,⟨⟨e1,e2⟩,e3⟩,e4⟩:=hl;subst e1;subst e2;subst e3;split at e4
      case h_2=>cases e4
      rename_i s hs4;simp only [beq_iff_eq] at e4;subst e4;subst hs4;have hne:x.2.2.Lg≠[]:=fun e=>by rw [e] at hk;cases hk
      have hpa:=hp.resolve_left hne;have hnames: ∀t∈k1::AO.Ap (.t s),t∈a.2.2.names:=fun t ht=>by
        simp only [C9.names,hop,hdst,EL.Ap,Option.toList_some,List.mem_append,List.mem_singleton];rcases List.mem_cons.1 ht with rfl | ht
        · exact .inl (.inl rfl)
        · exact .inl (.inr ht)
      have h2:=EP h' fun y S' hy=>gO hK A ((k1,k2,k3,.t s)::c) (fun b hb=>hA b (by simp [hb])) (fun k hk'=>by
          rcases List.mem_cons.1 hk' with rfl | hk'
          · exact hk
          · exact hc k hk') (fun b hb k hk' d hd=>by
          rcases List.mem_cons.1 hk' with rfl | hk'
          · exact fun hm=>(List.pairwise_cons.1 hpa).1 b hb (by rw [hop];rfl) d hd (hnames d hm)
          · exact hw b (by simp [hb]) k hk' d hd) hp' hy.2
      have h3:=EP h2 fun y S' hy=>EP hy fun z T hz=>show cJ (AK (AK F a.2.2.dst y) x.2.2.dst z) T (k1,k2,k3,.t s)/\(Nu (AK (AK F a.2.2.dst y) x.2.2.dst z) T c/\SF P K (A++B) (AK (AK F a.2.2.dst y) x.2.2.dst z) T) from
        ⟨hz.1 _ (by simp),fun k hk=>hz.1 k (by simp [hk]),hz.2⟩
      have h4:=wu (k:=(k1,k2,k3,.t s)) (R:=fun F S=>Nu F S c/\SF P K (A++B) F S) hop hdst hg hi (by simpa [AO.Ap] using htr) hz (hRc c) h3;refine EP h4 fun y S' hy=>done ?_;exact pull (by rw [hop];rfl) (.inr (by rw [hop];rfl)) (hw a (by simp)) hy
theorem rT: ∀(π:List Nat) {gl:List C9} {K:Frame->AB->Prop} {m:Nat} {F:Frame} {S:AB},Pp ((HE π gl).take m)=true->Aj P K m (D2 (HE π gl)) F S->SF P K (MH gl m π) F S
  | [],gl,K,m,F,S,_,h=>by
    cases m<;>simpa [HE,D2,MH,SF,Aj,BK] using h
  | i::π,gl,K,m,F,S,hn,h=>by
    have e:HE (i::π) gl=gl.getD i default::HE π gl:=rfl;rw [e] at h hn;have hn':Pp ((HE π gl).take (m-1))=true:=by
      cases m with
      | zero=>simp [Pp]
      | succ m=>
        simp only [List.take_succ_cons,Pp,List.all_cons,Bool.and_eq_true] at hn;exact hn.2
    have rec0: ∀ {F:Frame} {S:AB},Aj P K (m-1) (D2 (HE π gl)) F S->SF P K (MH gl (m-1) π) F S:=fun h=>rT π hn' h;simp only [MH,SF];simp only [D2] at h;generalize gl.getD i default=o at*;have hm0:m≠0->o.Lg=[]:=fun h0=>by
      cases m with
      | zero=>exact (h0 rfl).elim
      | succ m=>
        simp only [List.take_succ_cons,Pp,List.all_cons,Bool.and_eq_true,List.isEmpty_iff] at hn;exact hn.1
    have rec_: ∀ {F:Frame} {S:AB},Aj P K (m-1) (o.Lg.map Nr++D2 (HE π gl)) F S->Nu F S o.Lg/\SF P K (MH gl (m-1) π) F S:=fun h=>by
      by_cases h0:m=0
      · subst h0
        obtain ⟨h1,h2⟩:=cK _ h;exact ⟨h1,rec0 h2⟩
      · rw [hm0 h0] at h |-
        exact ⟨fun k hk=>(by cases hk),rec0 h⟩
    unfold Kz;cases m with
    | zero=>
      simp only [Aj,BK] at h;simp only [Aj,Nat.zero_sub] at rec_;have hop:AF P F S (fun x S'=>Ao o.H5 x fun x=>BK P K (o.Lg.map Nr++D2 (HE π gl)) (AK F o.dst x) S') o.op->Mj P (decide (0<0)) F S (fun x S'=>Ao o.H5 x fun x=>Nu (AK F o.dst x) S' o.Lg/\SF P K (MH gl (0-1) π) (AK F o.dst x) S') o.op:=fun h=>
        Kw (q:=false) (show Mj P false F S (fun x S'=>Ao o.H5 x fun x=>BK P K (o.Lg.map Nr++D2 (HE π gl)) (AK F o.dst x) S') o.op from h) fun x S' h=>Gp h fun x h=>rec_ h
      cases hg:o.guard with
      | none=>rw [hg] at h;exact hop h
      | some sw=>
        obtain ⟨g,want⟩:=sw;rw [hg] at h;simp only [Bj] at h |-;generalize F.get g=c at*;cases c<;>cases want<;>simp only at h |- <;>first | exact h.elim | exact hop h | exact rec_ h
    | succ m=>
      simp only [Aj] at h;simp only [Nat.add_sub_cancel] at rec_;have hop:DI P F S (fun x S'=>Ao o.H5 x fun x=>Aj P K m (o.Lg.map Nr++D2 (HE π gl)) (AK F o.dst x) S') o.op->Mj P (decide (0<m+1)) F S (fun x S'=>Ao o.H5 x fun x=>Nu (AK F o.dst x) S' o.Lg/\SF P K (MH gl (m+1-1) π) (AK F o.dst x) S') o.op:=fun h=>by
        rw [show decide (0<m+1)=true from by simp];exact Kw (q:=true) (show Mj P true F S (fun x S'=>Ao o.H5 x fun x=>Aj P K m (o.Lg.map Nr++D2 (HE π gl)) (AK F o.dst x) S') o.op from h) fun x S' h=>Gp h fun x h=>rec_ h
      cases hg:o.guard with
      | none=>rw [hg] at h;exact hop h
      | some sw=>
        obtain ⟨g,want⟩:=sw;rw [hg] at h;simp only [Bj] at h |-;generalize F.get g=c at*;cases c<;>cases want<;>simp only at h |- <;>first | exact h.elim | exact hop h | exact rec_ h
theorem lS {rr:Option Nat} {ops:Array Oper} {hint gl:List C9} {W:List Nat} {Q:Exit->Act->World->Prop} {K:Frame->AB->Prop} {E0:Env} {rb:Nat->Prop} {S0:AB} {w0:World} {a0:Act}
    (hc:Qv P N ops ops.toList hint=some gl) (hedge: ∀(j:Nat) o,ops[j]?=some o-> ∀e∈o.after,Region.binds .any e=true->e.on<j) (hW: ∀g∈gl,∀t,g.dst=some t->t∈W)
    (hK: ∀F F' S,(∀t,F.get t=F'.get t)->K F S->K F' S) (hQ: ∀a' w',IX N E0 rb S0 w0 a0 W K a' w'->Q .normal a' w'):
    ∀(fuel:Nat) (R:List (Nat×Bool×C9)) (D:Array Bool) (a:Act) (w:World) (E:Env) (fz:Nat->Prop) (S:AB) (F:Frame),D.size=ops.size->VX ops D->(∀j,j<ops.size->(D.getD j false=false↔ ∃x∈R,x.1=j))->
      R.Pairwise (fun x y=>Wb ops (Pp gl) x y=true)->(∀x∈R,x.2.2=gl.getD x.1 default/\x.1<ops.size)->(R.map (·.1)).Nodup->R.length<=fuel->SF P K R F S->
      Ext E0 rb S0 w0 E fz S w->St E fz S w->CH E fz w F a.tmps->a.tmps.size=N->a.defers=a0.defers->(∀t,t ∉ W->a.tmps[t]?=a0.tmps[t]?)->wpAnyIn (wf rr) 0 P .any ops Q fuel D a w:=by
  obtain ⟨hlen,hget⟩:=Ve hc;intro fuel
  induction fuel with
  | zero=>
    intro R D a w E fz S F hsz hcl hD hp hx hnd hf h hx0 st hF hN hd hu;have hR:R=[]:=List.length_eq_zero_iff.1 (by omega);subst hR;refine ⟨List.eq_nil_iff_forall_not_mem.2 fun i hi=>?_,hQ a w ⟨F,S,E,fz,h,hx0,st,hF,hN,hd,hu⟩⟩;obtain ⟨h0,o,ho,_⟩:=mem_ready.1 hi;have hlt:=(Array.getElem?_eq_some_iff.1 ho).1;rw [Sf (by omega)] at h0;obtain ⟨x,hx,_⟩:=(hD i hlt).1 h0;cases hx
  | succ fuel ih=>
    intro R D a w E fz S F hsz hcl hD hp hx hnd hf h hx0 st hF hN hd hu;refine ⟨fun hr=>?_,fun i hi=>?_⟩
    · have hall:=nE hedge hsz hr
      have hR:R=[]:=List.eq_nil_iff_forall_not_mem.2 fun x hx'=>by
        have h1:=(hx x hx').2;have h2:=(hD x.1 h1).2 ⟨x,hx',rfl⟩;rw [hall _ h1] at h2;cases h2
      subst hR;exact hQ a w ⟨F,S,E,fz,h,hx0,st,hF,hN,hd,hu⟩
    · obtain ⟨h0,o,ho,ha⟩:=mem_ready.1 hi
      have hlt:=(Array.getElem?_eq_some_iff.1 ho).1;rw [Sf (by omega)] at h0;obtain ⟨x,hxm,hxi⟩:=(hD i hlt).1 h0;obtain ⟨A,B,rfl⟩:=List.append_of_mem hxm;rw [List.pairwise_append] at hp;obtain ⟨hpA,hpB,hpAB⟩:=hp;have hpass: ∀b∈A,Rf b.2.1 x.2.1 b.2.2 x.2.2=true:=fun b hb=>by
        have h1:=hpAB b hb x (by simp);simp only [Wb,Bool.and_eq_true] at h1;have h1:=h1.1;simp only [Bool.or_eq_true] at h1;rcases h1 with h1 | h1
        · rw [hxi] at h1
          have h2:=jR hcl hi h1;have h3:=(hD b.1 (hx b (by simp [hb])).2).2 ⟨b,by simp [hb],rfl⟩;rw [h2] at h3;cases h3
        · exact h1
      have hch:x.2.2.Lg=[]\/A.Pairwise fun a a'=>a.2.2.op.aL=true-> ∀d,a'.2.2.dst=some d->d ∉ a.2.2.names:=by
        by_cases hnc:Pp gl=true
        · refine .inl ?_
          obtain ⟨x1,x2⟩:=hx x (by simp);have hxl:x.1<gl.length:=by rw [<-hlen];simpa using x2
          simp only [Pp,List.all_eq_true,List.isEmpty_iff] at hnc;refine hnc _ ?_;rw [x1,List.getD_eq_getElem?_getD,List.getElem?_eq_getElem hxl];simp
        · refine .inr (hpA.imp fun {a a'} hq hld d hd=>?_)
          simp only [Wb,Bool.and_eq_true,Bool.or_eq_true,hnc,false_or,Bool.false_eq_true,Bool.not_eq_true',hld,Bool.true_eq_false] at hq;have:=hq.2;simp only [uV,hd,List.contains_eq_mem,decide_eq_false_iff_not] at this;exact this
      have hb:=EP (gO hK A [] hpass (fun k hk=>(by cases hk)) (fun a _ k hk=>(by cases hk)) hch h) fun y S' hy=>hy.2;obtain ⟨g,ro,hg,hcop,hgd,hdst,hdo⟩:=hget i o (by simpa using ho);have hxg:x.2.2=g:=by rw [(hx x (by simp)).1,hxi,List.getD_eq_getElem?_getD,hg];rfl
      rw [hxg] at hb;refine tg ho hcop hgd st hF hb fun y S' E' fz' w' v hk' hx' hs hr=>?_;have nd: ∀b∈A++B,b.1≠i:=fun b hb e=>by
        simp only [List.map_append,List.map_cons,List.nodup_append,List.nodup_cons,List.mem_map,List.mem_cons] at hnd;rcases List.mem_append.1 hb with hb | hb
        · exact hnd.2.2 b.1 ⟨b,hb,rfl⟩ x.1 (.inl rfl) (by rw [e,hxi])
        · exact hnd.2.1.1 ⟨b,hb,by rw [e,hxi]⟩
      refine ih (A++B) _ _ w' E' fz' S' (AK F g.dst y) (by simpa using hsz) (gv hcl hsz hi) (fun j hj=>?_) ?_ (fun z hz=>hx z ?_) ?_ ?_ hk' (hx0.trans hx') hs (by rw [hdst];exact Ww (CH.mono st hx' hF) hr (by rw [hN];exact hdo)) (by rw [ee];exact hN) (by rw [put_defers];exact hd) fun t ht=>?_
      · rw [dG (by omega)]
        by_cases e:j=i
        · rw [if_pos e]
          refine ⟨fun h=>(by cases h),fun ⟨b,hb,e'⟩=>(nd b hb (by rw [e',e])).elim⟩
        · rw [if_neg e,hD j hj]
          constructor
          · rintro ⟨b,hb,e'⟩
            refine ⟨b,?_,e'⟩;rcases List.mem_append.1 hb with hb | hb
            · exact List.mem_append.2 (.inl hb)
            · rcases List.mem_cons.1 hb with rfl | hb
              · exact (e (by rw [<-e',hxi])).elim
              · exact List.mem_append.2 (.inr hb)
          · rintro ⟨b,hb,e'⟩
            refine ⟨b,?_,e'⟩;rcases List.mem_append.1 hb with hb | hb
            · exact List.mem_append.2 (.inl hb)
            · exact List.mem_append.2 (.inr (List.mem_cons_of_mem _ hb))
      · exact List.pairwise_append.2 ⟨hpA,(List.pairwise_cons.1 hpB).2,fun b hb c hc=>hpAB b hb c (List.mem_cons_of_mem _ hc)⟩
      · rcases List.mem_append.1 hz with hb | hb
        · exact List.mem_append.2 (.inl hb)
        · exact List.mem_append.2 (.inr (List.mem_cons_of_mem _ hb))
      · simp only [List.map_append,List.map_cons,List.nodup_append,List.nodup_cons] at hnd |-
        exact ⟨hnd.1,hnd.2.1.2,fun b hb c hc=>hnd.2.2 b hb c (List.mem_cons_of_mem _ hc)⟩
      · simp only [List.length_append,List.length_cons] at hf |-;omega
      · rw [Y8,hu t ht]
        intro e;exact ht (hW g (List.mem_of_getElem? hg) t (by rw [hdst,e]))
theorem Qq {ops:Array Oper} {nc:Bool}: ∀ {l:List (Nat×Bool×C9)},Qp ops nc l=true->l.Pairwise (fun x y=>Wb ops nc x y=true)
  | [],_=>.nil
  | x::l,h=>by
    simp only [Qp,Bool.and_eq_true,List.all_eq_true] at h;exact .cons h.1 (Qq h.2)
theorem dz {gl:List C9}: ∀(π:List Nat) (m:Nat),(MH gl m π).map (·.1)=π
  | [],_=>rfl
  | i::π,m=>by simp [MH,dz π]
theorem d_ {gl:List C9}: ∀ {π:List Nat} {m:Nat} {x:Nat×Bool×C9},x∈MH gl m π->x.2.2=gl.getD x.1 default/\x.1∈π
  | [],_,_,h=>by simp [MH] at h
  | i::π,m,x,h=>by
    simp only [MH] at h;rcases List.mem_cons.1 h with rfl | h
    · exact ⟨rfl,by simp⟩
    · have:=d_ h;exact ⟨this.1,by simp [this.2]⟩
theorem dy: ∀ {l:List Nat},ae l=true->l.Nodup
  | [],_=>.nil
  | a::l,h=>by
    simp only [ae,Bool.and_eq_true,Bool.not_eq_true',List.contains_eq_mem,decide_eq_false_iff_not] at h;exact List.nodup_cons.2 ⟨h.1,dy h.2⟩
theorem Vz {g:C9}: ∀ {l:List C9},g∈l->g∈D2 l
  | [],h=>by cases h
  | o::l,h=>by
    rcases List.mem_cons.1 h with rfl | h
    · simp [D2]
    · simp only [D2]
      exact List.mem_cons_of_mem _ (List.mem_append.2 (.inr (Vz h)))
theorem cX {rr:Option Nat} {id:Nat} {ops:Array Oper} {hint gl:List C9} {m:Nat} {π:List Nat} (hc:Qv P N ops ops.toList hint=some gl) (hok:Zr ops m π gl=true) (hf:P.follows .mixedOrders=true)
    {K:Frame->AB->Prop} {E:Env} {fz:Nat->Prop} {S:AB} {w:World} {F:Frame} {a:Act} (st:St E fz S w) (hF:CH E fz w F a.tmps) (hN:a.tmps.size=N) (h:Aj P K m (D2 (HE π gl)) F S):
    (Code.region id ops true).wpIn (wf rr) 0 P (fun e a' w'=>e= .normal/\IX N E fz S w a (Ie (D2 (HE π gl))) K a' w') a w:=by
  obtain ⟨hlen,hget⟩:=Ve hc;simp only [Zr,Bool.and_eq_true,List.all_eq_true,List.mem_range,decide_eq_true_eq,List.contains_eq_mem] at hok;obtain ⟨⟨⟨⟨⟨k1,k2⟩,k3⟩,k4⟩,k5⟩,k6⟩:=hok;obtain ⟨st',hx'⟩:=st.same (w':={w with drawn:=w.drawn+1}) rfl rfl rfl (Tp.of rfl (Nat.le_succ _));have hrep: ∀j,(Array.replicate ops.size false).getD j false=false:=fun j=>by
    rw [Array.getD_eq_getD_getElem?];cases hj:(Array.replicate ops.size false)[j]? with
    | none=>rfl
    | some b=>simp [Array.getElem?_replicate] at hj;simp [hj.2]
  have hm:=dz (gl:=gl) π m;have hnd:=dy k1;have hlen2:(MH gl m π).length<=ops.size:=by
    have h1:(MH gl m π).length=π.length:=by have:=congrArg List.length hm;simpa only [List.length_map] using this
    rw [h1];have h2:π.length<=(List.range ops.size).length:=by
      refine hnd.length_le_of_subset fun i hi=>List.mem_range.2 (k2 i hi)
    simpa using h2
  have hWr: ∀g∈gl,∀t,g.dst=some t->t∈Ie (D2 (HE π gl)):=fun g hg t ht=>by
    obtain ⟨i,hi,e⟩:=List.getElem_of_mem hg;have hin:i<ops.size:=by have:ops.toList.length=gl.length:=hlen;simp at this;omega
    refine T9 (g:=g) (Vz ?_) ht;simp only [HE,List.mem_map];exact ⟨i,k3 i hin,by rw [List.getD_eq_getElem?_getD,List.getElem?_eq_getElem hi,e];rfl⟩
  have hv:=fg (K':=fun F' S'=> ∃F0,(∀t,F0.get t=F'.get t)/\K F0 S') (fun F' S' h=>⟨F',fun _=>rfl,h⟩) _ (rT π k6 h);have g1: ∀(j:Nat) o,ops[j]?=some o-> ∀e∈o.after,Region.binds .any e=true->e.on<j:=fun j o ho e he hb=>by
    have hj:j<ops.size:=(Array.getElem?_eq_some_iff.1 ho).1;have:=k4 j hj;rw [ho] at this;have:=(Array.all_eq_true_iff_forall_mem.1 this) e he;simpa [hb] using this
  have g2: ∀a' w',IX N E fz S w a (Ie (D2 (HE π gl))) (fun F' S'=> ∃F0,(∀t,F0.get t=F'.get t)/\K F0 S') a' w'->IX N E fz S w a (Ie (D2 (HE π gl))) K a' w':=fun a' w' hA=>by
    obtain ⟨F',S',E',fz',⟨F0,q0,q1⟩,q2,q3,q4,q5,q6,q7⟩:=hA;exact ⟨F0,S',E',fz',q1,q2,q3,fun t=>by rw [q0];exact q4 t,q5,q6,q7⟩
  have g3: ∀j,j<ops.size->((Array.replicate ops.size false).getD j false=false↔ ∃x∈MH gl m π,x.1=j):=fun j hj=>by
    refine ⟨fun _=>?_,fun _=>hrep j⟩;have h1:j∈(MH gl m π).map (·.1):=by rw [hm];exact k3 j hj
    obtain ⟨x,h2,h3⟩:=List.mem_map.1 h1;exact ⟨x,h2,h3⟩
  have g4: ∀x∈MH gl m π,x.2.2=gl.getD x.1 default/\x.1<ops.size:=fun x hx=>by
    obtain ⟨h1,h2⟩:=d_ hx;exact ⟨h1,k2 _ h2⟩
  exact wpIn_region_any hf (lS hc g1 hWr (fun F1 F2 S1 he ⟨F0,h1,h2⟩=>⟨F0,fun t=>(h1 t).trans (he t),h2⟩) (fun a' w' hA=>⟨rfl,g2 a' w' hA⟩) ops.size (MH gl m π) _ a _ E fz S F (by simp) (fun j o _ hj=>by rw [hrep] at hj;cases hj) g3 (Qq k5) g4 (by rw [hm];exact hnd) hlen2 hv hx' st' (CH.mono st hx' hF) hN rfl (fun _ _=>rfl))
end
end Go.Vc
end
section
namespace Go.Vc
def writes:Ag->List Nat
  | .skip=>[]
  | .ops l _ _=>Ie l
  | .seq a b=>writes a++writes b
  | .join _ _ _ a b=>writes a++writes b
  | .cond _ a b=>writes a++writes b
  | .block _ a=>writes a
  | .loop _ _ _ a=>writes a
  | .exit _=>[]
  | .ret=>[]
def apart (AW W:List Nat):Bool:=AW.all fun t=> !W.contains t
def ov:Ag:= .ops [⟨none,.bad,none,false,[]⟩] none []
def comp (P:Program) (N:Nat):Code->Ag->Option Ag
  | .skip,_=>some .skip
  | .region _ ops false,.ops l none AW=>(match Qv P N ops ops.toList l with | some gl=>some (.ops gl none AW) | none=>none)
  | .region _ ops true,.ops l (some d) AW=>(match Qv P N ops ops.toList (vk d.2.2 (qo l)) with | some gl=>if Zr ops d.1 d.2.2 gl && P.follows .mixedOrders then some (.ops (D2 (HE d.2.2 gl)) (some d) AW) else none | none=>none)
  | .seq a b,.seq x y=>(match comp P N a x,comp P N b y with | some x,some y=>some (.seq x y) | _,_=>none)
  | .seq a b,.join AW W n x y=>(match comp P N a x,comp P N b y with | some x,some y=>if apart AW (writes x) then some (.join AW W n x y) else none | _,_=>none)
  | .cond c a b,.cond _ x y=>(match Ad c,comp P N a x,comp P N b y with | some c,some x,some y=>some (.cond c x y) | _,_,_=>none)
  | .block id a,.block _ x=>(match comp P N a x with | some x=>some (.block id x) | none=>none)
  | .loop a,.loop AW W n x=>(match comp P N a x with | some x=>if apart AW (writes x) then some (.loop AW W n x) else none | none=>none)
  | .exit id,_=>some (.exit id)
  | .ret,_=>some .ret
  | .rangeFunc ..,_=>some ov
  | .scope _,_=>some ov
  | .label _,_=>some ov
  | .goto _,_=>some ov
  | .refuse _,_=>some ov
  | _,_=>none
def Qk (N:Nat) (E:Env) (fz:Nat->Prop) (S:AB) (w:World) (a:Act) (W:List Nat) (Q:Be->Frame->AB->Prop):Exit->Act->World->Prop
  | .normal,a',w'=>IX N E fz S w a W (Q .normal) a' w'
  | .exit id,a',w'=>IX N E fz S w a W (Q (.exit id)) a' w'
  | .ret,a',w'=>IX N E fz S w a W (Q .ret) a' w'
  | _,_,_=>False
section
variable {P : Program} {N : Nat}
theorem IX.mono {E:Env} {fz:Nat->Prop} {S:AB} {w:World} {a:Act} {W W':List Nat} {K K':Frame->AB->Prop} {a':Act} {w':World} (h:IX N E fz S w a W K a' w') (hW: ∀t,t∈W->t∈W') (hK: ∀F S,K F S->K' F S):IX N E fz S w a W' K' a' w':=by
  obtain ⟨F',S',E',fz',q1,q2,q3,q4,q5,q6,q7⟩:=h;exact ⟨F',S',E',fz',hK _ _ q1,q2,q3,q4,q5,q6,fun t ht=>q7 t fun h=>ht (hW t h)⟩
theorem IX.trans {E E1:Env} {fz fz1:Nat->Prop} {S S1:AB} {w w1:World} {a a1:Act} {W W1 W2:List Nat} {K:Frame->AB->Prop} {a':Act} {w':World} (hx:Ext E fz S w E1 fz1 S1 w1) (hd:a1.defers=a.defers) (ht: ∀t,t ∉ W1->a1.tmps[t]?=a.tmps[t]?)
    (h:IX N E1 fz1 S1 w1 a1 W2 K a' w') (h1: ∀t,t∈W1->t∈W) (h2: ∀t,t∈W2->t∈W):IX N E fz S w a W K a' w':=by
  obtain ⟨F',S',E',fz',q1,q2,q3,q4,q5,q6,q7⟩:=h;refine ⟨F',S',E',fz',q1,hx.trans q2,q3,q4,q5,by rw [q6,hd],fun t hn=>?_⟩;rw [q7 t (fun h=>hn (h2 t h)),ht t (fun h=>hn (h1 t h))]
theorem Fh {AW:List Nat} {F:Frame} {K:Frame->Prop}:Kh AW F K↔K (AW.map fun t=>(t,F.get t)):=by
  induction AW generalizing K with
  | nil=>exact Iff.rfl
  | cons t AW ih=>simp only [Kh,Bj,ih,List.map_cons]
theorem FY {W:List Nat} {F:Frame} {K:List AA->Prop}:T_ W F K↔K (W.map F.get):=by
  induction W generalizing K with
  | nil=>exact Iff.rfl
  | cons t W ih=>simp only [T_,Bj,ih,List.map_cons]
theorem St.sub {E:Env} {fz:Nat->Prop} {S S':AB} {w:World} (st:St E fz S w) (h: ∀(l:Nat) o,S'[l]?=some o->o= .dead\/S[l]?=some o):St E fz S' w/\Ext E fz S w E fz S' w:=by
  have own: ∀ {l b:Nat},Dh E S' l b->Dh E S l b:=fun {l b} ⟨o,h1,h2⟩=>by
    rcases h l o h1 with rfl | h3
    · simp [AU] at h2
    · exact ⟨o,h3,h2⟩
  refine ⟨⟨fun l o hl=>?_,fun l l' b h1 h2=>st.sep l l' b (own h1) (own h2),st.Gi,st.fresh⟩,⟨fun _ _ h=>h,fun _ h=>h,fun _ h=>.inl h,fun _ _ _=>rfl,fun b ⟨l,h⟩=>.inl ⟨l,own h⟩,Nat.le_refl _,rfl,rfl,(Tp.of rfl (Nat.le_refl _))⟩⟩;rcases h l o hl with rfl | h3
  · trivial
  · exact st.ok l o h3
theorem fu: ∀(W:List Nat) (xs:List AA) (F:Frame) (t:Nat),(∃i:Nat,W[i]?=some t/\xs[i]?=some ((Er W xs F).get t))\/(Er W xs F).get t=F.get t
  | [],xs,F,t=>by cases xs<;>simp [Er]
  | u::W,[],F,t=>by simp [Er]
  | u::W,x::xs,F,t=>by
    simp only [Er,Frame.get];cases h:Nat.beq u t with
    | true=>
      have e:u=t:=Nat.eq_of_beq_eq_true h;exact .inl ⟨0,by simp [e],by simp⟩
    | false=>
      rcases fu W xs F t with ⟨i,h1,h2⟩ | h1
      · exact .inl ⟨i+1,by simpa using h1,by simpa using h2⟩
      · exact .inr h1
theorem Sk (AW:List Nat) (F:Frame) (t:Nat):Frame.get (AW.map fun t=>(t,F.get t)) t=F.get t/\t∈AW\/Frame.get (AW.map fun t=>(t,F.get t)) t= .C3:=by
  induction AW with
  | nil=>exact .inr rfl
  | cons u AW ih=>
    simp only [List.map_cons,Frame.get];cases h:Nat.beq u t with
    | true=>
      have e:u=t:=Nat.eq_of_beq_eq_true h;subst e;exact .inl ⟨rfl,by simp⟩
    | false=>
      rcases ih with ⟨h1,h2⟩ | h1
      · exact .inl ⟨h1,by simp [h2]⟩
      · exact .inr h1
theorem KX {n:Nat} {f:List AA->Prop}:lR n f↔ ∀xs:List AA,xs.length=n->f xs:=by
  induction n generalizing f with
  | zero=>simp [lR]
  | succ n ih=>
    simp only [lR,ih];constructor
    · intro h xs hx
      cases xs with
      | nil=>simp at hx
      | cons x xs=>exact h x xs (by simpa using hx)
    · intro h x xs hx
      exact h (x::xs) (by simp [hx])
theorem apart_spec {AW W:List Nat} (h:apart AW W=true) {t:Nat} (ht:t∈AW):t ∉ W:=by
  have:=List.all_eq_true.1 h t ht;simpa using this
theorem Wx {E E':Env} {fz fz':Nat->Prop} {S S':AB} {w w':World} {F F':Frame} {a a':Act} {AW W:List Nat} {Wr:List Nat} (st:St E fz S w) (hx:Ext E fz S w E' fz' S' w') (hF:CH E fz w F a.tmps) (hF':CH E' fz' w' F' a'.tmps)
    (hu: ∀t,t ∉ Wr->a'.tmps[t]?=a.tmps[t]?) (hk:apart AW Wr=true):CH E' fz' w' (Er W (W.map F'.get) (AW.map fun t=>(t,F.get t))) a'.tmps:=by
  intro t;rcases fu W (W.map F'.get) (AW.map fun t=>(t,F.get t)) t with ⟨i,h1,h2⟩ | h1
  · rw [List.getElem?_map,h1] at h2
    simp at h2;rw [<-h2];exact hF' t
  · rw [h1]
    rcases Sk AW F t with ⟨h2,h3⟩ | h2
    · rw [h2,sj (hu t (apart_spec hk h3))]
      exact st.rel hx (hF t)
    · rw [h2];simp [Rel]
theorem VO {E E1:Env} {fz fz1:Nat->Prop} {S S1:AB} {w w1:World} {a a1:Act} {W W1 W2:List Nat} {Q:Be->Frame->AB->Prop} {e:Exit} {a':Act} {w':World} (hx:Ext E fz S w E1 fz1 S1 w1) (hd:a1.defers=a.defers) (ht: ∀t,t ∉ W1->a1.tmps[t]?=a.tmps[t]?) (h1: ∀t,t∈W1->t∈W) (h2: ∀t,t∈W2->t∈W)
    (h:Qk N E1 fz1 S1 w1 a1 W2 Q e a' w'):Qk N E fz S w a W Q e a' w':=by
  cases e<;>simp only [Qk] at h |- <;>exact h.trans hx hd ht h1 h2
def Om (P:Program) (N:Nat):Prop:= ∀(rr:Option Nat) (id:Nat) (ops:Array Oper) (hint gl:List C9) (m:Nat) (π:List Nat),Qv P N ops ops.toList hint=some gl->Zr ops m π gl=true->P.follows .mixedOrders=true->
  ∀ {K:Frame->AB->Prop} {E:Env} {fz:Nat->Prop} {S:AB} {w:World} {F:Frame} {a:Act},St E fz S w->CH E fz w F a.tmps->a.tmps.size=N->Aj P K m (D2 (HE π gl)) F S->
    (Code.region id ops true).wpIn (wf rr) 0 P (fun e a' w'=>e= .normal/\IX N E fz S w a (Ie (D2 (HE π gl))) K a' w') a w
theorem TB {E:Env} {S:AB} {r b:Nat}:Own E (S++List.replicate r .dead) b↔Own E S b:=by
  constructor
  · rintro ⟨l,o,h1,h2⟩
    rcases Nat.lt_or_ge l S.length with h | h
    · rw [List.getElem?_append_left h] at h1;exact ⟨l,o,h1,h2⟩
    · rw [List.getElem?_append_right h,List.getElem?_replicate] at h1
      split at h1
      · cases h1;simp [AU] at h2
      · cases h1
  · rintro ⟨l,o,h1,h2⟩
    exact ⟨l,o,by rw [List.getElem?_append_left (List.getElem?_eq_some_iff.1 h1).1];exact h1,h2⟩
theorem St.cO {E:Env} {fz:Nat->Prop} {S:AB} {w:World} (st:St E fz S w) (r:Nat):St E fz (S++List.replicate r .dead) w:=by
  have back: ∀ {l:Nat} {o:Ob},(S++List.replicate r Ob.dead)[l]?=some o->S[l]?=some o\/o= .dead:=fun {l o} h1=>by
    rcases Nat.lt_or_ge l S.length with h | h
    · rw [List.getElem?_append_left h] at h1;exact .inl h1
    · rw [List.getElem?_append_right h,List.getElem?_replicate] at h1
      split at h1
      · cases h1;exact .inr rfl
      · cases h1
  refine ⟨fun l o h=>?_,fun l l' b ⟨o,h1,h2⟩ ⟨o',h1',h2'⟩=>?_,st.Gi,st.fresh⟩
  · rcases back h with h | rfl
    · exact st.ok l o h
    · trivial
  · rcases back h1 with h | rfl
    · rcases back h1' with h' | rfl
      · exact st.sep l l' b ⟨o,h,h2⟩ ⟨o',h',h2'⟩
      · simp [AU] at h2'
    · simp [AU] at h2
theorem Ext.cO {E E':Env} {fz fz':Nat->Prop} {S S':AB} {w w':World} {r:Nat} (h:Ext E fz (S++List.replicate r .dead) w E' fz' S' w'):Ext E fz S w E' fz' S' w':=
  ⟨h.env,h.Yf,fun b hb=>(h.IE b hb).imp id (Or.imp TB.1 id),fun b hb hn=>h.AW b hb fun q=>hn (TB.1 q),fun b hb=>(h.own b hb).imp TB.1 id,h.size,h.os,h.output,h.tape⟩
theorem Ee {rr:Option Nat} (hD:Om P N): ∀(c:Code) (hint sc:Ag),comp P N c hint=some sc-> ∀ {Q:Be->Frame->AB->Prop} {E:Env} {fz:Nat->Prop} {S:AB} {w:World} {F:Frame} {a:Act},
    St E fz S w->CH E fz w F a.tmps->a.tmps.size=N->vc P sc Q F S->c.wpIn (wf rr) 0 P (Qk N E fz S w a (writes sc) Q) a w
  | .skip,hint,sc,hc,Q,E,fz,S,w,F,a,st,hF,hN,h=>by
    simp only [comp] at hc;cases hc;exact wpIn_skip ⟨F,S,E,fz,h,.refl,st,hF,hN,rfl,fun _ _=>rfl⟩
  | .exit id,hint,sc,hc,Q,E,fz,S,w,F,a,st,hF,hN,h=>by
    simp only [comp] at hc;cases hc;exact wpIn_exit ⟨F,S,E,fz,h,.refl,st,hF,hN,rfl,fun _ _=>rfl⟩
  | .ret,hint,sc,hc,Q,E,fz,S,w,F,a,st,hF,hN,h=>by
    simp only [comp] at hc;cases hc;exact wpIn_ret ⟨F,S,E,fz,h,.refl,st,hF,hN,rfl,fun _ _=>rfl⟩
  | .region id ops draw,hint,sc,hc,Q,E,fz,S,w,F,a,st,hF,hN,h=>by
    cases draw
    · cases hint<;>(try simp only [comp] at hc)<;>first | (cases hc;done) | skip
      rename_i l d AW;cases d<;>(try simp only [comp] at hc)<;>first | (cases hc;done) | skip
      split at hc<;>cases hc;rename_i gl hgl;simp only [vc] at h;refine wpIn_region ?_;have:=Yy (rr:=rr) (Q:=Qk N E fz S w a (writes (.ops gl none AW)) Q) ops.toList l gl 0 (fun j=>by simp) hgl st hF hN h (fun a' w' hA=>?_)
      · simpa [List.range_eq_range'] using this
      · obtain ⟨F',S',E',fz',q1,q2,q3,q4,q5,q6,q7⟩:=hA
        rw [Fh] at q1;refine ⟨_,S',E',fz',q1,q2,q3,fun t=>?_,q5,q6,q7⟩;rcases Sk AW F' t with ⟨h1,_⟩ | h1
        · rw [h1];exact q4 t
        · rw [h1];simp [Rel]
    · cases hint<;>(try simp only [comp] at hc)<;>first | (cases hc;done) | skip
      rename_i l d AW;cases d<;>(try simp only [comp] at hc)<;>first | (cases hc;done) | skip
      split at hc
      · rename_i gl hgl
        split at hc
        · rename_i hok
          cases hc;simp only [Bool.and_eq_true] at hok;simp only [vc] at h;refine wpIn_mono (hD rr id ops _ gl _ _ hgl hok.1 hok.2 (st.cO _) hF hN h) ?_;rintro e a' w' ⟨rfl,hA⟩;obtain ⟨F',S',E',fz',q1,q2,q3,q4,q5,q6,q7⟩:=hA;rw [Fh] at q1;refine ⟨_,S',E',fz',q1,q2.cO,q3,fun t=>?_,q5,q6,q7⟩;rcases Sk AW F' t with ⟨h1,_⟩ | h1
          · rw [h1];exact q4 t
          · rw [h1];simp [Rel]
        · cases hc
      · cases hc
  | .cond c x y,hint,sc,hc,Q,E,fz,S,w,F,a,st,hF,hN,h=>by
    cases hint<;>simp only [comp] at hc<;>first | (cases hc;done) | skip
    split at hc<;>cases hc;rename_i r sx sy hr hx hy;have hrel:=Ac hF hr;simp only [vc,AD] at h;have tr:vc P sx Q F S->a.eval c= .bool true->(Code.cond c x y).wpIn (wf rr) 0 P (Qk N E fz S w a (writes (.cond r sx sy)) Q) a w:=fun hv he=>
      wpIn_cond_true he (wpIn_mono (Ee hD x _ sx hx st hF hN hv) fun e a' w' hl=>VO .refl rfl (W1:=[]) (fun _ _=>rfl) (by simp) (fun t ht=>by simp [writes,ht]) hl)
    have fl:vc P sy Q F S->a.eval c= .bool false->(Code.cond c x y).wpIn (wf rr) 0 P (Qk N E fz S w a (writes (.cond r sx sy)) Q) a w:=fun hv he=>
      wpIn_cond_false he (wpIn_mono (Ee hD y _ sy hy st hF hN hv) fun e a' w' hl=>VO .refl rfl (W1:=[]) (fun _ _=>rfl) (by simp) (fun t ht=>by simp [writes,ht]) hl)
    cases hC:rd F r<;>rw [hC] at h hrel<;>simp only [Rel] at h hrel
    · exact tr h hrel
    · exact fl h hrel
    · rename_i b
      cases b
      · exact fl (h.2 rfl) hrel
      · exact tr (h.1 rfl) hrel
  | .seq x y,hint,sc,hc,Q,E,fz,S,w,F,a,st,hF,hN,h=>by
    cases hint<;>simp only [comp] at hc<;>first | (cases hc;done) | skip
    · split at hc<;>cases hc
      rename_i sx sy hx hy;simp only [vc] at h;refine wpIn_seq (wpIn_mono (Ee hD x _ sx hx st hF hN h) fun e a1 w1 hl=>?_);cases e<;>simp only [Qk] at hl
      · obtain ⟨F1,S1,E1,fz1,q1,q2,q3,q4,q5,q6,q7⟩:=hl
        exact wpIn_mono (Ee hD y _ sy hy q3 q4 q5 q1) fun e a' w' hl2=>VO q2 q6 q7 (fun t ht=>by simp [writes,ht]) (fun t ht=>by simp [writes,ht]) hl2
      · exact hl.mono (fun t ht=>by simp [writes,ht]) fun _ _ q=>q
      · exact hl.mono (fun t ht=>by simp [writes,ht]) fun _ _ q=>q
    · rename_i AW W n _ _
      split at hc
      · rename_i sx sy hx hy
        split at hc
        · rename_i hap
          cases hc;simp only [vc] at h;have h':=h (fun xs os=>vc P sy Q (Er W xs (AW.map fun t=>(t,F.get t))) os) (by
            rw [Fh,KX];intro xs _ os q;exact q)
          refine wpIn_seq (wpIn_mono (Ee hD x _ sx hx st hF hN h') fun e a1 w1 hl=>?_);cases e<;>simp only [Qk] at hl
          · obtain ⟨F1,S1,E1,fz1,q1,q2,q3,q4,q5,q6,q7⟩:=hl
            simp only [Be.D_,FY] at q1;have hz:=Wx (W:=W) st q2 hF q4 q7 hap;exact wpIn_mono (Ee hD y _ sy hy q3 hz q5 q1) fun e a' w' hl2=>VO q2 q6 q7 (fun t ht=>by simp [writes,ht]) (fun t ht=>by simp [writes,ht]) hl2
          · exact hl.mono (fun t ht=>by simp [writes,ht]) fun _ _ q=>q
          · exact hl.mono (fun t ht=>by simp [writes,ht]) fun _ _ q=>q
        · cases hc
      · cases hc
  | .block id x,hint,sc,hc,Q,E,fz,S,w,F,a,st,hF,hN,h=>by
    cases hint<;>simp only [comp] at hc<;>first | (cases hc;done) | skip
    split at hc<;>cases hc;rename_i sx hx;simp only [vc] at h;refine wpIn_block (wpIn_mono (Ee hD x _ sx hx st hF hN h) fun e a1 w1 hl=>?_);cases e<;>simp only [Qk] at hl
    · exact hl.mono (fun t ht=>ht) fun _ _ q=>q
    · rename_i id'
      simp only [Exit.inBlock];by_cases e:id'=id
      · subst e
        rw [if_pos rfl];refine hl.mono (fun t ht=>ht) fun _ _ q=>?_;simpa [Be.Hr,Nat.beq_refl] using q
      · rw [if_neg e]
        refine hl.mono (fun t ht=>ht) fun _ _ q=>?_;have:Nat.beq id' id=false:=by
          cases hb:Nat.beq id' id with
          | false=>rfl
          | true=>exact (e (Nat.eq_of_beq_eq_true hb)).elim
        simpa [Be.Hr,this] using q
    · exact hl.mono (fun t ht=>ht) fun _ _ q=>q
  | .loop x,hint,sc,hc,Q,E,fz,S,w,F,a,st,hF,hN,h=>by
    cases hint<;>simp only [comp] at hc<;>first | (cases hc;done) | skip
    rename_i AW W n _;split at hc
    · rename_i sx hx
      split at hc
      · rename_i hap
        cases hc;simp only [vc] at h;obtain ⟨I,h0,hr⟩:=h;rw [FY] at h0;obtain ⟨k0,h0⟩:=h0;rw [Fh,KX] at hr;refine wpIn_loop_ghost (fun k a1 w1=> ∃xs os E1 fz1,xs.length=W.length/\I k xs os/\Ext E fz S w E1 fz1 os w1/\St E1 fz1 os w1/\CH E1 fz1 w1 (Er W xs (AW.map fun t=>(t,F.get t))) a1.tmps/\a1.tmps.size=N/\a1.defers=a.defers/\
          ∀t,t ∉ writes sx->a1.tmps[t]?=a.tmps[t]?) k0 ?_ ?_
        · exact ⟨_,S,E,fz,by simp,h0,.refl,st,Wx (W:=W) st .refl hF hF (fun _ _=>rfl) hap,hN,rfl,fun _ _=>rfl⟩
        · rintro k a1 w1 ⟨xs,os,E1,fz1,l1,hI,p1,p2,p3,p4,p5,p6⟩
          refine wpIn_mono (Ee hD x _ sx hx p2 p3 p4 (hr xs l1 k os hI)) fun e a2 w2 hl=>?_;cases e<;>simp only [Qk] at hl
          · obtain ⟨F2,S2,E2,fz2,q1,q2,q3,q4,q5,q6,q7⟩:=hl
            simp only [Be.D_,FY] at q1;obtain ⟨k',hk',q1⟩:=q1;refine ⟨k',hk',_,_,E2,fz2,by simp,q1,p1.trans q2,q3,?_,q5,by rw [q6,p5],fun t ht=>by rw [q7 t ht,p6 t ht]⟩;exact Wx (W:=W) st (p1.trans q2) hF q4 (fun t ht=>by rw [q7 t ht,p6 t ht]) hap
          · exact hl.trans p1 p5 p6 (fun t ht=>ht) (fun t ht=>ht)
          · exact hl.trans p1 p5 p6 (fun t ht=>ht) (fun t ht=>ht)
      · cases hc
    · cases hc
  | .rangeFunc ..,hint,sc,hc,_,_,_,_,_,_,_,_,_,_,h=>by simp only [comp] at hc;cases hc;exact h.elim
  | .scope _,hint,sc,hc,_,_,_,_,_,_,_,_,_,_,h=>by simp only [comp] at hc;cases hc;exact h.elim
  | .label _,hint,sc,hc,_,_,_,_,_,_,_,_,_,_,h=>by simp only [comp] at hc;cases hc;exact h.elim
  | .goto _,hint,sc,hc,_,_,_,_,_,_,_,_,_,_,h=>by simp only [comp] at hc;cases hc;exact h.elim
  | .refuse _,hint,sc,hc,_,_,_,_,_,_,_,_,_,_,h=>by simp only [comp] at hc;cases hc;exact h.elim
end
end Go.Vc
end
section
namespace Go.Vc
def XR (P:Program):List ResultVar->Option (List LS)
  | []=>some []
  | .tmp t::rs=>(match XR P rs with | some l=>some (.tmp t::l) | none=>none)
  | .cell a t::rs=>(match P.info? t,P.underlying t,XR P rs with
    | some i,some u,some l=>if H4 u then some (.cell a i.size true::l) else some (.cell a 1 false::l)
    | _,_,_=>none)
theorem QB (P:Program) (N:Nat):Om P N:=fun _ _ _ _ _ _ _ hc hok hf _ _ _ _ _ _ _ st hF hN h=>cX hc hok hf st hF hN h
section
variable {P : Program}
theorem cB: ∀(xs:List AA) (i t:Nat),(Ui i xs).get t=if i<=t then (match xs[t-i]? with | some x=>x | none=>.C3) else .C3
  | [],i,t=>by simp [Ui,Frame.get]
  | x::xs,i,t=>by
    simp only [Ui,Frame.get];cases h:Nat.beq i t with
    | true=>
      have e:i=t:=Nat.eq_of_beq_eq_true h;subst e;simp
    | false=>
      have e:i≠t:=Nat.ne_of_beq_eq_false h;simp only [cB xs (i+1) t];by_cases hle:i<=t
      · rw [if_pos hle,if_pos (by omega),show t-i=(t-(i+1))+1 by omega]
        simp
      · rw [if_neg hle,if_neg (by omega)]
theorem bG {E:Env} {fz:Nat->Prop} {S:AB} {w:World} {F:Frame} {tmps:Array Value} (st:St E fz S w) (hF:CH E fz w F tmps): ∀(rs:List ResultVar) (l:List LS) {K:List AA->Prop},XR P rs=some l->Ju F S K l->
    ∃(xs:List AA) (vs:List Value),(rs.mapM fun r=>(match r with | .tmp t=>pure (tmps.getD t undef) | .cell a t=>do loadVar t (<-asAddr (tmps.getD a undef)):Sem Value)).run P w= .ok vs w/\AZ E fz w xs vs/\K xs
  | [],l,K,hc,h=>by
    simp only [XR] at hc;cases hc;exact ⟨[],[],by simp,by simp [AZ],h⟩
  | .tmp t::rs,l,K,hc,h=>by
    simp only [XR] at hc;split at hc<;>cases hc;rename_i l' hl;simp only [Ju,Bj] at h;obtain ⟨xs,vs,h1,h2,h3⟩:=bG st hF rs l' hl h;refine ⟨_::xs,_::vs,?_,by simp only [AZ];exact ⟨_,_,rfl,hF t,h2⟩,h3⟩;rw [List.mapM_cons];simp only [Sem.run_bind,Sem.run_pure,Result.andThen_ok,h1]
  | .cell ad t::rs,l,K,hc,h=>by
    simp only [XR] at hc;split at hc
    · rename_i i u l' hi hu hl
      have main: ∀ {n:Nat} {ag:Bool},ag=H4 u->(ag=true->n=i.size)->(ag=false->n=1)->Ju F S K (.cell ad n ag::l')-> ∃(xs:List AA) (vs:List Value),((ResultVar.cell ad t::rs).mapM fun r=>(match r with | .tmp t=>pure (tmps.getD t undef) | .cell a t=>do loadVar t (<-asAddr (tmps.getD a undef)):Sem Value)).run P w= .ok vs w/\AZ E fz w xs vs/\K xs:=fun {n ag} hag hn hn1 hw=>by
        simp only [Ju,Bj] at hw;obtain ⟨b,off,e,ys,us,g1,g2,g3,g4,g5,hk⟩:=Tq (P:=P) st hw (hF ad);have fin: ∀ {x:AA} {v:Value},(loadVar t ⟨b,off,none⟩).run P w= .ok v w->Rel E fz w x v->Ju F S (fun xs=>K (x::xs)) l'-> ∃(xs:List AA) (vs:List Value),((ResultVar.cell ad t::rs).mapM fun r=>(match r with | .tmp t=>pure (tmps.getD t undef) | .cell a t=>do loadVar t (<-asAddr (tmps.getD a undef)):Sem Value)).run P w= .ok vs w/\AZ E fz w xs vs/\K xs:=fun {x v} hr hrel hw'=>by
          obtain ⟨xs,vs,h1,h2,h3⟩:=bG st hF rs l' hl hw';refine ⟨x::xs,v::vs,?_,by simp only [AZ];exact ⟨_,_,rfl,hrel,h2⟩,h3⟩;rw [List.mapM_cons];have ea:(asAddr (tmps.getD ad undef)).run P w= .ok ⟨b,off,none⟩ w:=by rw [e];rfl
          simp only [Sem.run_bind,Sem.run_pure,Result.andThen_ok,ea,hr,h1]
        rcases Ij.1 hk with ⟨ha,hk2⟩ | ⟨ha,y,rfl,hk2⟩
        · have hn':=hn ha
          subst hn';refine fin (v:= .agg us.toArray) ?_ ?_ hk2
          · simp [loadVar,IJ hu,<-hag,ha,sizeOf,Hg hi,g4]
          · simp only [Rel];exact ⟨us,rfl,g2,g3⟩
        · simp only [AZ] at g2
          obtain ⟨v,us',rfl,hv,rfl⟩:=g2;have hc0:=g5 0 v rfl;refine fin (v:=v) ?_ hv hk2;simp only [Nat.add_zero] at hc0;simp [loadVar,IJ hu,<-hag,ha,hc0]
      split at hc<;>cases hc
      · rename_i hag;exact main hag.symm (fun _=>rfl) (fun e=>by cases e) h
      · rename_i hag;exact main (by cases hq:H4 u<;>simp_all) (fun e=>by cases e) (fun _=>rfl) h
    · cases hc
theorem Yg {f:FuncId} {fn:Func} {c:Code} {hint sc:Ag} {res:List LS} {args:List AA} {S:AB} {R:AA->AB->Prop} (ha:DC P f=true) (hD:Om P fn.ntmps) (hf:P.funcs[f]?=some fn) (hb:fn.body=some c) (hc:comp P fn.ntmps c hint=some sc) (hr:XR P fn.results.toList=some res)
    (hlen:args.length<=fn.ntmps) (h:lI P sc res args S R):AV P f args S R:=by
  refine ⟨fun E fz w vals st hrel=>?_⟩;refine .inl ⟨ha,calls_of_wp hf hb ?_⟩;have hvl:=hrel.length;have hF:CH E fz w (Ui 0 args) (vals.toArray++Array.replicate (fn.ntmps-vals.toArray.size) undef):=by
    intro t;rw [cB];rw [if_pos (Nat.zero_le _)];simp only [Nat.sub_zero];cases hx:args[t]? with
    | none=>simp [Rel]
    | some x=>
      obtain ⟨v,hv,hr⟩:=hrel.get hx;have hlt:t<vals.length:=(List.getElem?_eq_some_iff.1 hv).1;have:(vals.toArray++Array.replicate (fn.ntmps-vals.toArray.size) undef).getD t undef=v:=by
        rw [Array.getD_eq_getD_getElem?,Array.getElem?_append_left (by simpa using hlt)];simp [hv]
      rw [this];exact hr
  refine wp_mono (wpIn_wide.1 (Ee (rr:=none) hD c hint sc hc st hF (by simp;omega) h)) ?_;have fin: ∀ {a':Act} {w':World} {K:Frame->AB->Prop},IX fn.ntmps E fz S w {tmps:=vals.toArray++Array.replicate (fn.ntmps-vals.toArray.size) undef,defers:=[]} (writes sc) K a' w'->(∀F' S',K F' S'->Ju F' S' (fun xs=>TY xs fun r=>R r S') res)->
      a'.defers=[]/\ ∃v,(results fn a'.tmps).run P w'= .ok v w'/\ ∃r S' v' E' fz',Ending.returned v= .returned v'/\Ext E fz S w E' fz' S' w'/\St E' fz' S' w'/\Rel E' fz' w' r v'/\R r S':=fun {a' w' K} hA hK=>by
    obtain ⟨F',S',E',fz',q1,q2,q3,q4,q5,q6,q7⟩:=hA;obtain ⟨xs,vs,g1,g2,g3⟩:=bG q3 q4 fn.results.toList res hr (hK _ _ q1);refine ⟨q6,?_⟩;have hrun:(fn.results.mapM fun r=>(match r with | .tmp t=>pure (a'.tmps.getD t undef) | .cell a t=>do loadVar t (<-asAddr (a'.tmps.getD a undef)):Sem Value)).run P w'= .ok vs.toArray w':=by
      rw [Array.mapM_eq_mapM_toList,Sem.run_map,g1];rfl
    have hres:(results fn a'.tmps).run P w'= .ok (if h:vs.toArray.size=1 then vs.toArray[0] else .tuple vs.toArray) w':=by
      unfold results;rw [Sem.run_bind];refine Eq.trans (congrArg (fun r=>Result.andThen r _) hrun) ?_;rfl
    have hl:=g2.length
    match xs,vs,hl,g2,g3,hres with
    | [x],[v],_,g2,g3,hres=>
      simp only [AZ] at g2;obtain ⟨v',us,e,hv,_⟩:=g2;cases e;exact ⟨v,hres,x,S',v,E',fz',rfl,q2,q3,hv,g3⟩
    | [],[],_,g2,g3,hres=>exact ⟨_,hres,.DH [],S',_,E',fz',rfl,q2,q3,by simp only [Rel];exact ⟨[],rfl,g2⟩,g3⟩
    | x::y::xs,v::u::vs,_,g2,g3,hres=>
      refine ⟨.tuple (v::u::vs).toArray,?_,.DH (x::y::xs),S',_,E',fz',rfl,q2,q3,by simp only [Rel];exact ⟨_,rfl,g2⟩,g3⟩;rw [hres,dif_neg (by simp)]
    | [],_::_,hl,_,_,_=>simp at hl
    | _::_,[],hl,_,_,_=>simp at hl
    | [_],_::_::_,hl,_,_,_=>simp at hl
    | _::_::_,[_],hl,_,_,_=>simp at hl
  intro e a' w' hl;cases e<;>simp only [Qk] at hl
  · exact fin hl fun _ _ q=>q
  · obtain ⟨F',S',E',fz',q1,_⟩:=hl;exact q1.elim
  · exact fin hl fun _ _ q=>q
theorem AV.mono {f:FuncId} {args:List AA} {S:AB} {R R':AA->AB->Prop} (h:AV P f args S R) (hr: ∀r S',R r S'->R' r S'):AV P f args S R':=
  ⟨fun E fz w vals st hrel=>(h.out E fz w vals st hrel).mono fun e w' ⟨r,S',v,E',fz',h1,h2,h3,h4,h5⟩=>⟨r,S',v,E',fz',h1,h2,h3,h4,hr _ _ h5⟩⟩
end
end Go.Vc
end
section
namespace Go.Vc
section
variable {P : Program} {f : FuncId} {args : List AA}
theorem AV.use {S:AB} {Q:AA->Prop} {K:AA->AB->Prop} (h:AV P f args [] (fun r _=>Q r)) (hK: ∀r,Q r->K r S):AV P f args S K:=
  h.aE fun r S' q=>⟨r,id,[],.refl r,.nil,by rw [List.append_nil];exact hK r q⟩
def deref (S:AB):Nat->AA->AA
  | 0,x=>x
  | n+1,.sl l v off len=>match S[l]? with
    | some (.row v' _ cs)=>if v'=v then .Ez len ((cs.drop off).map (deref S n)) else .sl l v off len
    | _=>.sl l v off len
  | n+1,.ptr l v off=>match S[l]? with
    | some (.row v' _ cs)=>if v'=v then .GX ((cs.drop off).map (deref S n)) else .ptr l v off
    | _=>.ptr l v off
  | n+1,.agg cs=>.agg (cs.map (deref S n))
  | n+1,.DH cs=>.DH (cs.map (deref S n))
  | _+1,.AL=>.Ez 0 []
  | _+1,x=>x
theorem OL {E:Env} {fz fz':Nat->Prop} {w:World} {g:AA->AA} (hg: ∀x v,Rel E fz w x v->Rel E fz' w (g x) v): ∀(xs:List AA) (vs:List Value),AZ E fz w xs vs->AZ E fz' w (xs.map g) vs
  | [],_,h=>by simpa [AZ] using h
  | x::xs,_,h=>by
    simp only [AZ,List.map_cons] at*;obtain ⟨v,us,h0,h1,h2⟩:=h;exact ⟨v,us,h0,hg x v h1,OL hg xs us h2⟩
theorem OK {E:Env} {fz fz':Nat->Prop} {w:World} {g:AA->AA} (hg: ∀x v,Rel E fz w x v->Rel E fz' w (g x) v) {b:Nat}: ∀(xs:List AA) (off:Nat),Ck E fz w b off xs->Ck E fz' w b off (xs.map g)
  | [],_,h=>by simp [Ck]
  | x::xs,off,h=>by
    simp only [Ck,List.map_cons] at*;obtain ⟨⟨c,h1,h2,h3⟩,h4⟩:=h;exact ⟨⟨c,h1,h2,hg x c h3⟩,OK hg xs _ h4⟩
def frozen (E:Env) (fz:Nat->Prop) (S:AB) (b:Nat):Prop:=fz b\/Own E S b
theorem SS {E:Env} {fz:Nat->Prop} {S:AB} {w:World} (st:St E fz S w): ∀(n:Nat) (x:AA) (v:Value),Rel E fz w x v->Rel E (frozen E fz S) w (deref S n x) v:=by
  have up: ∀(x:AA) (v:Value),Rel E fz w x v->Rel E (frozen E fz S) w x v:=fun x v h=>Rel.mono (fun _ _ h=>h) (fun _ h=>.inl h) (fun _ _=>rfl) x h;intro n
  induction n with
  | zero=>intro x v h;exact up x v h
  | succ n ih=>
    intro x v h;have row: ∀ {l ver k:Nat} {cs:List AA} {b base cap k0:Nat},S[l]?=some (.row ver k cs)->E ver=some (.real b base cap k0)->frozen E fz S b/\Ck E fz w b base cs:=fun {l ver k cs b base cap k0} hl hv=>by
      rcases st.ok l _ hl with ⟨h1,_⟩ | ⟨b',base',cap',arr,T,lo,hi,h1,_,_,_,_,h6,_⟩
      · rw [h1] at hv;cases hv
      · rw [h1] at hv;cases hv
        exact ⟨.inr ⟨l,_,hl,by simp [AU,h1]⟩,h6⟩
    cases x
    case sl l ver off len=>
      simp only [deref];split
      · rename_i v' k cs hl
        split
        · rename_i he;subst he
          simp only [Rel] at h |-;rcases h with ⟨h1,a,h2⟩ | ⟨b,base,cap,k0,c,h1,h2,h3,h4⟩
          · exact .inl ⟨h1,a,0,h2⟩
          · obtain ⟨g1,g2⟩:=row hl h1
            exact .inr ⟨b,base+off,c,g1,h2,h4,OK ih _ _ (g2.drop off)⟩
        · exact up _ _ h
      · exact up _ _ h
    case ptr l ver off=>
      simp only [deref];split
      · rename_i v' k cs hl
        split
        · rename_i he;subst he
          simp only [Rel] at h |-;obtain ⟨b,base,cap,k0,h1,h2⟩:=h;obtain ⟨g1,g2⟩:=row hl h1;exact ⟨b,base+off,g1,h2,OK ih _ _ (g2.drop off)⟩
        · exact up _ _ h
      · exact up _ _ h
    case agg cs=>
      simp only [deref,Rel] at h |-;obtain ⟨vs,h1,h2,h3⟩:=h;exact ⟨vs,h1,OL ih cs vs h2,h3⟩
    case DH cs=>
      simp only [deref,Rel] at h |-;obtain ⟨vs,h1,h2⟩:=h;exact ⟨vs,h1,OL ih cs vs h2⟩
    case AL=>
      simp only [deref,Rel] at h |-;exact .inl ⟨by simp,none,0,h⟩
    all_goals exact up _ _ h
theorem St.freeze {E:Env} {fz:Nat->Prop} {S:AB} {w:World} (st:St E fz S w):St E (frozen E fz S) [] w:=
  ⟨fun l o h=>by simp at h,fun l l' b ⟨o,h,_⟩=>by simp at h,fun b hb=>hb.elim (st.Gi b) fun ⟨l,h⟩=>(st.Ey h).1,st.fresh⟩
theorem AV.freeze {R:AA->AB->Prop} (n:Nat) (h:AV P f args [] (fun r S'=>R (deref S' n r) [])):AV P f args [] R:=
  ⟨fun E fz w vals st hrel=>(h.out E fz w vals st hrel).mono fun e w' ⟨r,S',v,E',fz',h1,h2,h3,h4,h5⟩=>
    ⟨_,[],v,E',frozen E' fz' S',h1,⟨h2.env,fun b hb=>.inl (h2.Yf b hb),fun b hb=>hb.elim (h2.IE b) fun ho=>.inr (h2.own b ho),h2.AW,fun b ⟨l,o,hl,_⟩=>by simp at hl,h2.size,h2.os,h2.output,h2.tape⟩,
      h3.freeze,SS h3 n r v h4,h5⟩⟩
end
end Go.Vc
end
section
namespace Go.Vc
open Go.ChangeShapes Go.WideShapes Go.ChangeAt Go.RowKit
mutual
inductive Ty where
  | int (k:IntKind)
  | str
  | bool
  | st (fs:Ky)
  | sl (e:Ty)
inductive Ky where
  | nil
  | cons (t:Ty) (ts:Ky)
end
mutual
def T:Ty->Type
  | .int _=>Int
  | .str=>List UInt8
  | .bool=>Bool
  | .st fs=>Ts fs
  | .sl e=>List (T e)
def Ts:Ky->Type
  | .nil=>Unit
  | .cons t .nil=>T t
  | .cons t (.cons u ts)=>T t×Ts (.cons u ts)
end
mutual
def G9:Ty->Nat
  | .int _=>1
  | .str=>1
  | .bool=>1
  | .st fs=>uD fs
  | .sl _=>1
def uD:Ky->Nat
  | .nil=>0
  | .cons t ts=>G9 t+uD ts
end
mutual
def BP:(t:Ty)->T t->List AA
  | .int k,n=>[.int k n]
  | .str,s=>[.str s]
  | .bool,b=>[.bool b]
  | .st fs,x=>HS fs x
  | .sl e,l=>[.Ez (List.length (α:=T e) l) (List.flatMap (β:=AA) (α:=T e) (BP e) l)]
def HS:(ts:Ky)->Ts ts->List AA
  | .nil,_=>[]
  | .cons t .nil,x=>BP t x
  | .cons t (.cons u ts),(x,y)=>BP t x++HS (.cons u ts) y
end
mutual
def vw:(t:Ty)->T t->Prop
  | .int k,n=>LE.le (α:=Int) k.min n/\LE.le (α:=Int) n k.max
  | .str,s=>List.length (α:=UInt8) s<=140737488351232
  | .bool,_=>True
  | .st fs,x=>eC fs x
  | .sl e,l=>List.length (α:=T e) l<=140737488351232/\ ∀x:T e,List.Mem x l->vw e x
def eC:(ts:Ky)->Ts ts->Prop
  | .nil,_=>True
  | .cons t .nil,x=>vw t x
  | .cons t (.cons u ts),(x,y)=>vw t x/\eC (.cons u ts) y
end
mutual
def uf:(t:Ty)->T t->Nat
  | .int _,_=>1
  | .str,s=>List.length (α:=UInt8) s+1
  | .bool,_=>1
  | .st fs,x=>ft fs x+1
  | .sl e,l=>List.foldr (α:=T e) (β:=Nat) (fun x n=>uf e x+n) 1 l
def ft:(ts:Ky)->Ts ts->Nat
  | .nil,_=>0
  | .cons t .nil,x=>uf t x
  | .cons t (.cons u ts),(x,y)=>uf t x+ft (.cons u ts) y
end
def DV:(t:Ty)->T t->AA
  | .st fs,x=>.agg (HS fs x)
  | .int k,n=>.int k n
  | .str,s=>.str s
  | .bool,b=>.bool b
  | .sl e,l=>.Ez (List.length (α:=T e) l) (List.flatMap (β:=AA) (α:=T e) (BP e) l)
def F5:(ts:Ky)->Ts ts->List AA
  | .nil,_=>[]
  | .cons t .nil,x=>[DV t x]
  | .cons t (.cons u ts),(x,y)=>DV t x::F5 (.cons u ts) y
def Og (P:Program) (go:TypeId->Option Ty):Nat->List Field->Option (Ky×Nat)
  | off,[]=>some (.nil,off)
  | off,f::fs=>if f.offset=off then (match go f.type with
    | some t=>if G9 t=P.cellsOf f.type then (match Og P go (off+P.cellsOf f.type) fs with | some (ts,n)=>some (.cons t ts,n) | none=>none) else none
    | none=>none) else none
def ba (P:Program):Nat->TypeId->Option Ty
  | 0,_=>none
  | n+1,t=>match P.underlying t with
    | some (.int k)=>some (.int k)
    | some .string=>some .str
    | some .bool=>some .bool
    | some (.slice e)=>(match ba P n e with | some u=>if G9 u=P.cellsOf e/\0<P.cellsOf e/\0<P.bytesOf e then some (.sl u) else none | none=>none)
    | some (.struct fs)=>(match Og P (ba P n) 0 fs.toList with | some (ts,m)=>if m=P.cellsOf t then some (.st ts) else none | none=>none)
    | _=>none
def fY (P:Program) (n:Nat):List TypeId->Option Ky
  | []=>some .nil
  | t::ts=>match ba P n t,fY P n ts with | some u,some us=>some (.cons u us) | _,_=>none
structure gD {H:Type} (bulk:DataW H->Nat) (all:List (DataW H)->Nat):Prop where
  int: ∀k n,1<=bulk (.lit (.int k n))
  bool: ∀b,1<=bulk (.lit (.bool b))
  str: ∀s,s.length+1<=bulk (.lit (.string s))
  nil:1<=bulk .nil
  slice: ∀es sp,all es+1<=bulk (.slice es sp)
  agg: ∀ps,all ps+1<=bulk (.agg ps)
  none:all []=0
  cons: ∀d r,all (d::r)=bulk d+all r
section
variable {H : Type} {enc : TypeId × Value -> H} {P : Program} {w : World} {base : Nat} {spare : Nat -> Bool} {held : Bool} {bulk : DataW H -> Nat} {all : List (DataW H) -> Nat}
abbrev E0:Env:=fun _=>none
abbrev rb (w:World):Nat->Prop:=fun b=>b<w.heap.size
def ZY (w:World) (bulk:DataW H->Nat) (t:Ty) (cs:List Value) (d:DataW H):Prop:=
  ∃x:T t,AZ E0 (rb w) w (BP t x) cs/\vw t x/\uf t x<=bulk d/\ ∀c∈cs,c.oneCell'=true
theorem dn {α β:Type} {g:α->Option β}: ∀ {l:List α} {ys:List β},l.mapM g=some ys-> ∀(i:Nat) a,l[i]?=some a-> ∃b,g a=some b/\ys[i]?=some b
  | [],_,_,i,a,ha=>by simp at ha
  | x::l,ys,h,i,a,ha=>by
    cases hx:g x with
    | none=>simp [hx] at h
    | some b=>
      cases hl:l.mapM g with
      | none=>simp [hx,hl] at h
      | some bs=>
        simp [hx,hl] at h;subst h;cases i with
        | zero=>simp at ha;subst ha;exact ⟨b,hx,rfl⟩
        | succ i=>simp at ha;simpa using dn hl i a ha
theorem Wo (hb:gD bulk all) {e:Ty} {k:Nat} {b off:Nat}: ∀(ds:List (DataW H)) (i0:Nat),(∀(i:Nat) d,ds[i]?=some d-> ∃cs:List Value,cs.length=k/\(∀j,j<k->w.cell? ⟨b,off+(i0+i)*k+j,none⟩=cs[j]?)/\ZY w bulk e cs d)->
    ∃l:List (T e),l.length=ds.length/\Ck E0 (rb w) w b (off+i0*k) (l.flatMap (BP e))/\(∀x∈l,vw e x)/\l.foldr (fun x n=>uf e x+n) 1<=all ds+1
  | [],i0,_=>⟨[],rfl,by simp [Ck],by simp,by simp⟩
  | d::ds,i0,h=>by
    obtain ⟨cs,h1,h2,x,h3,h4,h5,h6⟩:=h 0 d rfl;obtain ⟨l,g1,g2,g3,g4⟩:=Wo hb ds (i0+1) fun i d' hd=>by
      have:=h (i+1) d' (by simpa using hd);rwa [show i0+(i+1)=i0+1+i by omega] at this
    have hlen:=h3.length;refine ⟨x::l,by simp [g1],?_,?_,?_⟩
    · rw [List.flatMap_cons]
      refine Ck.append (Ck.mk fun i a ha=>?_) ?_
      · obtain ⟨v,q1,q2⟩:=h3.get ha
        have hi:i<k:=by
          have:=(List.getElem?_eq_some_iff.1 q1).1;omega
        exact ⟨v,by have:=h2 i hi;rw [Nat.add_zero] at this;rw [this,q1],h6 v (List.mem_of_getElem? q1),q2⟩
      · rw [show off+i0*k+(BP e x).length=off+(i0+1)*k by rw [<-hlen,h1,Nat.add_mul];omega]
        exact g2
    · intro y hy
      rcases List.mem_cons.1 hy with rfl | hy
      · exact h4
      · exact g3 y hy
    · rw [hb.cons]
      simp only [List.foldr_cons];omega
theorem Rn {n:Nat} (hb:gD bulk all) {go:TypeId->Option Ty} (ih: ∀(t:TypeId) (u:Ty) (cs:List Value) (d:DataW H) (ps:List MemPlace),go t=some u->(∀x∈d.weights P t,x<=reachBytes)->DataW.trod enc P w 0 spare held n t cs=some (d,ps)->ZY w bulk u cs d) (cs:List Value):
    ∀(fs:List Field) (off:Nat) (ts:Ky) (m:Nat) (xs:List (DataW H×List MemPlace)),Og P go off fs=some (ts,m)->m<=cs.length->fs.mapM (fun f=>DataW.trod enc P w 0 spare held n f.type ((cs.drop f.offset).take (P.cellsOf f.type)))=some xs->(∀x∈DataW.weightsEach P (fs.map (·.type)) (xs.map (·.1)),x<=reachBytes)->
    off<=m/\ ∃x:Ts ts,AZ E0 (rb w) w (HS ts x) ((cs.drop off).take (m-off))/\eC ts x/\ft ts x<=all (xs.map (·.1))/\ ∀c∈(cs.drop off).take (m-off),c.oneCell'=true
  | [],off,ts,m,xs,hc,hm,hx,hR=>by
    simp only [Og,Option.some.injEq,Prod.mk.injEq] at hc;obtain ⟨rfl,rfl⟩:=hc;exact ⟨Nat.le_refl _,(),by simp [HS,AZ],by simp [eC],by simp [ft],by simp⟩
  | f::fs,off,ts,m,xs,hc,hm,hx,hR=>by
    unfold Og at hc;split at hc
    · rename_i ho
      split at hc
      · rename_i t ht
        split at hc
        · rename_i hsz
          split at hc
          · rename_i ts' m' hr
            cases hc;rw [List.mapM_cons] at hx;cases hq:DataW.trod enc P w 0 spare held n f.type ((cs.drop f.offset).take (P.cellsOf f.type)) with
            | none=>simp [hq] at hx
            | some y=>
              cases hq2:fs.mapM (fun f=>DataW.trod enc P w 0 spare held n f.type ((cs.drop f.offset).take (P.cellsOf f.type))) with
              | none=>simp [hq,hq2] at hx
              | some ys=>
                simp [hq,hq2] at hx;subst hx;simp only [List.map_cons,DataW.weightsEach,List.mem_append] at hR;obtain ⟨i1,x2,r2,o2,w2,c2⟩:=Rn hb ih cs fs (off+P.cellsOf f.type) ts' m ys hr hm hq2 (fun x hx=>hR x (.inr hx));obtain ⟨x1,r1,o1,w1,c1⟩:=ih f.type t _ y.1 y.2 ht (fun x hx=>hR x (.inl hx)) hq;rw [ho] at r1 c1;have split_:(cs.drop off).take (m-off)=(cs.drop off).take (P.cellsOf f.type)++(cs.drop (off+P.cellsOf f.type)).take (m-(off+P.cellsOf f.type)):=by
                  rw [show m-off=P.cellsOf f.type+(m-(off+P.cellsOf f.type)) by omega,List.take_add,List.drop_drop]
                refine ⟨by omega,?_⟩;rw [split_];have hone: ∀c∈(cs.drop off).take (P.cellsOf f.type)++(cs.drop (off+P.cellsOf f.type)).take (m-(off+P.cellsOf f.type)),c.oneCell'=true:=fun c hc'=>by
                  rcases List.mem_append.1 hc' with h | h
                  · exact c1 c h
                  · exact c2 c h
                cases ts' with
                | nil=>
                  simp only [HS,AZ] at r2;rw [r2,List.append_nil];exact ⟨x1,r1,o1,by simp only [List.map_cons,hb.cons];exact Nat.le_trans w1 (Nat.le_add_right _ _),by rw [r2,List.append_nil] at hone;exact hone⟩
                | cons u us=>
                  exact ⟨(x1,x2),r1.append r2,⟨o1,o2⟩,by simp only [List.map_cons,hb.cons];exact Nat.add_le_add w1 w2,hone⟩
          · cases hc
        · cases hc
      · cases hc
    · cases hc
theorem ep (hb:gD bulk all): ∀(fuel n:Nat) (t:TypeId) (u:Ty) (cs:List Value) (d:DataW H) (ps:List MemPlace),ba P n t=some u->(∀x∈d.weights P t,x<=reachBytes)->DataW.trod enc P w 0 spare held fuel t cs=some (d,ps)->ZY w bulk u cs d:=by
  intro fuel
  induction fuel with
  | zero=>intro n t u cs d ps _ _ h;simp [DataW.trod] at h
  | succ fuel ih=>
    intro n t u cs d ps hu hR h;cases n with
    | zero=>simp [ba] at hu
    | succ n=>
      unfold ba at hu;split at hu
      · rename_i k hk
        cases hu;obtain ⟨x,rfl,h2,h3⟩:=DataW.trod_int hk h;simp only [Prod.mk.injEq] at h2;simp only [Lit.wf,Bool.and_eq_true,decide_eq_true_eq] at h3;exact ⟨x,by simp [BP,AZ,Rel],h3,by rw [h2.1];exact hb.int _ _,by simp [Value.oneCell']⟩
      · rename_i hk
        cases hu;obtain ⟨s,rfl,h2,h3⟩:=DataW.trod_string hk h;simp only [Prod.mk.injEq] at h2;refine ⟨s.data.toList,by simp [BP,AZ,Rel],?_,by rw [h2.1];exact hb.str _,by simp [Value.oneCell']⟩;show List.length s.data.toList<=140737488351232;have:=hR s.data.toList.length (by rw [h2.1];simp [DataW.weights]);exact this
      · rename_i hk
        cases hu;obtain ⟨x,rfl,h2⟩:=DataW.trod_bool hk h;simp only [Prod.mk.injEq] at h2;exact ⟨x,by simp [BP,AZ,Rel],trivial,by rw [h2.1];exact hb.bool _,by simp [Value.oneCell']⟩
      · rename_i e hk
        split at hu
        · rename_i u' hu'
          split at hu
          · rename_i hsz
            cases hu;unfold DataW.trod at h;rw [hk] at h;split at h<;>try (cases ‹some (TypeDesc.slice e)=some _›;done)
            all_goals try cases ‹some (TypeDesc.slice e)=some _›
            · cases h
              exact ⟨[],by simp [BP,AZ,Rel],⟨Nat.zero_le _,fun x hx=>nomatch hx⟩,hb.nil,by simp [Value.oneCell']⟩
            · rename_i a len cap
              dsimp only at h;split at h
              · rename_i hcnd
                obtain ⟨_,hlc,hcap⟩:=hcnd;obtain ⟨elems,hel,h⟩:=Option.bind_eq_some_iff.1 h;obtain ⟨rest,hre,h⟩:=Option.map_eq_some_iff.1 h;simp only [Prod.mk.injEq] at h;obtain ⟨rfl,_⟩:=h;have hlen:elems.length=len:=by have:=mapM_some_length hel;simpa using this
                have one:Value.oneCell' (.slice (some a) len cap)=true:=by simp [Value.oneCell']
                have e1:=hb.slice (elems.map (·.1)) (rest.map (·.1));by_cases h0:len=0
                · subst h0
                  refine ⟨[],?_,⟨Nat.zero_le _,fun x hx=>nomatch hx⟩,?_,by simpa using one⟩
                  · simp [BP,AZ,Rel]
                  · simp only [uf,List.foldr_nil];omega
                have hwt:(elems.length+rest.length)*P.bytesOf e<=reachBytes/\ ∀y∈elems,∀x∈y.1.weights P e,x<=reachBytes:=by
                  have all: ∀ {l:List (DataW H×List MemPlace)} {y:DataW H×List MemPlace},y∈l-> ∀x∈y.1.weights P e,x∈DataW.weightsAll P e (l.map (·.1)):=by
                    intro l
                    induction l with
                    | nil=>intro y hy;cases hy
                    | cons z l ih'=>
                      intro y hy x hx;simp only [List.map_cons,DataW.weightsAll,List.mem_append];rcases List.mem_cons.1 hy with rfl | hy
                      · exact .inl hx
                      · exact .inr (ih' hy x hx)
                  refine ⟨hR _ (by simp [DataW.weights,hk]),fun y hy x hx=>hR x ?_⟩;simp only [DataW.weights,hk,List.mem_cons,List.mem_append];exact .inr (.inl (all hy x hx))
                have key: ∀(i:Nat) d',(elems.map (·.1))[i]?=some d'-> ∃cs:List Value,cs.length=P.cellsOf e/\(∀j,j<P.cellsOf e->w.cell? ((a.add (i*P.cellsOf e)).add j)=cs[j]?)/\ZY w bulk u' cs d':=fun i d' hd=>by
                  rw [List.getElem?_map] at hd;cases hq:elems[i]? with
                  | none=>simp [hq] at hd
                  | some y=>
                    simp [hq] at hd;subst hd;have hi:i<len:=by have:=(List.getElem?_eq_some_iff.1 hq).1;omega
                    obtain ⟨y',q1,q2⟩:=dn hel i i (by simp [hi]);rw [hq] at q2;cases q2;cases hcs:w.cells? 0 (a.add (i*P.cellsOf e)) (P.cellsOf e) with
                    | none=>simp [hcs] at q1
                    | some cs=>
                      simp only [hcs,Option.bind_some] at q1;obtain ⟨_,q3,q4⟩:=World.cells?_some hcs;exact ⟨cs,q3,q4,ih n e u' cs y.1 y.2 hu' (hwt.2 y (List.mem_of_getElem? hq)) q1⟩
                obtain ⟨b,off,spot⟩:=a;have hsp:spot=none/\b<w.heap.size:=by
                  obtain ⟨cs,k1,k2,_⟩:=key 0 _ (List.getElem?_eq_getElem (by simp;omega));have k3:=k2 0 hsz.2.1;rw [List.getElem?_eq_getElem (by omega)] at k3;have k4:spot=none:=by simpa [Addr.add] using World.cell?_spot k3
                  refine ⟨k4,?_⟩;rcases Nat.lt_or_ge b w.heap.size with hl | hl
                  · exact hl
                  · simp [World.cell?,Addr.add,Array.getElem?_eq_none hl] at k3
                obtain ⟨rfl,hbl⟩:=hsp;obtain ⟨l,g1,g2,g3,g4⟩:=Wo (w:=w) hb (e:=u') (k:=P.cellsOf e) (b:=b) (off:=off) (elems.map (·.1)) 0 fun i d' hd=>by
                  obtain ⟨cs,k1,k2,k3⟩:=key i d' hd;refine ⟨cs,k1,fun j hj=>?_,k3⟩;rw [<-k2 j hj,Nat.zero_add];unfold Addr.add;split<;>split<;>simp_all
                rw [List.length_map,hlen] at g1;refine ⟨l,?_,⟨?_,fun x hx=>g3 x hx⟩,?_,by simpa using one⟩
                · simp only [BP,AZ]
                  refine ⟨_,_,rfl,?_,rfl⟩;simp only [Rel];exact .inr ⟨b,off,cap,hbl,by rw [g1];exact hlc,by rw [g1],by simpa using g2⟩
                · show List.length l<=140737488351232
                  rw [g1,<-hlen];have q1:=hwt.1;have q2:(elems.length+rest.length)*1<=(elems.length+rest.length)*P.bytesOf e:=Nat.mul_le_mul_left _ hsz.2.2;have q3:reachBytes=140737488351232:=rfl;omega
                · simp only [uf];omega
              · cases h
            all_goals (first | cases h | skip)
          · cases hu
        · cases hu
      · rename_i fs hk
        split at hu
        · rename_i ts m hf
          split at hu
          · rename_i hm
            cases hu;simp only [DataW.trod,hk] at h;split at h
            · rename_i hlen
              obtain ⟨xs,hx,h⟩:=Option.map_eq_some_iff.1 h;simp only [Prod.mk.injEq] at h;obtain ⟨rfl,_⟩:=h;obtain ⟨_,x,r,o,wt,c1⟩:=Rn hb (fun t u cs d ps=>ih n t u cs d ps) cs fs.toList 0 ts m xs hf (by omega) hx (by simpa [DataW.weights,hk] using hR);rw [List.drop_zero,Nat.sub_zero,List.take_of_length_le (by omega)] at r c1;exact ⟨x,r,o,Nat.le_trans (Nat.add_le_add_right wt 1) (hb.agg _),c1⟩
            · cases h
          · cases hu
        · cases hu
      · cases hu
end
end Go.Vc
end
section
namespace Go.Vc
open Go.ChangeShapes Go.WideShapes Go.ChangeAt Go.RowKit
section
variable {H : Type} {enc : TypeId × Value -> H} {P : Program} {w : World} {bulk : DataW H -> Nat} {all : List (DataW H) -> Nat}
theorem nX (hb:gD bulk all) {n:Nat} {t:TypeId} {u:Ty} {v:Value} {d:DataW H} {ps:List MemPlace} {spare:Nat->Bool} {held:Bool} (hu:ba P n t=some u) (hv:Value.okWide P w .any 0 t v)
    (hR: ∀x∈d.weights P t,x<=reachBytes) (h:DataW.Trod enc P w 0 spare held t v d ps): ∃x:T u,Rel E0 (rb w) w (DV u x) v/\vw u x/\uf u x<=bulk d:=by
  obtain ⟨fuel,hf⟩:=h;obtain ⟨x,h1,h2,h3,h4⟩:=ep hb fuel n t u _ d ps hu hR hf;refine ⟨x,?_,h2,h3⟩;have one:(∀cs,v≠ .agg cs)->v.cells.toList=[v]:=fun hn=>by
    cases v<;>first | rfl | exact absurd rfl (hn _)
  cases n with
  | zero=>simp [ba] at hu
  | succ n=>
    unfold ba at hu;split at hu
    · rename_i k hk
      cases hu;obtain ⟨m,rfl⟩:=okWide_int hk hv;simpa [BP,DV,AZ,Value.cells] using h1
    · rename_i hk
      cases hu;have hn: ∀cs,v≠ .agg cs:=fun cs hc=>by subst hc;simp [Value.okWide,hk,Cell.okWide,Cell.ok] at hv
      rw [one hn] at h1;simpa [BP,DV,AZ] using h1
    · rename_i hk
      cases hu;have hn: ∀cs,v≠ .agg cs:=fun cs hc=>by subst hc;simp [Value.okWide,hk,Cell.okWide,Cell.ok] at hv
      rw [one hn] at h1;simpa [BP,DV,AZ] using h1
    · rename_i e hk
      have hn: ∀cs,v≠ .agg cs:=fun cs hc=>by subst hc;simp [Value.okWide,hk,Cell.okWide,Cell.ok] at hv
      rw [one hn] at h1;split at hu
      · split at hu
        · cases hu
          simpa [BP,DV,AZ] using h1
        · cases hu
      · cases hu
    · rename_i fs hk
      obtain ⟨cs,rfl,_⟩:=okWide_struct hk hv;split at hu
      · split at hu
        · cases hu
          simp only [DV,Rel];exact ⟨cs.toList,by simp,by simpa [BP,Value.cells] using h1,by simpa [Value.cells] using h4⟩
        · cases hu
      · cases hu
    · cases hu
theorem Wn (hb:gD bulk all) {n:Nat} {spare:Nat->Bool} {held:Bool}: ∀(ts:List TypeId) (us:Ky) (vs:List Value) (ds:List (DataW H)) (ps:List MemPlace),fY P n ts=some us->
    (∀(j:Nat) t v,ts[j]?=some t->vs[j]?=some v->Value.okWide P w .any 0 t v)->DataW.TrodAll enc P w 0 spare held ts vs ds ps->(∀x∈DataW.weightsEach P ts ds,x<=reachBytes)->
    ds.length=ts.length/\ ∃x:Ts us,AZ E0 (rb w) w (F5 us x) vs/\eC us x/\ft us x<=all ds
  | [],us,vs,ds,ps,hu,hv,h,hR=>by
    obtain ⟨rfl,rfl,rfl⟩:=trodAll_nil h;simp only [fY,Option.some.injEq] at hu;subst hu;exact ⟨rfl,(),by simp [F5,AZ],trivial,by simp [ft]⟩
  | t::ts,us,vs,ds,ps,hu,hv,h,hR=>by
    obtain ⟨v,vs',d,ds',p,q,rfl,rfl,rfl,h1,h2⟩:=trodAll_cons h;simp only [DataW.weightsEach,List.mem_append] at hR;unfold fY at hu;split at hu
    · rename_i u us' e1 e2
      cases hu;obtain ⟨x,r1,r2,r3⟩:=nX hb e1 (hv 0 t v rfl rfl) (fun x hx=>hR x (.inl hx)) h1;obtain ⟨hl,y,q1,q2,q3⟩:=Wn hb ts us' vs' ds' q e2 (fun j t' v' a b=>hv (j+1) t' v' (by simpa using a) (by simpa using b)) h2 (fun x hx=>hR x (.inr hx));refine ⟨by simp [hl],?_⟩;rw [hb.cons];cases us' with
      | nil=>
        simp only [F5,AZ] at q1;subst q1;exact ⟨x,by simp only [F5,AZ];exact ⟨v,[],rfl,r1,rfl⟩,r2,by simp only [ft];omega⟩
      | cons u2 us2=>
        refine ⟨(x,y),?_,⟨r2,q2⟩,Nat.add_le_add r3 q3⟩;simp only [F5,AZ];exact ⟨v,vs',rfl,r1,q1⟩
    · cases hu
theorem P0 (hl:laidOutB P=true) {W':World} {sp:Nat->Bool}: ∀(ts:List TypeId) (vs:List Value) (ds:List (DataW H)) (ps:List MemPlace),(∀t∈ts,P.readableRec t=true/\t<P.types.size)->
    DataW.TrodAll enc P w 0 (fun _=>true) true ts vs ds ps->(∀p∈ps,w.sameAt W' p)->(∀p∈ps,sp p.block=true)->DataW.TrodAll enc P W' 0 sp true ts vs ds ps
  | [],vs,ds,ps,_,h,_,_=>by
    obtain ⟨rfl,rfl,rfl⟩:=trodAll_nil h;exact trodAll_mk0
  | t::ts,vs,ds,ps,ht,h,hs,hp=>by
    obtain ⟨v,vs',d,ds',p,q,rfl,rfl,rfl,h1,h2⟩:=trodAll_cons h;exact ⟨p,q,WideElems.Trod_stays hl (ht t (by simp)).1 (ht t (by simp)).2 h1 (fun x hx=>hs x (by simp [hx])) (fun x hx=>hp x (by simp [hx])),
      P0 hl ts vs' ds' q (fun t' h'=>ht t' (by simp [h'])) h2 (fun x hx=>hs x (by simp [hx])) (fun x hx=>hp x (by simp [hx])),rfl⟩
theorem Xm {f:Func} {s:ChangeSpec} {apart fresh handsOn again:Bool} {W W':World} {args:Array Value} {ds:List (DataW H)} {before:List MemPlace} (hl:laidOutB P=true)
    (hpar: ∀t∈f.params.toList,P.readableRec t=true/\t<P.types.size) (hsv:s.vars=[])
    (hW:DataW.Whole enc P f.params.toList s.vars apart W args.toList ds [] before) (hsp:s.fn H ds={results:=[.lit (.bool true)],args:=ds}) {tb:TypeId} (hrt:f.resultTypes= #[tb]) (htb:P.underlying tb=some .bool)
    (hb:Below W.heap.size W W'):s.post enc P f apart fresh handsOn again W args (.bool true) W':=by
  have hlt:=hW.lt;obtain ⟨p,q,hA,hV,rfl,hfz,hnd⟩:=hW;have hV0:=hV;rw [hsv] at hV;obtain ⟨_,rfl⟩:=trodVars_none hV;have same: ∀x∈p,W.sameAt W' x:=fun x hx=>hb.same (hlt x (by simp [hx]));have hargs: ∀sp:Nat->Bool,(∀x∈p,sp x.block=true)->DataW.TrodAll enc P W' 0 sp true f.params.toList args.toList ds p:=fun sp hs=>P0 hl _ _ _ _ hpar hA same hs;have hres: ∀(b:Nat) (sp:Nat->Bool) (hd:Bool),DataW.TrodAll enc P W' b sp hd f.resultTypes.toList ((Value.bool true).resultList f.resultTypes.size) [DataW.lit (.bool true)] []:=fun b sp hd=>by
    rw [hrt];exact trodAll_mk1 (shut_bool htb _)
  refine ⟨ds,[],p++[],[],p,[],⟨p,[],hA,hV0,rfl,hfz,hnd⟩,?_,?_,?_,?_,fun _=>?_⟩
  · rw [List.append_nil,hsp];exact hres _ _ _
  · rw [List.append_nil,hsp];exact hargs _ fun x hx=>by simpa using hlt x (by simp [hx])
  · rw [List.append_nil,hsp,hsv];exact rfl
  · exact World.keptBut_mono (fun x hx=>by simpa using hx) (hb.frame (· ∈p++[]))
  · refine ⟨?_,[.lit (.bool true)]++ds,[],p++[],⟨p,[],?_,?_,rfl,?_,?_⟩,fun x hx _=>hx⟩
    · exact ok_one hrt rfl (okWide_bool_mk htb _)
    · have:=trodAll_append (hargs (fun _=>true) fun _ _=>rfl) (hres 0 (fun _=>true) true)
      simpa using this
    · rw [hsv];exact rfl
    · intro b off hp
      have:=hb.frozen (p:=⟨b,off,none⟩) (hlt _ hp);rw [this];exact hfz b off hp
    · exact hnd
theorem aN {fn:Func} {f:FuncId} {s:ChangeSpec} {tb:TypeId} {us:Ky} {n:Nat} {par:Array TypeId} (FL:fn.params=par) (hb:gD bulk all) (hl:laidOutB P=true) (hpar: ∀t∈par.toList,P.readableRec t=true/\t<P.types.size) (hsv:s.vars=[])
    (hsp: ∀ds:List (DataW H),ds.length=par.toList.length->s.fn H ds={results:=[.lit (.bool true)],args:=ds}) (hrt:fn.resultTypes= #[tb]) (htb:P.underlying tb=some .bool) (hu:fY P n par.toList=some us)
    {args:Array Value} {ds gs:List (DataW H)} {before:List MemPlace} {W:World} {apart fresh handsOn again:Bool}
    (law: ∀x:Ts us,eC us x->ft us x<=all (ds++gs)->DC P f=true/\AV P f (F5 us x) [] (fun r _=>r= .bool true))
    (hval: ∀(j:Nat) t v,fn.params[j]?=some t->args[j]?=some v->Value.okWide P W .any 0 t v)
    (hW:DataW.Whole enc P fn.params.toList s.vars apart W args.toList ds gs before) (hz:(DataW.weightsEach P (fn.params.toList++s.plain.varTypes P) (ds++gs)).all (· <=reachBytes)=true):
    Calls P f args W fun e W'=> ∃v,e= .returned v/\s.post enc P fn apart fresh handsOn again W args v W':=by
  subst FL;have hW0:=hW;obtain ⟨p,q,hA,hV,_,_,_⟩:=hW;rw [hsv] at hV;obtain ⟨rfl,_⟩:=trodVars_none hV;have hR: ∀x∈DataW.weightsEach P fn.params.toList ds,x<=reachBytes:=by
    have mono: ∀(ts us:List TypeId) (ds es:List (DataW H)),∀x∈DataW.weightsEach P ts ds,ts.length=ds.length->x∈DataW.weightsEach P (ts++us) (ds++es):=by
      intro ts
      induction ts with
      | nil=>intro us ds es x hx _;cases ds<;>simp [DataW.weightsEach] at hx
      | cons t ts ih=>
        intro us ds es x hx hl;cases ds with
        | nil=>simp [DataW.weightsEach] at hx
        | cons d ds=>
          simp only [DataW.weightsEach,List.mem_append,List.cons_append] at hx |-;rcases hx with hx | hx
          · exact .inl hx
          · exact .inr (ih us ds es x hx (by simpa using hl))
    have hl:fn.params.toList.length=ds.length:=by
      have: ∀(ts:List TypeId) (vs:List Value) (ds:List (DataW H)) (ps:List MemPlace),DataW.TrodAll enc P W 0 (fun _=>true) true ts vs ds ps->ts.length=ds.length:=by
        intro ts
        induction ts with
        | nil=>intro vs ds ps h;obtain ⟨_,rfl,_⟩:=trodAll_nil h;rfl
        | cons t ts ih=>
          intro vs ds ps h;obtain ⟨v,vs',d,ds',p,q,_,rfl,_,_,h2⟩:=trodAll_cons h;simp [ih _ _ _ h2]
      exact this _ _ _ _ hA
    intro x hx;have:=List.all_eq_true.1 hz x (mono _ _ _ _ x hx hl);simpa using this
  obtain ⟨hlen,x,h1,h2,h3⟩:=Wn hb _ us _ ds p hu (fun j t v a b=>hval j t v (by simpa using a) (by simpa using b)) hA hR;have st0:St E0 (rb W) [] W:=⟨fun l o h=>by simp at h,fun l l' b ⟨o,h,_⟩=>by simp at h,fun b h=>h,0,fun _ _=>rfl⟩
  have c0:=law x h2 (by rw [List.append_nil];exact h3);have c:=(c0.2.out E0 (rb W) W args.toList st0 h1).calls c0.1;rw [show args.toList.toArray=args by simp] at c;refine c.mono fun e W' ⟨r,S',v,E',fz',e1,e2,e3,e4,e5⟩=>?_;subst e5;simp only [Rel] at e4;subst e4;refine ⟨_,e1,Xm hl hpar hsv hW0 (hsp ds (by simpa using hlen)) hrt htb ⟨e2.os,e2.tape.1,e2.output,e2.size,fun k hk=>e2.AW k hk fun ⟨l,o,h,_⟩=>by simp at h⟩⟩
end
end Go.Vc
end
section
namespace Go.Vc
theorem FJ: ∀(n:Nat) (xs:List AA),n<=xs.length->takeN n xs=some (xs.take n)
  | 0,_,_=>by simp [takeN]
  | n+1,[],h=>by simp at h
  | n+1,x::xs,h=>by simp [takeN,FJ n xs (by simpa using h)]
theorem BO {α:Type} {enc:α->List AA} {k:Nat} (hk: ∀x,(enc x).length=k) (l:List α):(l.flatMap enc).length=l.length*k:=by
  induction l with
  | nil=>simp
  | cons x l ih=>simp [List.flatMap_cons,hk,ih,Nat.add_mul,Nat.add_comm]
theorem SU {α:Type} {enc:α->List AA} {k:Nat} (hk: ∀x,(enc x).length=k): ∀(l:List α) (j:Nat),(l.flatMap enc).drop (j*k)=(l.drop j).flatMap enc
  | l,0=>by simp
  | [],j+1=>by simp
  | x::l,j+1=>by
    rw [List.flatMap_cons,List.drop_succ_cons,<-SU hk l j,Nat.add_mul,Nat.one_mul,Nat.add_comm,<-List.drop_drop];rw [List.drop_left' (hk x)]
theorem ZQ {α:Type} {enc:α->List AA} {k:Nat} (hk: ∀x,(enc x).length=k) {l:List α} {j:Nat} (hj:j<l.length) (fo n:Nat) (h:fo+n<=k):
    takeN n ((l.flatMap enc).drop (j*k+fo))=some (((enc l[j]).drop fo).take n):=by
  rw [<-List.drop_drop,SU hk,List.drop_eq_getElem_cons hj,List.flatMap_cons,List.drop_append_of_le_length (by rw [hk];omega),FJ _ _ (by simp [hk];omega),List.take_append_of_le_length (by simp [hk];omega)]
theorem jf {α:Type} {enc:α->List AA} {k:Nat} (hk: ∀x,(enc x).length=k) {l:List α} {j:Nat} (hj:j<l.length):
    takeN k ((l.flatMap enc).drop (j*k))=some (enc l[j]):=by
  have:=ZQ hk hj 0 k (by omega);rw [Nat.add_zero] at this;rw [this,List.drop_zero,List.take_of_length_le (by rw [hk];omega)]
end Go.Vc
end
end
