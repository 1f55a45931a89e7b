/- Part of the proof of crewPlacesUpto_holds: the whole is true of every input. Conditions: none. -/
import Derived.Test.YtpbbahplbgmbcaaR3
import Derived.Orders
import Derived.Deep.LoopGhost
import Derived.ProofKit
import Derived.Below
import Derived.Carry
import Derived.JoinedCond
set_option linter.all false
section
section
namespace Go.Vc
def reach (ops:Array Oper):Nat→Nat→Nat→Bool
  | 0,_,_=>false
  | f+1,j,i=>match ops[j]? with
    | none=>false
    | some o=>(o.after.any fun e=>Region.binds .any e && e.on == i) || (o.after.any fun e=>Region.binds .any e && decide (i<e.on) && reach ops f e.on i)
def GOp.names (g:GOp):List Nat:=g.dst.toList++g.op.slots++(match g.guard with | some (s,_)=>[s] | none=>[])
def hazard (g h:GOp):Bool:=(match g.dst with | some d=>h.names.contains d | none=>false) || (match h.dst with | some d=>g.names.contains d | none=>false)
def SOp.free:SOp→Bool
  | .mov _ | .pick _ _ _ | .build _ _ | .nilchk _ | .bin _ _ _ _ | .strid _ | .not _ | .neg _ | .conv _ _ | .faddr _ _ | .field _ _ _ _ | .index _ _ _ _ _ | .len _ _
  | .min _ | .max _ | .mkfunc _ _ _ | .extract _ _ | .ext _ _ | .slice 0 _ _ _ | .mkif _ _ | .rcall _ _=>true
  | .bslice ro _ _ _ _=>ro
  | _=>false
def SOp.isCall:SOp→Bool
  | .call _ _ | .callv _ _=>true
  | _=>false
def SOp.isNew:SOp→Bool
  | .newnil _ | .alloc _ _ | .box _ _ | .mkslice _ _ _ _ _ | .s2b _ | .mkmap | .mrange _=>true
  | .bslice ro _ _ _ _=> !ro
  | _=>false
def SOp.isLoad:SOp→Bool
  | .load _ _ _=>true
  | _=>false
def passLoad (g h:GOp):Bool:=match g.op,g.dst with
  | .load n ag (.t r),some t=>g.guard.isNone && !g.isG && t != r && h.chk.any fun k=>k.1 == t && k.2.1 == n && k.2.2.1 == ag && (match k.2.2.2 with | .t s=>s == r | _=>false)
  | _,_=>false
def SOp.resD:SOp→Option Nat
  | .mkres d _ _ _ _ _=>some d
  | .alres d _ _=>some d
  | .mapres d=>some d
  | .calres d _ _ _ _=>some d
  | .clres d _ _ _=>some d
  | _=>none
def SOp.isCl:SOp→Bool
  | .clres _ _ _ _=>true
  | _=>false
def SOp.isLook:SOp→Bool
  | .load _ _ _ | .mlook _ _ _ _ _=>true
  | _=>false
def mayPass (qa qb:Bool) (g h:GOp):Bool:= !hazard g h && (g.op.free || (g.op.quiet && (qa || !g.op.isCall) && (h.op.isNew || (h.op.quiet && (qb || !h.op.isCall)))) || (match g.op.resD,h.op.resD with
    | some d,some d'=>d != d' && g.guard.isNone && h.guard.isNone && !g.isG && !h.isG && !h.op.isCl
    | _,_=>false) || (g.op.isLook && h.op.resD.isSome && g.guard.isNone && h.guard.isNone && !g.isG && !h.isG && !h.op.isCl))
def mayPass2 (qa qb:Bool) (g h:GOp):Bool:=g.chk.isEmpty && ((mayPass qa qb g h && (h.chk.isEmpty || (g.op.quiet && (qa || !g.op.isCall)))) || (!hazard g h && passLoad g h))
def overB (d:Option Nat) (l:List Nat):Bool:=match d with | some d=>l.contains d | none=>false
def permG (π:List Nat) (gl:List GOp):List GOp:=π.map fun i=>gl.getD i default
def unperm (π:List Nat) (l:List GOp):List GOp:=(List.range π.length).map fun i=>l.getD (π.findIdx fun j=>j == i) default
def numG (gl:List GOp):Nat→List Nat→List (Nat×Bool×GOp)
  | _,[]=>[]
  | m,i::π=>(i,decide (0<m),gl.getD i default)::numG gl (m-1) π
def okPair (ops:Array Oper) (nc:Bool) (x y:Nat×Bool×GOp):Bool:=(reach ops ops.size y.1 x.1 || mayPass2 x.2.1 y.2.1 x.2.2 y.2.2) && (nc || !x.2.2.op.isLoad || !overB y.2.2.dst x.2.2.names)
def allPairs (ops:Array Oper) (nc:Bool):List (Nat×Bool×GOp)→Bool
  | []=>true
  | x::l=>(l.all fun y=>okPair ops nc x y) && allPairs ops nc l
def noChk (gl:List GOp):Bool:=gl.all fun g=>g.chk.isEmpty
def nodupB:List Nat→Bool
  | []=>true
  | a::l=> !l.contains a && nodupB l
def drawOk (ops:Array Oper) (m:Nat) (π:List Nat) (gl:List GOp):Bool:=
  nodupB π && (π.all fun i=>decide (i<ops.size)) && ((List.range ops.size).all fun i=>π.contains i) &&
  ((List.range ops.size).all fun j=>(match ops[j]? with | some o=>o.after.all fun e=> !Region.binds .any e || decide (e.on<j) | none=>true)) &&
  allPairs ops (noChk gl) (numG gl m π) && noChk ((permG π gl).take m)
section
variable {P : Program} {N : Nat}
theorem cOps_get {ops:Array Oper}: ∀ {l:List Oper} {hint gl:List GOp},cOps P N ops l hint=some gl→l.length=gl.length∧ ∀(i:Nat) o,l[i]?=some o→ ∃g hh,gl[i]?=some g∧copT P (roOf hh) hh.op o.type o.op=g.op∧cGuard ops o.guard=some g.guard∧g.dst=o.dst∧dstOk N o.dst=true
  | [],hint,gl,h=>by
    cases hint<;>simp only [cOps] at h<;>cases h
    simp
  | o::l,[],gl,h=>by simp only [cOps] at h;cases h
  | o::l,g::hint,gl,h=>by
    simp only [cOps] at h
    split at h
    case h_2=>cases h
    rename_i gd rest hgd hrest
    split at h
    case isFalse=>cases h
    rename_i hdst
    cases h
    obtain ⟨h1,h2⟩:=cOps_get hrest
    refine ⟨by simp [h1],fun i o' hi=>?_⟩
    cases i with
    | zero=>simp at hi;subst hi;exact ⟨_,g,rfl,rfl,hgd,rfl,hdst⟩
    | succ i=>simpa using h2 i o' (by simpa using hi)
def Closed (ops:Array Oper) (D:Array Bool):Prop:= ∀j o,ops[j]?=some o→D.getD j false=true→ ∀e∈o.after,Region.binds .any e=true→D.getD e.on false=true
theorem reach_listed {ops:Array Oper} {D:Array Bool} (hc:Closed ops D): ∀ {f j i:Nat} {o:Oper},ops[j]?=some o→(∀e∈o.after,Region.binds .any e=true→D.getD e.on false=true)→reach ops f j i=true→D.getD i false=true
  | 0,j,i,o,_,_,h=>by simp [reach] at h
  | f+1,j,i,o,hj,ha,h=>by
    simp only [reach,hj,Array.any_eq_true',Bool.and_eq_true,Bool.or_eq_true,beq_iff_eq] at h
    rcases h with ⟨e,he,hb,h⟩ | ⟨e,he,⟨hb,_⟩,h⟩
    · rw [←h];exact ha e he hb
    · have hl:=ha e he hb
      cases ho:ops[e.on]? with
      | none=>
        cases f with
        | zero=>simp [reach] at h
        | succ f=>simp [reach,ho] at h
      | some o'=>exact reach_listed hc ho (fun e' he' hb'=>hc _ _ ho hl e' he' hb') h
theorem putF_get (F:Frame) (d:Option Nat) (x:AVal) (t:Nat):(putF F d x).get t=if d=some t then x else F.get t:=by
  cases d with
  | none=>simp [putF]
  | some d=>
    simp only [putF,Frame.get]
    cases h:Nat.beq d t with
    | true=>rw [if_pos (by rw [Nat.eq_of_beq_eq_true h])]
    | false=>rw [if_neg (fun e=>Nat.ne_of_beq_eq_false h (by simpa using e))]
theorem op_congr {F F':Frame} {S:Store} {K:AVal→Store→Prop} {so:SOp} (hs: ∀t∈so.slots,F.get t=F'.get t) (h:vcOp P F S K so):vcOp P F' S K so:=by
  by_cases hq:so.quiet=true
  · exact vcOp_congr hq hs h
  · cases so<;>simp only [SOp.quiet,not_true_eq_false] at hq
    case newnil k=>exact h
    case mkmap=>exact h
    case mrange x=>simp only [vcOp,rdK_iff] at h ⊢;rw [←rd_congr hs];exact h
    case mnext x=>simp only [vcOp,rdK_iff] at h ⊢;rw [←rd_congr hs];exact h
    case mentry x=>simp only [vcOp,rdK_iff] at h ⊢;rw [←rd_congr hs];exact h
    case mupd q m k x=>
      simp only [SOp.slots,List.mem_append] at hs
      simp only [vcOp,rdK_iff] at h ⊢
      rw [←rd_congr (x:=m) fun t ht=>hs t (.inl (.inl ht)),←rd_congr (x:=k) fun t ht=>hs t (.inl (.inr ht)),←rd_congr (x:=x) fun t ht=>hs t (.inr ht)];exact h
    case ment q z m k=>
      simp only [SOp.slots,List.mem_append] at hs
      simp only [vcOp,rdK_iff] at h ⊢
      rw [←rd_congr (x:=m) fun t ht=>hs t (.inl ht),←rd_congr (x:=k) fun t ht=>hs t (.inr ht)];exact h
    case mset m i x=>
      simp only [SOp.slots,List.mem_append] at hs
      simp only [vcOp,rdK_iff] at h ⊢
      rw [←rd_congr (x:=m) fun t ht=>hs t (.inl (.inl ht)),←rd_congr (x:=i) fun t ht=>hs t (.inl (.inr ht)),←rd_congr (x:=x) fun t ht=>hs t (.inr ht)];exact h
    case alloc k z=>exact h
    case box k x=>simp only [vcOp,rdK_iff] at h ⊢;rw [←rd_congr hs];exact h
    case bslice ro len k z ps=>exact wFill_congr hs h
    case store n x v=>
      simp only [SOp.slots,List.mem_append] at hs
      simp only [vcOp,rdK_iff] at h ⊢
      rw [←rd_congr (x:=x) fun t ht=>hs t (.inl ht),←rd_congr (x:=v) fun t ht=>hs t (.inr ht)];exact h
    case mkslice k b z x y=>
      simp only [SOp.slots,List.mem_append] at hs
      simp only [vcOp,rdK_iff] at h ⊢
      rw [←rd_congr (x:=x) fun t ht=>hs t (.inl ht),←rd_congr (x:=y) fun t ht=>hs t (.inr ht)];exact h
    case append k b x y=>
      simp only [SOp.slots,List.mem_append] at hs
      simp only [vcOp,rdK_iff] at h ⊢
      rw [←rd_congr (x:=x) fun t ht=>hs t (.inl ht),←rd_congr (x:=y) fun t ht=>hs t (.inr ht)];exact h
    case appk k b x y=>
      simp only [SOp.slots,List.mem_append] at hs
      simp only [vcOp,rdK_iff] at h ⊢
      rw [←rd_congr (x:=x) fun t ht=>hs t (.inl ht),←rd_congr (x:=y) fun t ht=>hs t (.inr ht)];exact h
    case bad=>exact h
    case isnil neg x=>simp only [vcOp,rdK_iff] at h ⊢;rw [←rd_congr hs];exact h
    case peq neg x y=>
      simp only [SOp.slots,List.mem_append] at hs
      simp only [vcOp,rdK_iff] at h ⊢
      rw [←rd_congr (x:=x) fun t ht=>hs t (.inl ht),←rd_congr (x:=y) fun t ht=>hs t (.inr ht)];exact h
    case aslice n x=>simp only [vcOp,rdK_iff] at h ⊢;rw [←rd_congr hs];exact h
    case clear k z x=>simp only [vcOp,rdK_iff] at h ⊢;rw [←rd_congr hs];exact h
    case s2b x=>simp only [vcOp,rdK_iff] at h ⊢;rw [←rd_congr hs];exact h
    case mark x=>simp only [vcOp,rdK_iff] at h ⊢;rw [←rd_congr hs];exact h
    case alres d k z=>exact h
    case mapres d=>exact h
    case calres d k f xs zs=>
      simp only [SOp.slots,List.mem_append] at hs
      simp only [vcOp,rdsK_iff] at h ⊢
      rw [←rds_congr (xs:=xs) fun t ht=>hs t (.inl ht),←rds_congr (xs:=zs) fun t ht=>hs t (.inr ht)];exact h
    case clres d k f xs=>simp only [vcOp,rdsK_iff] at h ⊢;rw [←rds_congr (xs:=xs) hs];exact h
    case mkres d k b z x y=>
      simp only [SOp.slots,List.mem_append] at hs
      simp only [vcOp,rdK_iff] at h ⊢
      rw [←rd_congr (x:=x) fun t ht=>hs t (.inl ht),←rd_congr (x:=y) fun t ht=>hs t (.inr ht)];exact h
def vcO (P:Program) (q:Bool) (F:Frame) (S:Store) (K:AVal→Store→Prop) (so:SOp):Prop:=match q with | true=>vcOpD P F S K so | false=>vcOp P F S K so
theorem vcOpD_of {F:Frame} {S:Store} {K:AVal→Store→Prop} {so:SOp} (h:so.isCall=false):vcOpD P F S K so=vcOp P F S K so:=by
  cases so<;>first | rfl | cases h
theorem vcO_of {F:Frame} {S:Store} {K:AVal→Store→Prop} {so:SOp} {q:Bool} (h:so.isCall=false):vcO P q F S K so=vcOp P F S K so:=by
  cases q
  · rfl
  · exact vcOpD_of h
theorem vcOpD_op {F:Frame} {S:Store} {K:AVal→Store→Prop} {so:SOp} (h:vcOpD P F S K so):vcOp P F S K so:=by
  by_cases hc:so.isCall=true
  · have hq:so.quiet=true:=by cases so<;>simp only [SOp.isCall] at hc<;>first | rfl | cases hc
    obtain ⟨x,h1,h2⟩:=quiet_det hq h
    exact h2 K h1
  · rwa [vcOpD_of (by simpa using hc)] at h
theorem vcO_op {F:Frame} {S:Store} {K:AVal→Store→Prop} {so:SOp} {q:Bool} (h:vcO P q F S K so):vcOp P F S K so:=by
  cases q
  · exact h
  · exact vcOpD_op h
theorem vcO_congr {F F':Frame} {S:Store} {K:AVal→Store→Prop} {so:SOp} {q:Bool} (hs: ∀t∈so.slots,F.get t=F'.get t) (h:vcO P q F S K so):vcO P q F' S K so:=by
  cases q
  · exact op_congr hs h
  · by_cases hc:so.isCall=true
    · cases so<;>simp only [SOp.isCall] at hc<;>first | (cases hc;done) | skip
      case call f xs=>simp only [vcO,vcOpD,rdsK_iff] at h ⊢;rw [←rds_congr (xs:=xs) hs];exact h
      case callv x xs=>
        simp only [SOp.slots,List.mem_append] at hs
        simp only [vcO,vcOpD,rdK_iff,rdsK_iff] at h ⊢
        rw [←rd_congr (x:=x) fun t ht=>hs t (.inl ht),←rds_congr (xs:=xs) fun t ht=>hs t (.inr ht)];exact h
    · have hc:so.isCall=false:=by simpa using hc
      rw [vcO_of hc] at h ⊢
      exact op_congr hs h
theorem quietO {F:Frame} {S:Store} {K:AVal→Store→Prop} {so:SOp} {q:Bool} (hq:so.quiet=true) (hc:q=true∨so.isCall=false) (h:vcO P q F S K so):
    ∃x,K x S∧ ∀(F':Frame) (K':AVal→Store→Prop),(∀t∈so.slots,F.get t=F'.get t)→K' x S→vcO P q F' S K' so:=by
  by_cases hcl:so.isCall=true
  · rcases hc with rfl | hc
    · cases so<;>simp only [SOp.isCall] at hcl<;>first | (cases hcl;done) | skip
      case call f xs=>
        simp only [vcO,vcOpD,rdsK_iff] at h
        obtain ⟨r0,h1,h2⟩:=h
        refine ⟨r0,h2,fun F' K' hs hk=>?_⟩
        simp only [vcO,vcOpD,rdsK_iff]
        rw [←rds_congr (xs:=xs) hs]
        exact ⟨r0,h1,hk⟩
      case callv x xs=>
        simp only [vcO,vcOpD,rdK_iff,rdsK_iff] at h
        generalize hX:rd F x=X at h
        cases X<;>first | exact h.elim | skip
        rename_i f first cap
        cases f<;>first | exact h.elim | skip
        cases first<;>first | exact h.elim | skip
        obtain ⟨hcl,r0,h1,h2⟩:=h
        refine ⟨r0,h2,fun F' K' hs hk=>?_⟩
        simp only [SOp.slots,List.mem_append] at hs
        simp only [vcO,vcOpD,rdK_iff,rdsK_iff]
        rw [←rd_congr (x:=x) fun t ht=>hs t (.inl ht),←rds_congr (xs:=xs) fun t ht=>hs t (.inr ht),hX]
        exact ⟨hcl,r0,h1,hk⟩
    · rw [hcl] at hc;cases hc
  · have hcl:so.isCall=false:=by simpa using hcl
    rw [vcO_of hcl,←vcOpD_of hcl] at h
    obtain ⟨x,h1,h2⟩:=quiet_det hq h
    exact ⟨x,h1,fun F' K' hs hk=>vcO_congr hs (by rw [vcO_of hcl];exact h2 K' hk)⟩
theorem free_quiet {so:SOp} (h:so.free=true):so.quiet=true∧so.isCall=false:=by
  cases so<;>simp only [SOp.free] at h<;>first | (cases h;done) | exact ⟨rfl,rfl⟩ | exact ⟨h,rfl⟩
theorem free_store {F:Frame} {S S':Store} {K:AVal→Store→Prop} {so:SOp} (hf:so.free=true) (h:vcOp P F S K so):vcOp P F S' (fun x _=>K x S) so:=by
  cases so<;>simp only [SOp.free] at hf<;>first | (cases hf;done) | exact h | skip
  case bslice ro len k z ps=>subst hf;exact h
  case slice k x lo hi=>
    cases k with
    | zero=>exact h
    | succ k=>cases hf
theorem freeO {F:Frame} {S:Store} {K:AVal→Store→Prop} {so:SOp} {q:Bool} (hf:so.free=true) (h:vcO P q F S K so):
    ∃x,K x S∧ ∀(F':Frame) (S':Store) (K':AVal→Store→Prop),(∀t∈so.slots,F.get t=F'.get t)→K' x S'→vcO P q F' S' K' so:=by
  obtain ⟨hq,hc⟩:=free_quiet hf
  obtain ⟨x,h1,h2⟩:=quietO hq (.inr hc) h
  refine ⟨x,h1,fun F' S' K' hs hk=>?_⟩
  have g:=h2 F' (fun z _=>z=x) hs rfl
  rw [vcO_of hc] at g
  have g':=free_store (S':=S') hf g
  rw [←vcOpD_of hc] at g'
  obtain ⟨y,g1,g2⟩:=quiet_det hq g'
  rw [vcO_of hc]
  refine g2 K' ?_
  have e:y=x:=g1
  rw [e];exact hk
theorem wCells_mono {x:AVal} {K K':List AVal→Prop} (h:wCells x K) (hk: ∀c,K c→K' c):wCells x K':=by
  cases x<;>simp only [wCells] at h ⊢ <;>first | exact h.elim | exact hk _ h
theorem wFill_mono {F:Frame} {K K':List AVal→Prop} {ps:List (Nat×Nat×Rand)} {cs:List AVal} (h:wFill F cs K ps) (hk: ∀c,K c→K' c):wFill F cs K' ps:=by
  obtain ⟨x,h1,h2⟩:=det_fill _ h
  exact h2 _ (hk _ h1)
theorem wSrc_mono {S:Store} {k:Nat} {x:AVal} {K K':Nat→List AVal→Prop} (h:wSrc S k x K) (hk: ∀n c,K n c→K' n c):wSrc S k x K':=by
  cases x<;>simp only [wSrc] at h ⊢ <;>first | exact h.elim | exact hk _ _ h | exact ⟨h.1,hk _ _ h.2⟩ | skip
  obtain ⟨k',cs,h1,h2,h3⟩:=wRow_iff.1 h
  exact wRow_iff.2 ⟨k',cs,h1,h2,hk _ _ h3⟩
theorem call_quiet {so:SOp} (h:so.isCall=true):so.quiet=true:=by
  cases so<;>simp only [SOp.isCall] at h<;>first | rfl | cases h
theorem op_mono {F:Frame} {S:Store} {K K':AVal→Store→Prop} {so:SOp} (hc:so.isCall=false) (h:vcOp P F S K so) (hk: ∀x S',K x S'→K' x S'):vcOp P F S K' so:=by
  by_cases hq:so.quiet=true
  · rw [←vcO_of (q:=false) hc] at h
    obtain ⟨x,h1,h2⟩:=quietO hq (.inr hc) h
    exact h2 F K' (fun _ _=>rfl) (hk _ _ h1)
  · cases so<;>simp only [SOp.quiet,not_true_eq_false] at hq
    case newnil k=>simp only [vcOp,wPush_iff] at h ⊢;exact fun v=>hk _ _ (h v)
    case mkmap=>simp only [vcOp,wPush_iff] at h ⊢;exact fun v=>hk _ _ (h v)
    case mrange x=>
      simp only [vcOp,rdK_iff] at h ⊢
      generalize rd F x=X at*
      cases X<;>first | exact h.elim | skip
      obtain ⟨es,h1,h2⟩:=wMap_iff.1 h
      simp only [wPush_iff] at h2
      refine wMap_iff.2 ⟨es,h1,?_⟩
      simp only [wPush_iff]
      exact fun v=>hk _ _ (h2 v)
    case mnext x=>
      simp only [vcOp,rdK_iff] at h ⊢
      generalize rd F x=X at*
      cases X<;>first | exact h.elim | skip
      rename_i l v off
      cases off<;>first | exact h.elim | skip
      obtain ⟨mv,since,last,seen,h1,lm,es,h2,h3,h4,h5⟩:=wIter_iff.1 h
      refine wIter_iff.2 ⟨mv,since,last,seen,h1,lm,es,h2,h3,fun q=>hk _ _ (h4 q),fun i e q1 q2=>?_⟩
      have:=h5 i e q1 q2
      rw [wSet_iff] at this ⊢
      exact ⟨this.1,hk _ _ this.2⟩
    case mentry x=>
      simp only [vcOp,rdK_iff] at h ⊢
      generalize rd F x=X at*
      cases X<;>first | exact h.elim | skip
      rename_i l v off
      cases off<;>first | exact h.elim | skip
      obtain ⟨mv,since,last,seen,h1,lm,es,i,e,h2,h3,h4,h5,h6⟩:=wIter_iff.1 h
      exact wIter_iff.2 ⟨mv,since,last,seen,h1,lm,es,i,e,h2,h3,h4,h5,hk _ _ h6⟩
    case mupd q m k x=>
      simp only [vcOp,rdK_iff] at h ⊢
      generalize rd F m=X at*
      refine ⟨h.1,?_⟩
      have h:=h.2
      cases X<;>first | exact h.elim | skip
      obtain ⟨es,h1,h2,h3⟩:=wMap_iff.1 h
      rw [wSet_iff] at h3
      exact wMap_iff.2 ⟨es,h1,h2,wSet_iff.2 ⟨h3.1,hk _ _ h3.2⟩⟩
    case ment q z m k=>
      simp only [vcOp,rdK_iff] at h ⊢
      generalize rd F m=X at*
      refine ⟨h.1,?_⟩
      have h:=h.2
      cases X<;>first | exact h.elim | skip
      obtain ⟨es,h1,h2,h3⟩:=wMap_iff.1 h
      refine wMap_iff.2 ⟨es,h1,h2,?_⟩
      split at h3<;>rw [wSet_iff] at h3<;>exact wSet_iff.2 ⟨h3.1,hk _ _ h3.2⟩
    case mset m i x=>
      simp only [vcOp,rdK_iff] at h ⊢
      obtain ⟨kk,j,e,h⟩:=wIdx_iff h
      rw [e]
      refine ⟨j,rfl,?_⟩
      generalize rd F m=X at*
      cases X<;>first | exact h.elim | skip
      obtain ⟨es,h1,h2⟩:=wMap_iff.1 h
      refine wMap_iff.2 ⟨es,h1,?_⟩
      split at h2
      · rename_i e0 he
        rw [wSet_iff] at h2
        exact wSet_iff.2 ⟨h2.1,hk _ _ h2.2⟩
      · exact h2.elim
    case alloc k z=>simp only [vcOp,wPush_iff] at h ⊢;exact fun v=>hk _ _ (h v)
    case box k x=>
      simp only [vcOp,wPush_iff,rdK_iff] at h ⊢
      exact wCells_mono h fun c h v=>hk _ _ (h v)
    case bslice ro len k z ps=>
      cases ro
      · simp only [vcOp,wPush_iff] at h ⊢
        exact wFill_mono h fun c h v=>hk _ _ (h v)
      · exact absurd rfl hq
    case store n x v=>
      simp only [vcOp,rdK_iff] at h ⊢
      generalize rd F x=X at*
      cases X<;>first | exact h.elim | skip
      obtain ⟨k,cs,h1,h2⟩:=wRow_iff.1 h
      refine wRow_iff.2 ⟨k,cs,h1,wCells_mono h2 fun c h=>⟨h.1,h.2.1,?_⟩⟩
      have h3:=h.2.2
      rw [setRowK_iff,wSet_iff] at h3 ⊢
      exact ⟨h3.1,hk _ _ h3.2⟩
    case mkslice k b z x y=>
      simp only [vcOp,wPush_iff,rdK_iff] at h ⊢
      obtain ⟨kk,j,e,h1,h2,h3⟩:=wIdx_iff h
      rw [e] at h1 ⊢
      exact ⟨j,rfl,h1,h2,fun v=>hk _ _ (h3 v)⟩
    case append k b s x=>
      simp only [vcOp,rdK_iff] at h ⊢
      refine wSrc_mono h fun n ys h=>?_
      generalize rd F s=X at*
      cases X<;>first | exact h.elim | skip
      · simp only [wPush_iff] at h ⊢
        exact ⟨h.1,fun v=>hk _ _ (h.2 v)⟩
      · simp only at h ⊢
        obtain ⟨k',cs,h1,h2,h3,h4,h5⟩:=wRow_iff.1 h
        refine wRow_iff.2 ⟨k',cs,h1,h2,h3,h4,fun v=>?_⟩
        have:=h5 v
        rw [wSet_iff] at this ⊢
        exact ⟨this.1,hk _ _ this.2⟩
    case appk k b s x=>
      simp only [vcOp,rdK_iff] at h ⊢
      refine wSrc_mono h fun n ys h=>⟨h.1,?_⟩
      have h:=h.2
      generalize rd F s=X at*
      cases X<;>first | exact h.elim | skip
      · simp only [wPush_iff] at h ⊢
        exact ⟨h.1,fun v=>hk _ _ (h.2 v)⟩
      · simp only at h ⊢
        obtain ⟨k',cs,h1,h2,h3,h4,h5,h6⟩:=wRow_iff.1 h
        simp only [wPush_iff] at h6
        rw [wSet_iff] at h5
        refine wRow_iff.2 ⟨k',cs,h1,h2,h3,h4,wSet_iff.2 ⟨h5.1,hk _ _ h5.2⟩,?_⟩
        simp only [wPush_iff]
        exact fun v=>hk _ _ (h6 v)
    case bad=>exact h
    case mark x=>
      simp only [vcOp,rdK_iff] at h ⊢
      generalize rd F x=X at*
      cases X<;>first | exact h.elim | skip
      obtain ⟨k',cs,h1,h0,h3⟩:=wRow_iff.1 h.2
      exact ⟨h.1,wRow_iff.2 ⟨k',cs,h1,h0,hk _ _ h3⟩⟩
    case s2b x=>
      simp only [vcOp,wPush_iff,rdK_iff] at h ⊢
      generalize rd F x=X at*
      cases X<;>first | exact h.elim | exact fun v=>hk _ _ (h v)
    case isnil neg x=>
      simp only [vcOp,rdK_iff] at h ⊢
      generalize rd F x=X at*
      cases X<;>first | exact h.elim | exact hk _ _ h | exact fun b hb=>hk _ _ (h b hb)
    case aslice n x=>
      simp only [vcOp,rdK_iff] at h ⊢
      generalize rd F x=X at*
      cases X<;>first | exact h.elim | skip
      obtain ⟨k,cs,g1,g2,g3,h⟩:=wRow_iff.1 h
      exact wRow_iff.2 ⟨k,cs,g1,g2,g3,hk _ _ h⟩
    case peq neg x y=>
      simp only [vcOp,rdK_iff] at h ⊢
      generalize rd F x=X at*
      generalize rd F y=Y at*
      cases X<;>cases Y<;>first | exact h.elim | exact hk _ _ h | skip
      obtain ⟨k,cs,g1,g2,h⟩:=wRow_iff.1 h
      obtain ⟨k',cs',g3,g4,h⟩:=wRow_iff.1 h
      exact wRow_iff.2 ⟨k,cs,g1,g2,wRow_iff.2 ⟨k',cs',g3,g4,hk _ _ h⟩⟩
    case clear k z x=>
      simp only [vcOp,rdK_iff] at h ⊢
      generalize rd F x=X at*
      cases X<;>first | exact h.elim | exact hk _ _ h | skip
      simp only at h ⊢
      obtain ⟨k',cs,h1,h2,h3,h4⟩:=wRow_iff.1 h
      rw [wSet_iff] at h4
      exact wRow_iff.2 ⟨k',cs,h1,h2,h3,wSet_iff.2 ⟨h4.1,hk _ _ h4.2⟩⟩
    case mkres d k b z x y=>
      simp only [vcOp,rdK_iff] at h ⊢
      obtain ⟨kk,j,e,h1,h2,h3,h4,h5,h6⟩:=wIdx_iff h
      rw [e] at h1 ⊢
      exact ⟨j,rfl,h1,h2,h3,h4,h5,fun v=>hk _ _ (h6 v)⟩
    case alres d k z=>
      simp only [vcOp] at h ⊢
      exact ⟨h.1,h.2.1,h.2.2.1,fun v=>hk _ _ (h.2.2.2 v)⟩
    case mapres d=>
      simp only [vcOp] at h ⊢
      exact ⟨h.1,h.2.1,h.2.2.1,fun v=>hk _ _ (h.2.2.2 v)⟩
    case calres d k f xs zs=>
      simp only [vcOp,rdsK_iff] at h ⊢
      exact ⟨h.1,h.2.1,h.2.2.1,h.2.2.2.1,fun v=>hk _ _ (h.2.2.2.2 v)⟩
    case clres d k f xs=>
      simp only [vcOp,rdsK_iff] at h ⊢
      obtain ⟨n,cs,h1,h2,h3,h4,h5⟩:=h
      exact ⟨n,cs,h1,h2,h3,h4,fun v=>hk _ _ (h5 v)⟩
theorem vcO_mono {F:Frame} {S:Store} {K K':AVal→Store→Prop} {so:SOp} {q:Bool} (h:vcO P q F S K so) (hk: ∀x S',K x S'→K' x S'):vcO P q F S K' so:=by
  by_cases hc:so.isCall=true
  · cases q
    · cases so<;>simp only [SOp.isCall] at hc<;>first | (cases hc;done) | skip
      case call f xs=>simp only [vcO,vcOp,rdsK_iff] at h ⊢;exact ACallsMono h hk
      case callv x xs=>
        simp only [vcO,vcOp,rdK_iff,rdsK_iff] at h ⊢
        generalize rd F x=X at*
        cases X<;>first | exact h.elim | skip
        rename_i f first cap
        cases f<;>first | exact h.elim | skip
        · cases first<;>first | exact h.elim | skip
          exact ⟨h.1,ACallsMono h.2 hk⟩
        · cases first<;>first | exact h.elim | skip
          cases cap<;>first | exact h.elim | skip
          exact ⟨h.1,YCalls.mono h.2 hk⟩
    · obtain ⟨x,h1,h2⟩:=quietO (call_quiet hc) (.inl rfl) h
      exact h2 F K' (fun _ _=>rfl) (hk _ _ h1)
  · have hc:so.isCall=false:=by simpa using hc
    rw [vcO_of hc] at h ⊢
    exact op_mono hc h hk
def vcG (P:Program) (q:Bool) (o:GOp) (F:Frame) (S:Store) (K:AVal→Store→Prop):Prop:=
  match o.guard with
  | none=>vcO P q F S (fun x S'=>splitG o.isG x fun x=>K x S') o.op
  | some (g,want)=>match F.get g,want with
    | .tt,true=>vcO P q F S (fun x S'=>splitG o.isG x fun x=>K x S') o.op
    | .tt,false=>K (.tup []) S
    | .ff,false=>vcO P q F S (fun x S'=>splitG o.isG x fun x=>K x S') o.op
    | .ff,true=>K (.tup []) S
    | .tup _,_=>K (.tup []) S
    | _,_=>False
def chk1 (F:Frame) (S:Store) (k:Nat×Nat×Bool×Rand):Prop:=wLoad S k.2.1 k.2.2.1 (rd F k.2.2.2) fun r=>r=F.get k.1
def chks (F:Frame) (S:Store) (l:List (Nat×Nat×Bool×Rand)):Prop:= ∀k∈l,chk1 F S k
theorem chk1_congr {F F':Frame} {S:Store} {k:Nat×Nat×Bool×Rand} (hs: ∀t∈k.1::k.2.2.2.slots,F.get t=F'.get t) (h:chk1 F S k):chk1 F' S k:=by
  unfold chk1 at h ⊢
  rw [←rd_congr (F:=F) (F':=F') fun t ht=>hs t (by simp [ht]),←hs k.1 (by simp)]
  exact h
theorem chks_congr {F F':Frame} {S:Store} {l:List (Nat×Nat×Bool×Rand)} (hs: ∀k∈l,∀t∈k.1::k.2.2.2.slots,F.get t=F'.get t) (h:chks F S l):chks F' S l:=
  fun k hk=>chk1_congr (hs k hk) (h k hk)
theorem again_chk {F:Frame} {S:Store} {K:AVal→Store→Prop} {k:Nat×Nat×Bool×Rand} (h:vcOp P F S K (.again k.1 k.2.1 k.2.2.1 k.2.2.2)):chk1 F S k∧K .junk S:=by
  simp only [vcOp,rdK_iff] at h
  obtain ⟨z,h1,h2⟩:=det_load _ h
  exact ⟨h2 _ h1.1,h1.2⟩
theorem chks_ops {K:Frame→Store→Prop} {rest:List GOp} {F:Frame} {S:Store}: ∀(l:List (Nat×Nat×Bool×Rand)),vcOps P K (l.map againG++rest) F S→chks F S l∧vcOps P K rest F S
  | [],h=>⟨fun k hk=>(by cases hk),h⟩
  | k::l,h=>by
    simp only [List.map_cons,List.cons_append,vcOps,againG,splitG,putF] at h
    obtain ⟨h1,h2⟩:=again_chk h
    obtain ⟨h3,h4⟩:=chks_ops l h2
    refine ⟨fun k' hk=>?_,h4⟩
    rcases List.mem_cons.1 hk with rfl | hk
    · exact h1
    · exact h3 k' hk
def vcR (P:Program) (K:Frame→Store→Prop):List (Nat×Bool×GOp)→Frame→Store→Prop
  | [],F,S=>K F S
  | x::l,F,S=>vcG P x.2.1 x.2.2 F S fun y S'=>chks (putF F x.2.2.dst y) S' x.2.2.chk∧vcR P K l (putF F x.2.2.dst y) S'
theorem splitG_mono {b:Bool} {x:AVal} {K K':AVal→Prop} (h:splitG b x K) (hk: ∀x,K x→K' x):splitG b x K':=by
  cases b
  · exact hk _ h
  · cases x<;>simp only [splitG] at h ⊢ <;>first | exact h.elim | exact hk _ h | exact ⟨fun e=>hk _ (h.1 e),fun e=>hk _ (h.2 e)⟩
theorem vcG_mono {q:Bool} {o:GOp} {F:Frame} {S:Store} {K K':AVal→Store→Prop} (h:vcG P q o F S K) (hk: ∀x S',K x S'→K' x S'):vcG P q o F S K':=by
  unfold vcG at h ⊢
  have hop: ∀ {so:SOp},vcO P q F S (fun x S'=>splitG o.isG x fun x=>K x S') so→vcO P q F S (fun x S'=>splitG o.isG x fun x=>K' x S') so:=fun h=>vcO_mono h fun x S' h=>splitG_mono h fun y hy=>hk _ _ hy
  split
  · rename_i hg;rw [hg] at h;exact hop h
  · rename_i g want hg
    rw [hg] at h
    simp only at h
    generalize F.get g=c at*
    cases c<;>cases want<;>simp only at h ⊢ <;>first | exact h.elim | exact hk _ _ h | exact hop h
open Go.Vk in
theorem op_step {main:Go.Vk.Cx} {ops:Array Oper} {k:Nat} {o:Oper} {g:GOp} {q ro:Bool} {hint:SOp} {K:AVal→Store→Prop} {E:Env} {fz:Nat→Prop} {S:Store} {w:World} {F:Frame} {a:Act} (ho:ops[k]?=some o)
    (hcop:copT P ro hint o.type o.op=g.op) (hgd:cGuard ops o.guard=some g.guard) (st:St E fz S w) (hF:RelF E fz w F a.tmps) (h:vcG P q g F S K) {next:Act→World→Prop}
    (hn: ∀(x:AVal) (S':Store) (E':Env) (fz':Nat→Prop) (w':World) (v:Value),K x S'→Ext E fz S w E' fz' S' w'→St E' fz' S' w'→Rel E' fz' w' x v→next (a.put o.dst v) w'):opV P main ops k next a w:=by
  have run:vcO P q F S (fun x S'=>splitG g.isG x fun x=>K x S') g.op→Region.wanted o (yielded ops a.tmps)=true→opV P main ops k next a w:=fun hop hw=>by
    obtain ⟨e1,e2⟩:=copT_of hcop (vcO_op hop)
    refine opV_run ho hw (copR_tame st hF e1 (vcO_op hop) e2) fun w₁ h₁=>?_
    obtain ⟨st1,hx1⟩:=st.itf h₁
    refine RunsTo.mono (copR_sound st1 (RelF.mono st hx1 hF) e1 (vcO_op hop)) ?_
    rintro v w' ⟨x,S',E',fz',hk,hx,hs,hr⟩
    obtain ⟨y,hy,hr'⟩:=splitG_rel hk hr
    exact hn y S' E' fz' w' v hy (hx1.trans hx) hs hr'
  have skip:K (.tup []) S→Region.wanted o (yielded ops a.tmps)=false→opV P main ops k next a w:=fun hk hw=>
    opV_skip ho hw (hn _ S E fz w undef hk .refl st (by simp only [Rel];exact ⟨[],rfl,by simp [RelL]⟩))
  unfold vcG at h
  cases hgo:o.guard with
  | none=>
    rw [hgo] at hgd
    simp only [cGuard] at hgd
    have hgd':=Option.some.inj hgd
    rw [←hgd'] at h
    exact run h (by simp [Region.wanted,hgo])
  | some jw=>
    obtain ⟨j,want⟩:=jw
    rw [hgo] at hgd
    simp only [cGuard] at hgd
    split at hgd
    case h_2=>cases hgd
    rename_i d hd
    have hgd':=Option.some.inj hgd
    rw [←hgd'] at h
    obtain ⟨w1,w2,w3⟩:=wanted_rel hgo hd hF
    simp only at h
    cases hg:F.get d<;>cases want<;>rw [hg] at h<;>simp only at h<;>first | exact h.elim | skip
    · exact skip h (w1 hg)
    · exact run h (w1 hg)
    · exact run h (w2 hg)
    · exact skip h (w2 hg)
    all_goals exact skip h (w3 _ hg)
theorem getD_true {D:Array Bool} {j:Nat} (h:j<D.size):D.getD j true=D.getD j false:=by
  simp [Array.getD_eq_getD_getElem?,Array.getElem?_eq_getElem h]
theorem getD_set {D:Array Bool} {i j:Nat} (h:i<D.size):(D.setIfInBounds i true).getD j false=if j=i then true else D.getD j false:=by
  simp only [Array.getD_eq_getD_getElem?,Array.getElem?_setIfInBounds]
  by_cases e:i=j
  · subst e;simp [h]
  · rw [if_neg e,if_neg (fun h=>e h.symm)]
theorem ready_wait {ops:Array Oper} {D:Array Bool} (hc:Closed ops D) {i j:Nat} (hi:i∈Region.ready .any ops D) (h:reach ops ops.size i j=true):D.getD j false=true:=by
  obtain ⟨_,o,ho,ha⟩:=mem_ready.1 hi
  exact reach_listed hc ho ha h
theorem not_stuck {ops:Array Oper} {D:Array Bool} (hedge: ∀(j:Nat) o,ops[j]?=some o→ ∀e∈o.after,Region.binds .any e=true→e.on<j) (hsz:D.size=ops.size) (h:Region.ready .any ops D=[]): ∀j,j<ops.size→D.getD j false=true:=by
  intro j
  induction j using Nat.strongRecOn with
  | _ j ih=>
    intro hj
    cases hd:D.getD j false with
    | true=>rfl
    | false=>
      have hmem:j∈Region.ready .any ops D:=mem_ready.2 ⟨by rw [getD_true (by omega)];exact hd,ops[j],Array.getElem?_eq_getElem hj,fun e he hb=>by
        have:=hedge j _ (Array.getElem?_eq_getElem hj) e he hb
        exact ih e.on this (by omega)⟩
      rw [h] at hmem
      cases hmem
theorem closed_set {ops:Array Oper} {D:Array Bool} (hc:Closed ops D) (hsz:D.size=ops.size) {i:Nat} (hi:i∈Region.ready .any ops D):Closed ops (D.setIfInBounds i true):=by
  obtain ⟨h0,o,ho,ha⟩:=mem_ready.1 hi
  have hlt:i<D.size:=by rw [hsz];exact (Array.getElem?_eq_some_iff.1 ho).1
  intro j o' hj hd e he hb
  rw [getD_set hlt] at hd ⊢
  split
  · rfl
  · split at hd
    · rename_i e1;subst e1
      rw [ho] at hj;cases hj
      exact ha e he hb
    · exact hc j o' hj hd e he hb
theorem gWrites_mem: ∀ {gl:List GOp} {g:GOp} {t:Nat},g∈gl→g.dst=some t→t∈gWrites gl
  | [],g,t,h,_=>by cases h
  | g'::gl,g,t,h,hd=>by
    simp only [gWrites,List.mem_append]
    rcases List.mem_cons.1 h with rfl | h
    · exact .inl (by simp [hd])
    · exact .inr (gWrites_mem h hd)
def GOp.reads (o:GOp):List Nat:=o.op.slots++(match o.guard with | some (s,_)=>[s] | none=>[])
theorem vcG_congr {q:Bool} {o:GOp} {F F':Frame} {S:Store} {K:AVal→Store→Prop} (hs: ∀t∈o.reads,F.get t=F'.get t) (h:vcG P q o F S K):vcG P q o F' S K:=by
  have hsl: ∀t∈o.op.slots,F.get t=F'.get t:=fun t ht=>hs t (by simp [GOp.reads,ht])
  unfold vcG at h ⊢
  split
  · rename_i hg;rw [hg] at h;exact vcO_congr hsl h
  · rename_i g want hg
    rw [hg] at h
    simp only at h
    rw [←hs g (by simp [GOp.reads,hg])]
    generalize F.get g=c at*
    cases c<;>cases want<;>simp only at h ⊢ <;>first | exact h.elim | exact h | exact vcO_congr hsl h
theorem splitG_det {b:Bool} {y:AVal} {Q:AVal→Prop} (h:splitG b y Q): ∃x,Q x∧ ∀Q':AVal→Prop,Q' x→splitG b y Q':=by
  cases b
  · exact ⟨y,h,fun _ h=>h⟩
  · cases y<;>simp only [splitG] at h ⊢ <;>first | exact h.elim | exact ⟨_,h,fun _ h=>h⟩ | skip
    rename_i b
    cases b
    · exact ⟨.ff,h.2 rfl,fun _ h=>⟨fun e=>(by cases e),fun _=>h⟩⟩
    · exact ⟨.tt,h.1 rfl,fun _ h=>⟨fun _=>h,fun e=>(by cases e)⟩⟩
theorem vcG_quiet {q:Bool} {o:GOp} {F:Frame} {S:Store} {K:AVal→Store→Prop} (hq:o.op.quiet=true) (hc:q=true∨o.op.isCall=false) (h:vcG P q o F S K):
    ∃x,K x S∧ ∀(F':Frame) (K':AVal→Store→Prop),(∀t∈o.reads,F.get t=F'.get t)→K' x S→vcG P q o F' S K':=by
  have hop:vcO P q F S (fun x S'=>splitG o.isG x fun x=>K x S') o.op→ ∃x,K x S∧ ∀(F':Frame) (K':AVal→Store→Prop),(∀t∈o.op.slots,F.get t=F'.get t)→K' x S→vcO P q F' S (fun x S'=>splitG o.isG x fun x=>K' x S') o.op:=fun h=>by
    obtain ⟨y,h1,h2⟩:=quietO hq hc h
    obtain ⟨x,h3,h4⟩:=splitG_det h1
    exact ⟨x,h3,fun F' K' hs hk=>h2 F' _ hs (h4 _ hk)⟩
  unfold vcG at h
  split at h
  · rename_i hg
    obtain ⟨x,h1,h2⟩:=hop h
    refine ⟨x,h1,fun F' K' hs hk=>?_⟩
    unfold vcG;rw [hg]
    exact h2 F' K' (fun t ht=>hs t (by simp [GOp.reads,ht])) hk
  · rename_i g want hg
    have other: ∀ {F':Frame},(∀t∈o.reads,F.get t=F'.get t)→F'.get g=F.get g:=fun hs=>(hs g (by simp [GOp.reads,hg])).symm
    have sl: ∀ {F':Frame},(∀t∈o.reads,F.get t=F'.get t)→ ∀t∈o.op.slots,F.get t=F'.get t:=fun hs t ht=>hs t (by simp [GOp.reads,ht])
    cases hcv:F.get g<;>cases want<;>rw [hcv] at h<;>simp only at h<;>first | exact h.elim | skip
    all_goals first
      | (obtain ⟨x,h1,h2⟩:=hop h
         refine ⟨x,h1,fun F' K' hs hk=>?_⟩
         unfold vcG;rw [hg];simp only;rw [other hs,hcv]
         exact h2 F' K' (sl hs) hk)
      | (refine ⟨_,h,fun F' K' hs hk=>?_⟩
         unfold vcG;rw [hg];simp only;rw [other hs,hcv]
         exact hk)
theorem vcG_free {q:Bool} {o:GOp} {F:Frame} {S:Store} {K:AVal→Store→Prop} (hf:o.op.free=true) (h:vcG P q o F S K):
    ∃x,K x S∧ ∀(F':Frame) (S':Store) (K':AVal→Store→Prop),(∀t∈o.reads,F.get t=F'.get t)→K' x S'→vcG P q o F' S' K':=by
  have hop:vcO P q F S (fun x S'=>splitG o.isG x fun x=>K x S') o.op→ ∃x,K x S∧ ∀(F':Frame) (S':Store) (K':AVal→Store→Prop),(∀t∈o.op.slots,F.get t=F'.get t)→K' x S'→vcO P q F' S' (fun x S'=>splitG o.isG x fun x=>K' x S') o.op:=fun h=>by
    obtain ⟨y,h1,h2⟩:=freeO hf h
    obtain ⟨x,h3,h4⟩:=splitG_det h1
    exact ⟨x,h3,fun F' S' K' hs hk=>h2 F' S' _ hs (h4 _ hk)⟩
  unfold vcG at h
  split at h
  · rename_i hg
    obtain ⟨x,h1,h2⟩:=hop h
    refine ⟨x,h1,fun F' S' K' hs hk=>?_⟩
    unfold vcG;rw [hg]
    exact h2 F' S' K' (fun t ht=>hs t (by simp [GOp.reads,ht])) hk
  · rename_i g want hg
    have other: ∀ {F':Frame},(∀t∈o.reads,F.get t=F'.get t)→F'.get g=F.get g:=fun hs=>(hs g (by simp [GOp.reads,hg])).symm
    have sl: ∀ {F':Frame},(∀t∈o.reads,F.get t=F'.get t)→ ∀t∈o.op.slots,F.get t=F'.get t:=fun hs t ht=>hs t (by simp [GOp.reads,ht])
    cases hcv:F.get g<;>cases want<;>rw [hcv] at h<;>simp only at h<;>first | exact h.elim | skip
    all_goals first
      | (obtain ⟨x,h1,h2⟩:=hop h
         refine ⟨x,h1,fun F' S' K' hs hk=>?_⟩
         unfold vcG;rw [hg];simp only;rw [other hs,hcv]
         exact h2 F' S' K' (sl hs) hk)
      | (refine ⟨_,h,fun F' S' K' hs hk=>?_⟩
         unfold vcG;rw [hg];simp only;rw [other hs,hcv]
         exact hk)
theorem St.front {E:Env} {fz:Nat→Prop} {S:Store} {w:World} {o:Ob} (st:St E fz (S++[o]) w):St E fz S w:=by
  have up: ∀ {l:Nat} {x:Ob},S[l]?=some x→(S++[o])[l]?=some x:=fun {l x} h=>by
    rw [List.getElem?_append_left (List.getElem?_eq_some_iff.1 h).1];exact h
  exact ⟨fun l x h=>st.ok l x (up h),fun l l' b ⟨x,h1,h2⟩ ⟨y,g1,g2⟩=>st.sep l l' b ⟨x,up h1,h2⟩ ⟨y,up g1,g2⟩,st.fzlt,st.fresh⟩
theorem ACalls_push {P:Program} {f:FuncId} {args:List AVal} {S:Store} {r0:AVal} {o:Ob} (h:ACalls P f args S (fun r S'=>r=r0∧S'=S)):ACalls P f args (S++[o]) (fun r S'=>r=r0∧S'=S++[o]):=by
  refine ⟨fun E fz w vals st hrel=>(h.out E fz w vals st.front hrel).mono ?_⟩
  rintro e w' ⟨r,S',v,E',fz',h1,hx,st',hr,rfl,rfl⟩
  have lt: ∀ {l:Nat} {x:Ob},S'[l]?=some x→l<S'.length:=fun h=>(List.getElem?_eq_some_iff.1 h).1
  have up: ∀ {l:Nat} {x:Ob},S'[l]?=some x→(S'++[o])[l]?=some x:=fun {l x} h=>by
    rw [List.getElem?_append_left (lt h)];exact h
  have last:(S'++[o])[S'.length]?=some o:=by simp
  have split: ∀ {l:Nat} {x:Ob},(S'++[o])[l]?=some x→S'[l]?=some x∨(l=S'.length∧x=o):=fun {l x} h=>by
    rcases Nat.lt_or_ge l S'.length with c | c
    · rw [List.getElem?_append_left c] at h;exact .inl h
    · have:=(List.getElem?_eq_some_iff.1 h).1
      simp at this
      have e:l=S'.length:=by omega
      subst e
      rw [last] at h;cases h
      exact .inr ⟨rfl,rfl⟩
  have ownUp: ∀ {b:Nat},Own E S' b→Own E (S'++[o]) b:=fun ⟨l,x,q1,q2⟩=>⟨l,x,up q1,q2⟩
  have oat: ∀ {b:Nat},obBlock E o=some b→OwnAt E (S'++[o]) S'.length b:=fun hb=>⟨o,last,hb⟩
  have okO:=st.ok _ _ last
  have blk:=okO.block hx.env
  have notin: ∀ {b:Nat},obBlock E o=some b→ ¬Own E S' b:=fun hb ⟨l,x,q1,q2⟩=>by
    have:=st.sep l S'.length _ ⟨x,up q1,q2⟩ (oat hb)
    have:=lt q1
    omega
  have safe: ∀b,obBlock E o=some b→w'.heap[b]?=w.heap[b]?∧ ¬fz' b:=fun b hb=>by
    obtain ⟨l1,l2⟩:=st.own_lt (oat hb)
    refine ⟨hx.keep b l1 (notin hb),fun hf=>?_⟩
    rcases hx.fznew b hf with h | h | h
    · exact l2 h
    · exact notin hb h
    · omega
  have e1: ∀b,fz' b→fz b∨Own E (S'++[o]) b∨w.heap.size≤b:=fun b hb=>by
    rcases hx.fznew b hb with h | h | h
    · exact .inl h
    · exact .inr (.inl (ownUp h))
    · exact .inr (.inr h)
  have e2: ∀b,Own E' (S'++[o]) b→Own E (S'++[o]) b∨w.heap.size≤b:=fun b ⟨l,x,q1,q2⟩=>by
    rcases split q1 with h | ⟨rfl,rfl⟩
    · rcases hx.own b ⟨l,x,h,q2⟩ with h | h
      · exact .inl (ownUp h)
      · exact .inr h
    · rw [blk] at q2;exact .inl ⟨_,oat q2⟩
  have e3: ∀(l:Nat) x,(S'++[o])[l]?=some x→ObOk E' fz' w' x:=fun l x hl=>by
    rcases split hl with h | ⟨rfl,rfl⟩
    · exact st'.ok l x h
    · exact okO.mono hx.env hx.frz (st.front.fz_keep hx) safe
  have e4: ∀l l' b,OwnAt E' (S'++[o]) l b→OwnAt E' (S'++[o]) l' b→l=l':=fun l l' b ⟨x,q1,q2⟩ ⟨y,g1,g2⟩=>by
    have cross: ∀ {l b:Nat} {x:Ob},S'[l]?=some x→obBlock E' x=some b→obBlock E' o=some b→False:=fun {l b x} h1 h2 h3=>by
      rw [blk] at h3
      rcases hx.own b ⟨l,x,h1,h2⟩ with h | h
      · exact notin h3 h
      · have:=(st.own_lt (oat h3)).1;omega
    rcases split q1 with h | ⟨k1,k2⟩<;>rcases split g1 with h' | ⟨k3,k4⟩
    · exact st'.sep l l' b ⟨x,h,q2⟩ ⟨y,h',g2⟩
    · rw [k4] at g2;exact (cross h q2 g2).elim
    · rw [k2] at q2;exact (cross h' g2 q2).elim
    · rw [k1,k3]
  exact ⟨_,_,v,E',fz',h1,⟨hx.env,hx.frz,e1,fun b hb hn=>hx.keep b hb fun ho=>hn (ownUp ho),e2,hx.size,hx.os,hx.output,hx.tape⟩,⟨e3,e4,st'.fzlt,st'.fresh⟩,hr,rfl,rfl⟩
theorem ACalls_set {P:Program} {f:FuncId} {args:List AVal} {S:Store} {R:AVal→Store→Prop} {i:Nat} {o:Ob} (hd:S[i]?=some .dead) (hR: ∀r S',R r S'→S'[i]?=some .dead) (h:ACalls P f args S R):ACalls P f args (S.set i o) (fun r T=> ∃S',R r S'∧T=S'.set i o):=by
  have mid:(S.set i o)[i]?=some o:=List.getElem?_set_self (List.getElem?_eq_some_iff.1 hd).1
  have nd: ∀ {E:Env} {x:Ob} {b:Nat},obBlock E x=some b→x≠ .dead:=fun {E x b} h e=>by subst e;simp [obBlock] at h
  have old: ∀ {S:Store} {l:Nat} {x:Ob},S[i]?=some .dead→S[l]?=some x→x≠ .dead→(S.set i o)[l]?=some x:=fun {S l x} hd h hx=>by
    rw [List.getElem?_set_ne (fun e=>by subst e;rw [hd] at h;cases h;exact hx rfl)];exact h
  have split: ∀ {S:Store} {l:Nat} {x:Ob},S[i]?=some .dead→(S.set i o)[l]?=some x→(l≠i∧S[l]?=some x)∨(l=i∧x=o):=fun {S l x} hd h=>by
    by_cases e:l=i
    · subst e;rw [List.getElem?_set_self (List.getElem?_eq_some_iff.1 hd).1] at h;cases h;exact .inr ⟨rfl,rfl⟩
    · rw [List.getElem?_set_ne (Ne.symm e)] at h;exact .inl ⟨e,h⟩
  refine ⟨fun E fz w vals st hrel=>?_⟩
  have frt:St E fz S w:=⟨fun l x h=>by
      by_cases e:x= .dead
      · subst e;trivial
      · exact st.ok l x (old hd h e),fun l l' b ⟨x,h1,h2⟩ ⟨y,g1,g2⟩=>st.sep l l' b ⟨x,old hd h1 (nd h2),h2⟩ ⟨y,old hd g1 (nd g2),g2⟩,st.fzlt,st.fresh⟩
  refine (h.out E fz w vals frt hrel).mono ?_
  rintro e w' ⟨r,S',v,E',fz',h1,hx,st',hr,hRr⟩
  have hd':=hR r S' hRr
  have ownUp: ∀ {b:Nat},Own E S b→Own E (S.set i o) b:=fun ⟨l,x,q1,q2⟩=>⟨l,x,old hd q1 (nd q2),q2⟩
  have oat: ∀ {b:Nat},obBlock E o=some b→OwnAt E (S.set i o) i b:=fun hb=>⟨o,mid,hb⟩
  have okO:=st.ok _ _ mid
  have blk:=okO.block hx.env
  have notin: ∀ {b:Nat},obBlock E o=some b→ ¬Own E S b:=fun hb ⟨l,x,q1,q2⟩=>by
    have:=st.sep l i _ ⟨x,old hd q1 (nd q2),q2⟩ (oat hb)
    subst this
    rw [hd] at q1;cases q1;exact nd q2 rfl
  have safe: ∀b,obBlock E o=some b→w'.heap[b]?=w.heap[b]?∧ ¬fz' b:=fun b hb=>by
    obtain ⟨l1,l2⟩:=st.own_lt (oat hb)
    refine ⟨hx.keep b l1 (notin hb),fun hf=>?_⟩
    rcases hx.fznew b hf with h | h | h
    · exact l2 h
    · exact notin hb h
    · omega
  have e1: ∀b,fz' b→fz b∨Own E (S.set i o) b∨w.heap.size≤b:=fun b hb=>by
    rcases hx.fznew b hb with h | h | h
    · exact .inl h
    · exact .inr (.inl (ownUp h))
    · exact .inr (.inr h)
  have e2: ∀b,Own E' (S'.set i o) b→Own E (S.set i o) b∨w.heap.size≤b:=fun b ⟨l,x,q1,q2⟩=>by
    rcases split hd' q1 with ⟨_,h⟩ | ⟨rfl,rfl⟩
    · rcases hx.own b ⟨l,x,h,q2⟩ with h | h
      · exact .inl (ownUp h)
      · exact .inr h
    · rw [blk] at q2;exact .inl ⟨_,oat q2⟩
  have e3: ∀(l:Nat) x,(S'.set i o)[l]?=some x→ObOk E' fz' w' x:=fun l x hl=>by
    rcases split hd' hl with ⟨_,h⟩ | ⟨rfl,rfl⟩
    · exact st'.ok l x h
    · exact okO.mono hx.env hx.frz (frt.fz_keep hx) safe
  have e4: ∀l l' b,OwnAt E' (S'.set i o) l b→OwnAt E' (S'.set i o) l' b→l=l':=fun l l' b ⟨x,q1,q2⟩ ⟨y,g1,g2⟩=>by
    have cross: ∀ {l b:Nat} {x:Ob},S'[l]?=some x→obBlock E' x=some b→obBlock E' o=some b→False:=fun {l b x} h1 h2 h3=>by
      rw [blk] at h3
      rcases hx.own b ⟨l,x,h1,h2⟩ with h | h
      · exact notin h3 h
      · have:=(st.own_lt (oat h3)).1;omega
    rcases split hd' q1 with ⟨_,h⟩ | ⟨k1,k2⟩<;>rcases split hd' g1 with ⟨_,h'⟩ | ⟨k3,k4⟩
    · exact st'.sep l l' b ⟨x,h,q2⟩ ⟨y,h',g2⟩
    · rw [k4] at g2;exact (cross h q2 g2).elim
    · rw [k2] at q2;exact (cross h' g2 q2).elim
    · rw [k1,k3]
  exact ⟨r,S'.set i o,v,E',fz',h1,⟨hx.env,hx.frz,e1,fun b hb hn=>hx.keep b hb fun ho=>hn (ownUp ho),e2,hx.size,hx.os,hx.output,hx.tape⟩,⟨e3,e4,st'.fzlt,st'.fresh⟩,hr,S',hRr,rfl⟩
theorem row_push {S:Store} {l v:Nat} {o:Ob} {K:Nat→List AVal→Prop} (h:wRow S l v K):wRow (S++[o]) l v K:=by
  obtain ⟨k,cs,h1,h2⟩:=wRow_iff.1 h
  refine wRow_iff.2 ⟨k,cs,?_,h2⟩
  rw [List.getElem?_append_left (List.getElem?_eq_some_iff.1 h1).1];exact h1
theorem load_push {S:Store} {n:Nat} {ag:Bool} {x:AVal} {o:Ob} {K:AVal→Prop} (h:wLoad S n ag x K):wLoad (S++[o]) n ag x K:=by
  cases x<;>simp only [wLoad] at h ⊢ <;>first | exact h.elim | exact h | exact row_push h
theorem load_set {S:Store} {n i:Nat} {ag:Bool} {x:AVal} {o:Ob} {K:AVal→Prop} (hd:S[i]?=some .dead) (h:wLoad S n ag x K):wLoad (S.set i o) n ag x K:=by
  cases x<;>simp only [wLoad] at h ⊢ <;>first | exact h.elim | exact h | skip
  obtain ⟨k,cs,h1,h2⟩:=wRow_iff.1 h
  refine wRow_iff.2 ⟨k,cs,?_,h2⟩
  rw [List.getElem?_set_ne (fun e=>by subst e;rw [hd] at h1;cases h1)];exact h1
theorem look_set {F:Frame} {S:Store} {i:Nat} {o:Ob} {x:AVal} {so:SOp} (hl:so.isLook=true) (hd:S[i]?=some .dead) (h:vcOp P F S (fun y T=>y=x∧T=S) so):vcOp P F (S.set i o) (fun y T=>y=x∧T=S.set i o) so:=by
  cases so<;>simp only [SOp.isLook] at hl<;>first | (cases hl;done) | skip
  case load n ag y=>
    simp only [vcOp,rdK_iff] at h ⊢
    obtain ⟨z,h1,h2⟩:=det_load _ (load_set (o:=o) hd h)
    exact h2 _ ⟨h1.1,by trivial⟩
  case mlook q ok z m k=>
    simp only [vcOp,rdK_iff] at h ⊢
    generalize rd F m=X at*
    refine ⟨h.1,?_⟩
    have h:=h.2
    cases X<;>first | exact h.elim | skip
    · obtain ⟨es,hl,h1,h2,_⟩:=wMap_iff.1 h
      refine wMap_iff.2 ⟨es,?_,h1,h2,by trivial⟩
      rw [List.getElem?_set_ne (fun e=>by subst e;rw [hd] at hl;cases hl)];exact hl
    · exact ⟨h.1,by trivial⟩
theorem bytes_push {S:Store} {x:AVal} {o:Ob} {K:List UInt8→Prop} (h:wBytes S x K):wBytes (S++[o]) x K:=by
  cases x<;>simp only [wBytes] at h ⊢ <;>first | exact h.elim | exact h | exact row_push h
theorem quiet_push {F:Frame} {S:Store} {o:Ob} {x:AVal} {so:SOp} (hq:so.quiet=true) (h:vcOpD P F S (fun y T=>y=x∧T=S) so):vcOpD P F (S++[o]) (fun y T=>y=x∧T=S++[o]) so:=by
  by_cases hf:so.free=true
  · obtain ⟨z,h1,h2⟩:=freeO hf (show vcO P true F S (fun y T=>y=x∧T=S) so from h)
    exact h2 F (S++[o]) (fun y T=>y=x∧T=S++[o]) (fun _ _=>rfl) ⟨h1.1,rfl⟩
  cases so<;>simp only [SOp.quiet] at hq<;>first | (cases hq;done) | (exact (hf rfl).elim) | (exact (hf hq).elim) | skip
  case call f xs=>
    simp only [vcOpD,rdsK_iff] at h ⊢
    obtain ⟨r0,h1,h2,h3⟩:=h
    exact ⟨r0,ACalls_push h1,h2,by trivial⟩
  case callv y xs=>
    simp only [vcOpD,rdK_iff,rdsK_iff] at h ⊢
    generalize rd F y=X at*
    cases X<;>first | exact h.elim | skip
    rename_i f first cap
    cases f<;>first | exact h.elim | skip
    cases first<;>first | exact h.elim | skip
    obtain ⟨hc,r0,h1,h2,h3⟩:=h
    exact ⟨hc,r0,ACalls_push h1,h2,by trivial⟩
  case b2s y=>
    simp only [vcOpD,vcOp,rdK_iff] at h ⊢
    obtain ⟨z,h1,h2⟩:=det_bytes _ (bytes_push (o:=o) h)
    exact h2 _ ⟨h1.1,by trivial⟩
  case load n ag y=>
    simp only [vcOpD,vcOp,rdK_iff] at h ⊢
    obtain ⟨z,h1,h2⟩:=det_load _ (load_push (o:=o) h)
    exact h2 _ ⟨h1.1,by trivial⟩
  case mlook q ok z m k=>
    simp only [vcOpD,vcOp,rdK_iff] at h ⊢
    generalize rd F m=X at*
    refine ⟨h.1,?_⟩
    have h:=h.2
    cases X<;>first | exact h.elim | skip
    · obtain ⟨es,hl,h1,h2,_⟩:=wMap_iff.1 h
      refine wMap_iff.2 ⟨es,?_,h1,h2,by trivial⟩
      rw [List.getElem?_append_left (List.getElem?_eq_some_iff.1 hl).1];exact hl
    · exact ⟨h.1,by trivial⟩
  case again t n ag y=>
    simp only [vcOpD,vcOp,rdK_iff] at h ⊢
    obtain ⟨z,h1,h2⟩:=det_load _ (load_push (o:=o) h)
    exact h2 _ ⟨h1.1,h1.2.1,by trivial⟩
  case slice3 k y a b=>
    simp only [vcOpD,vcOp,rdK_iff] at h ⊢
    obtain ⟨n,h1,h2⟩:=det_idx _ h
    generalize rd F y=X at*
    cases X<;>simp only at h1 h2 ⊢ <;>first | exact h1.2.elim | skip
    · exact h2 _ ⟨h1.1,h1.2.1,h1.2.2.1,by trivial⟩
    · refine h2 _ ⟨h1.1,h1.2.1,row_push ?_⟩
      obtain ⟨k',cs,hl,e,hk⟩:=wRow_iff.1 h1.2.2
      exact wRow_iff.2 ⟨k',cs,hl,e,hk.1,by trivial⟩
  case slice k y lo hi=>
    cases k with
    | zero=>exact (hf rfl).elim
    | succ k=>
      simp only [vcOpD,vcOp,rdK_iff] at h ⊢
      generalize rd F y=X at*
      cases X<;>first | exact h.elim | skip
      all_goals
        simp only at h ⊢
        obtain ⟨hh,h1,h2⟩:=det_hi _ h
        obtain ⟨j,h3,h4⟩:=det_lo _ h1
      · exact h2 _ (h4 _ ⟨h3.1,h3.2.1,h3.2.2.1,by trivial⟩)
      · refine h2 _ (h4 _ ⟨h3.1,h3.2.1,row_push ?_⟩)
        obtain ⟨k',cs,hl,e,hk⟩:=wRow_iff.1 h3.2.2
        exact wRow_iff.2 ⟨k',cs,hl,e,hk.1,by trivial⟩
      · exact h2 _ (h4 _ ⟨h3.1,h3.2.1,h3.2.2.1,h3.2.2.2.1,by trivial⟩)
  case iaddr k ar y i=>
    simp only [vcOpD,vcOp,rdK_iff] at h ⊢
    generalize rd F y=X at*
    obtain ⟨j,h1,h2⟩:=det_idx _ h
    cases X<;>cases ar<;>simp only at h1 h2 ⊢ <;>first | exact h1.elim | skip
    · exact h2 _ ⟨h1.1,h1.2.1,by trivial⟩
    · exact h2 _ ⟨h1.1,h1.2.1,by trivial⟩
    · obtain ⟨g1,g2⟩:=h1
      obtain ⟨k',cs,hl,e,hk⟩:=wRow_iff.1 g2
      exact h2 _ ⟨g1,row_push (wRow_iff.2 ⟨k',cs,hl,e,hk.1,by trivial⟩)⟩
    · obtain ⟨g1,xs,g2,g3⟩:=h1
      exact h2 _ ⟨g1,xs,g2,g3.1,by trivial⟩
theorem vcG_push {q:Bool} {g:GOp} {F:Frame} {S:Store} {o:Ob} {x:AVal} (hq:g.op.quiet=true) (hc:q=true∨g.op.isCall=false) (h:vcG P q g F S (fun y T=>y=x∧T=S)):vcG P q g F (S++[o]) (fun y T=>y=x∧T=S++[o]):=by
  have hop:vcO P q F S (fun y T=>splitG g.isG y fun y=>y=x∧T=S) g.op→vcO P q F (S++[o]) (fun y T=>splitG g.isG y fun y=>y=x∧T=S++[o]) g.op:=fun h=>by
    obtain ⟨y,h1,h2⟩:=quietO hq hc h
    have h3:=h2 F (fun z T=>z=y∧T=S) (fun _ _=>rfl) ⟨rfl,rfl⟩
    have h4:vcOpD P F S (fun z T=>z=y∧T=S) g.op:=by
      cases q
      · rw [vcOpD_of (hc.resolve_left (by simp))];exact h3
      · exact h3
    have h5:=quiet_push (o:=o) hq h4
    have h6:vcO P q F (S++[o]) (fun z T=>z=y∧T=S++[o]) g.op:=by
      cases q
      · exact vcOpD_op h5
      · exact h5
    refine vcO_mono h6 ?_
    rintro z T ⟨rfl,rfl⟩
    exact splitG_mono h1 fun z hz=>⟨hz.1,rfl⟩
  unfold vcG at h ⊢
  split
  · rename_i hg;rw [hg] at h;exact hop h
  · rename_i s want hg
    rw [hg] at h
    simp only at h
    generalize F.get s=c at*
    cases c<;>cases want<;>simp only at h ⊢ <;>first | exact h.elim | exact ⟨h.1,by trivial⟩ | exact hop h
theorem op_new {F:Frame} {S:Store} {K:AVal→Store→Prop} {so:SOp} (hn:so.isNew=true) (h:vcOp P F S K so):vcOp P F S (fun y T=>K y T∧ ∃o,T=S++[o]) so:=by
  cases so<;>simp only [SOp.isNew] at hn<;>first | (cases hn;done) | skip
  case newnil k=>simp only [vcOp,wPush_iff] at h ⊢;exact fun v=>⟨h v,_,rfl⟩
  case mkmap=>simp only [vcOp,wPush_iff] at h ⊢;exact fun v=>⟨h v,_,rfl⟩
  case mrange x=>
    simp only [vcOp,rdK_iff] at h ⊢
    generalize rd F x=X at*
    cases X<;>first | exact h.elim | skip
    obtain ⟨es,h1,h2⟩:=wMap_iff.1 h
    simp only [wPush_iff] at h2
    refine wMap_iff.2 ⟨es,h1,?_⟩
    simp only [wPush_iff]
    exact fun v=>⟨h2 v,_,rfl⟩
  case alloc k z=>simp only [vcOp,wPush_iff] at h ⊢;exact fun v=>⟨h v,_,rfl⟩
  case box k x=>
    simp only [vcOp,wPush_iff,rdK_iff] at h ⊢
    exact wCells_mono h fun c h v=>⟨h v,_,rfl⟩
  case bslice ro len k z ps=>
    cases ro
    · simp only [vcOp,wPush_iff] at h ⊢
      exact wFill_mono h fun c h v=>⟨h v,_,rfl⟩
    · cases hn
  case s2b x=>
    simp only [vcOp,wPush_iff,rdK_iff] at h ⊢
    generalize rd F x=X at*
    cases X<;>first | exact h.elim | exact fun v=>⟨h v,_,rfl⟩
  case mkslice k b z x y=>
    simp only [vcOp,wPush_iff,rdK_iff] at h ⊢
    obtain ⟨kk,j,e,h1,h2,h3⟩:=wIdx_iff h
    rw [e] at h1 ⊢
    exact ⟨j,rfl,h1,h2,fun v=>⟨h3 v,_,rfl⟩⟩
theorem new_call {so:SOp} (hn:so.isNew=true):so.isCall=false:=by
  cases so<;>simp only [SOp.isNew] at hn<;>first | rfl | cases hn
theorem vcG_new {q:Bool} {g:GOp} {F:Frame} {S:Store} {K:AVal→Store→Prop} (hn:g.op.isNew=true) (h:vcG P q g F S K):vcG P q g F S (fun y T=>K y T∧(T=S∨ ∃o,T=S++[o])):=by
  have hop:vcO P q F S (fun y T=>splitG g.isG y fun y=>K y T) g.op→vcO P q F S (fun y T=>splitG g.isG y fun y=>K y T∧(T=S∨ ∃o,T=S++[o])) g.op:=fun h=>by
    rw [vcO_of (new_call hn)] at h ⊢
    exact op_mono (new_call hn) (op_new hn h) fun z T hz=>splitG_mono hz.1 fun z h=>⟨h,.inr hz.2⟩
  unfold vcG at h ⊢
  split
  · rename_i hg;rw [hg] at h;exact hop h
  · rename_i s want hg
    rw [hg] at h
    simp only at h
    generalize F.get s=c at*
    cases c<;>cases want<;>simp only at h ⊢ <;>first | exact h.elim | exact ⟨h,.inl rfl⟩ | exact ⟨h,by simp⟩ | (simpa using h) | exact hop h
theorem put_comm {F:Frame} {a b:GOp} {x y:AVal} (hz:hazard a b=false) (t:Nat):(putF (putF F a.dst x) b.dst y).get t=(putF (putF F b.dst y) a.dst x).get t:=by
  simp only [putF_get]
  by_cases h1:b.dst=some t
  · rw [if_pos h1]
    rw [if_neg]
    · rw [if_pos h1]
    · intro h2
      simp [hazard,h2,GOp.names,h1] at hz
  · rw [if_neg h1,if_neg h1]
theorem hz_reads {F:Frame} {a b:GOp} {x:AVal} (hz:hazard a b=false): ∀t∈b.reads,(putF F a.dst x).get t=F.get t:=fun t ht=>by
  rw [putF_get,if_neg]
  intro h
  have hm:t∈b.names:=by
    simp only [GOp.reads,List.mem_append] at ht
    simp only [GOp.names,List.mem_append]
    rcases ht with h | h
    · exact .inl (.inr h)
    · exact .inr h
  simp [hazard,h,hm] at hz
theorem hz_symm {a b:GOp} (hz:hazard a b=false):hazard b a=false:=by
  simp only [hazard,Bool.or_eq_false_iff] at hz ⊢
  exact ⟨hz.2,hz.1⟩
theorem res_form {F:Frame} {so:SOp} {d:Nat} (h:so.resD=some d) (hcl:so.isCl=false): ∃(C:Prop) (O:Nat→Ob) (V:Nat→Nat→AVal),∀(S:Store) (K:AVal→Store→Prop),
    vcOp P F S K so↔(C∧0<d∧d≤S.length∧S[S.length-d]?=some .dead∧ ∀v,K (V (S.length-d) v) (S.set (S.length-d) (O v))):=by
  cases so<;>simp only [SOp.resD,reduceCtorEq] at h
  case mkres d k b z x y=>
    cases h
    by_cases hx: ∃(kk:IntKind) (j:Nat),rd F x= .int kk (j:Int)
    · obtain ⟨kk,j,e⟩:=hx
      refine ⟨rd F y=rd F x∧b*j≤140737488355328,fun v=>.row v k (List.replicate j z).flatten,fun l v=>.sl l v 0 j,fun S K=>?_⟩
      simp only [vcOp,rdK_iff,e,wIdx]
      constructor
      · rintro ⟨j',e',h1,h2,h3,h4,h5,h6⟩
        have:j'=j:=by omega
        subst this
        exact ⟨⟨h1,h2⟩,h3,h4,h5,h6⟩
      · rintro ⟨⟨h1,h2⟩,h3,h4,h5,h6⟩
        exact ⟨j,rfl,h1,h2,h3,h4,h5,h6⟩
    · refine ⟨False,fun _=>.dead,fun _ _=>.junk,fun S K=>⟨fun h=>?_,fun h=>h.1.elim⟩⟩
      simp only [vcOp,rdK_iff] at h
      obtain ⟨kk,j,e,_⟩:=wIdx_iff h
      exact absurd ⟨kk,j,e⟩ hx
  case alres d k z=>
    cases h
    exact ⟨True,fun v=>.row v k z,fun l v=>.ptr l v 0,fun S K=>by simp only [vcOp,true_and]⟩
  case mapres d=>
    cases h
    exact ⟨True,fun v=>.mapo v [],fun l v=>.map l v,fun S K=>by simp only [vcOp,true_and]⟩
  case calres d k f xs zs=>
    cases h
    exact ⟨_,fun v=>.row v k (zs.map (rd F)),fun l v=>.ptr l v 0,fun S K=>by simp only [vcOp,rdsK_iff];exact Iff.rfl⟩
  case clres d k f xs=>cases hcl
theorem res_form2 {F:Frame} {so:SOp} {d:Nat} (h:so.resD=some d): ∃(ι:Type) (C:ι→Store→Prop) (O:ι→Nat→Ob) (V:ι→Nat→Nat→AVal),(∀(i:ι) (S:Store) (j:Nat) (o:Ob),S[j]?=some .dead→C i S→C i (S.set j o))∧ ∀(S:Store) (K:AVal→Store→Prop),
    vcOp P F S K so↔ ∃i,C i S∧0<d∧d≤S.length∧S[S.length-d]?=some .dead∧ ∀v,K (V i (S.length-d) v) (S.set (S.length-d) (O i v)):=by
  cases hc:so.isCl with
  | false=>
    obtain ⟨C,O,V,f⟩:=res_form (P:=P) (F:=F) h hc
    exact ⟨Unit,fun _ _=>C,fun _=>O,fun _=>V,fun _ _ _ _ _ h=>h,fun S K=>(f S K).trans ⟨fun h=>⟨(),h⟩,fun ⟨_,h⟩=>h⟩⟩
  | true=>
    cases so<;>simp only [SOp.isCl] at hc<;>first | (cases hc;done) | skip
    rename_i d' k f xs
    cases h
    refine ⟨Nat×List AVal,fun i S=>ACalls P f (xs.map (rd F)) S (fun r S'=> ∃v,r= .sl S.length v 0 i.1∧S'=S++[.row v k i.2]),fun i v=>.row v k i.2,fun i l v=>.sl l v 0 i.1,fun i S j o hd hC=>?_,fun S K=>?_⟩
    · have hj:=(List.getElem?_eq_some_iff.1 hd).1
      refine ACallsMono (ACalls_set hd ?_ hC) ?_
      · rintro r S' ⟨v,_,rfl⟩
        rw [List.getElem?_append_left hj];exact hd
      · rintro r T ⟨S',⟨v,rfl,rfl⟩,rfl⟩
        exact ⟨v,by rw [List.length_set],List.set_append_left _ _ hj⟩
    · simp only [vcOp,rdsK_iff]
      exact ⟨fun ⟨n,cs,h⟩=>⟨(n,cs),h⟩,fun ⟨i,h⟩=>⟨i.1,i.2,h⟩⟩
theorem res_open {q:Bool} {g:GOp} {F:Frame} {S:Store} {K:AVal→Store→Prop} {d:Nat} (h1:g.guard=none) (h2:g.isG=false) (h3:g.op.resD=some d):vcG P q g F S K↔vcOp P F S K g.op:=by
  have hc:g.op.isCall=false:=by cases hg:g.op<;>rw [hg] at h3<;>first | rfl | cases h3
  unfold vcG
  rw [h1,h2]
  simp only [splitG]
  rw [vcO_of hc]
theorem swap {qa qb:Bool} {a b:GOp} {F:Frame} {S:Store} {R:Frame→Store→Prop} (hok:mayPass qa qb a b=true) (hR: ∀F F' S,(∀t,F.get t=F'.get t)→R F S→R F' S)
    (h:vcG P qa a F S fun x S1=>vcG P qb b (putF F a.dst x) S1 fun y S2=>R (putF (putF F a.dst x) b.dst y) S2):
    vcG P qb b F S fun y S1=>vcG P qa a (putF F b.dst y) S1 fun x S2=>R (putF (putF F b.dst y) a.dst x) S2:=by
  simp only [mayPass,Bool.and_eq_true,Bool.or_eq_true,Bool.not_eq_true'] at hok
  obtain ⟨hz,hok⟩:=hok
  rcases hok with ((hf | ⟨⟨ha,hca⟩,hn | ⟨hb,hcb⟩⟩) | hok) | hok
  · obtain ⟨x,h1,h2⟩:=vcG_free hf h
    have h3:=vcG_congr (F':=F) (hz_reads hz) h1
    exact vcG_mono h3 fun y S2 hy=>h2 _ S2 _ (fun t ht=>(hz_reads (hz_symm hz) t ht).symm) (hR _ _ _ (put_comm hz) hy)
  · obtain ⟨x,h1,h2⟩:=vcG_quiet ha hca h
    have h3:=vcG_new hn (vcG_congr (F':=F) (hz_reads hz) h1)
    refine vcG_mono h3 fun y S2 hy=>?_
    obtain ⟨hy,hS⟩:=hy
    have h4:=h2 (putF F b.dst y) (fun z T=>z=x∧T=S) (fun t ht=>(hz_reads (hz_symm hz) t ht).symm) ⟨rfl,rfl⟩
    have h5:vcG P qa a (putF F b.dst y) S2 (fun z T=>z=x∧T=S2):=by
      rcases hS with rfl | ⟨o,rfl⟩
      · exact h4
      · exact vcG_push ha hca h4
    refine vcG_mono h5 ?_
    rintro z T ⟨rfl,rfl⟩
    exact hR _ _ _ (put_comm hz) hy
  · obtain ⟨x,h1,h2⟩:=vcG_quiet ha hca h
    have h3:=vcG_congr (F':=F) (hz_reads hz) h1
    obtain ⟨y,h4,h5⟩:=vcG_quiet hb hcb h3
    exact h5 F _ (fun _ _=>rfl) (h2 _ _ (fun t ht=>(hz_reads (hz_symm hz) t ht).symm) (hR _ _ _ (put_comm hz) h4))
  · split at hok
    · rename_i d d' ha hb
      simp only [Bool.and_eq_true,bne_iff_ne,ne_eq,Option.isNone_iff_eq_none,Bool.not_eq_true'] at hok
      obtain ⟨⟨⟨⟨⟨hd,ga⟩,gb⟩,ia⟩,ib⟩,icl⟩:=hok
      have slo: ∀ {g h:GOp} {F:Frame} {v:AVal},hazard g h=false→ ∀t∈h.op.slots,(putF F g.dst v).get t=F.get t:=fun hz t ht=>hz_reads hz t (by simp [GOp.reads,ht])
      obtain ⟨ι,Ca,Oa,Va,sa,fa⟩:=res_form2 (P:=P) (F:=F) ha
      obtain ⟨Cb,Ob_,Vb,fb⟩:=res_form (P:=P) (F:=F) hb icl
      rw [res_open ga ia ha,fa] at h
      obtain ⟨ai,c1,c2,c3,c4,h6⟩:=h
      have hb':=fun v=>op_congr (F':=F) (slo hz) ((res_open gb ib hb).1 (h6 v))
      obtain ⟨g1,g2,g3,g4,_⟩:=(fb _ _).1 (hb' 0)
      have hne:S.length-d≠S.length-d':=by rw [List.length_set] at g3;omega
      rw [List.length_set] at g3 g4
      rw [List.getElem?_set_ne hne] at g4
      rw [res_open gb ib hb,fb]
      refine ⟨g1,g2,g3,g4,fun v=>?_⟩
      rw [res_open ga ia ha]
      refine op_congr (F:=F) (fun t ht=>(slo (hz_symm hz) t ht).symm) ((fa _ _).2 ⟨ai,sa ai _ _ _ g4 c1,c2,by rw [List.length_set];exact c3,?_,fun v'=>?_⟩)
      · rw [List.length_set,List.getElem?_set_ne (Ne.symm hne)];exact c4
      · have hh:=((fb _ _).1 (hb' v')).2.2.2.2 v
        simp only [List.length_set] at hh ⊢
        rw [List.set_comm _ _ hne] at hh
        exact hR _ _ _ (put_comm hz) hh
    · cases hok
  · simp only [Bool.and_eq_true,Option.isNone_iff_eq_none,Bool.not_eq_true',Option.isSome_iff_exists] at hok
    obtain ⟨⟨⟨⟨⟨⟨hl,d,hb⟩,ga⟩,gb⟩,ia⟩,ib⟩,icl⟩:=hok
    have hq:a.op.quiet=true∧a.op.isCall=false:=by cases ha:a.op<;>rw [ha] at hl<;>simp only [SOp.isLook] at hl<;>first | (cases hl;done) | exact ⟨rfl,rfl⟩
    have open_: ∀ {F:Frame} {S:Store} {K:AVal→Store→Prop},vcG P qa a F S K↔vcO P qa F S K a.op:=fun {F S K}=>by
      unfold vcG
      rw [ga,ia]
      simp only [splitG]
    have slo: ∀ {v:AVal},∀t∈b.op.slots,(putF F a.dst v).get t=F.get t:=fun t ht=>hz_reads hz t (by simp [GOp.reads,ht])
    have sla: ∀ {v:AVal},∀t∈a.op.slots,F.get t=(putF F b.dst v).get t:=fun t ht=>(hz_reads (hz_symm hz) t (by simp [GOp.reads,ht])).symm
    rw [open_] at h
    obtain ⟨x,h1,h2⟩:=quietO hq.1 (.inr hq.2) h
    rw [res_open gb ib hb] at h1
    obtain ⟨Cb,Ob_,Vb,fb⟩:=res_form (P:=P) (F:=F) hb icl
    obtain ⟨c1,c2,c3,c4,c5⟩:=(fb _ _).1 (op_congr (F':=F) slo h1)
    rw [res_open gb ib hb,fb]
    refine ⟨c1,c2,c3,c4,fun v=>?_⟩
    rw [open_]
    have g1:=h2 (putF F b.dst (Vb (S.length-d) v)) (fun z T=>z=x∧T=S) sla ⟨rfl,rfl⟩
    rw [vcO_of hq.2] at g1
    have g2:=look_set (o:=Ob_ v) hl c4 g1
    rw [←vcO_of (q:=qa) hq.2] at g2
    refine vcO_mono g2 ?_
    rintro z T ⟨rfl,rfl⟩
    exact hR _ _ _ (put_comm hz) (c5 v)
theorem vcR_congr {K:Frame→Store→Prop} (hK: ∀F F' S,(∀t,F.get t=F'.get t)→K F S→K F' S): ∀(l:List (Nat×Bool×GOp)) (F F':Frame) (S:Store),(∀t,F.get t=F'.get t)→vcR P K l F S→vcR P K l F' S
  | [],F,F',S,he,h=>hK _ _ _ he h
  | x::l,F,F',S,he,h=>by
    simp only [vcR] at h ⊢
    refine vcG_mono (vcG_congr (fun t _=>he t) h) fun y S' hy=>?_
    have hh: ∀t,(putF F x.2.2.dst y).get t=(putF F' x.2.2.dst y).get t:=fun t=>by
      rw [putF_get,putF_get]
      split
      · rfl
      · exact he t
    exact ⟨chks_congr (fun k _ t _=>hh t) hy.1,vcR_congr hK l _ _ _ hh hy.2⟩
theorem vcR_mono {K K':Frame→Store→Prop} (hk: ∀F S,K F S→K' F S): ∀(l:List (Nat×Bool×GOp)) {F:Frame} {S:Store},vcR P K l F S→vcR P K' l F S
  | [],F,S,h=>hk _ _ h
  | x::l,F,S,h=>by
    simp only [vcR] at h ⊢
    exact vcG_mono h fun y S' hy=>⟨hy.1,vcR_mono hk l hy.2⟩
theorem pull {q:Bool} {a:GOp} {F:Frame} {S:Store} {Q:AVal→Store→Prop} {c:List (Nat×Nat×Bool×Rand)} (hq:a.op.quiet=true) (hc:q=true∨a.op.isCall=false) (hd: ∀k∈c,∀d,a.dst=some d→d ∉ k.1::k.2.2.2.slots)
    (h:vcG P q a F S fun y S'=>chks (putF F a.dst y) S' c∧Q y S'):chks F S c∧vcG P q a F S Q:=by
  obtain ⟨y,h1,h2⟩:=vcG_quiet hq hc h
  refine ⟨chks_congr (fun k hk t ht=>?_) h1.1,h2 F Q (fun _ _=>rfl) h1.2⟩
  rw [putF_get,if_neg fun e=>hd k hk t e ht]
theorem swapL {qa qb:Bool} {a b:GOp} {k:Nat×Nat×Bool×Rand} {F:Frame} {S:Store} {R:Frame→Store→Prop} (ha:a.op= .load k.2.1 k.2.2.1 k.2.2.2) (hd:a.dst=some k.1) (hg:a.guard=none) (hi:a.isG=false) (hs:k.1 ∉ k.2.2.2.slots)
    (hz:hazard a b=false) (hR: ∀F F' S,(∀t,F.get t=F'.get t)→R F S→R F' S)
    (h:vcG P qa a F S fun x S1=>vcG P qb b (putF F a.dst x) S1 fun y S2=>chk1 (putF (putF F a.dst x) b.dst y) S2 k∧R (putF (putF F a.dst x) b.dst y) S2):
    vcG P qb b F S fun y S1=>vcG P qa a (putF F b.dst y) S1 fun x S2=>R (putF (putF F b.dst y) a.dst x) S2:=by
  obtain ⟨x,h1,_⟩:=vcG_quiet (by rw [ha];rfl) (.inr (by rw [ha];rfl)) h
  refine vcG_mono (vcG_congr (F':=F) (hz_reads hz) h1) fun y S2 ⟨hk,hy⟩=>?_
  have hn: ∀t∈k.1::k.2.2.2.slots,b.dst≠some t:=fun t ht e=>by
    have:t∈a.names:=by
      simp only [GOp.names,ha,hd,SOp.slots,Option.toList_some,List.mem_append,List.mem_singleton]
      rcases List.mem_cons.1 ht with rfl | ht
      · exact .inl (.inl rfl)
      · exact .inl (.inr ht)
    simp [hazard,e,this] at hz
  have e1:(putF (putF F a.dst x) b.dst y).get k.1=x:=by
    rw [putF_get,if_neg (hn k.1 (by simp)),putF_get,if_pos hd]
  have e2:rd (putF (putF F a.dst x) b.dst y) k.2.2.2=rd (putF F b.dst y) k.2.2.2:=rd_congr fun t ht=>by
    rw [putF_get,if_neg (hn t (by simp [ht])),putF_get,if_neg,putF_get,if_neg (hn t (by simp [ht]))]
    rw [hd];intro e;cases e;exact hs ht
  unfold chk1 at hk
  rw [e1,e2] at hk
  obtain ⟨z,ez,hk2⟩:=det_load _ hk
  have ez:z=x:=ez
  subst ez
  unfold vcG
  rw [hg,hi,ha]
  have hcl:SOp.isCall (.load k.2.1 k.2.2.1 k.2.2.2)=false:=rfl
  simp only [splitG]
  rw [vcO_of hcl]
  simp only [vcOp,rdK_iff]
  exact hk2 _ (hR _ _ _ (put_comm hz) hy)
theorem bubble {K:Frame→Store→Prop} (hK: ∀F F' S,(∀t,F.get t=F'.get t)→K F S→K F' S) {x:Nat×Bool×GOp} {B:List (Nat×Bool×GOp)}: ∀(A:List (Nat×Bool×GOp)) (c:List (Nat×Nat×Bool×Rand)) {F:Frame} {S:Store},(∀a∈A,mayPass2 a.2.1 x.2.1 a.2.2 x.2.2=true)→
    (∀k∈c,k∈x.2.2.chk)→(∀a∈A,∀k∈c,∀d,a.2.2.dst=some d→d ∉ k.1::k.2.2.2.slots)→(x.2.2.chk=[]∨A.Pairwise fun a a'=>a.2.2.op.isLoad=true→ ∀d,a'.2.2.dst=some d→d ∉ a.2.2.names)→
    vcR P K (A++x::B) F S→vcG P x.2.1 x.2.2 F S fun y S'=>chks (putF F x.2.2.dst y) S' c∧vcR P K (A++B) (putF F x.2.2.dst y) S'
  | [],c,F,S,_,hc,_,_,h=>by
    simp only [List.nil_append,vcR] at h
    exact vcG_mono h fun y S' hy=>⟨fun k hk=>hy.1 k (hc k hk),hy.2⟩
  | a::A,c,F,S,hA,hc,hw,hp,h=>by
    have h':vcR P K (a::(A++x::B)) F S:=h
    simp only [vcR] at h'
    have hok:=hA a (by simp)
    simp only [mayPass2,Bool.and_eq_true,Bool.or_eq_true,List.isEmpty_iff,Bool.not_eq_true'] at hok
    obtain ⟨hac,hok⟩:=hok
    have fin: ∀ {y:AVal} {S':Store},vcR P K (A++B) (putF (putF F x.2.2.dst y) a.2.2.dst y) S'→True:=fun _=>trivial
    have hp':x.2.2.chk=[]∨A.Pairwise fun a a'=>a.2.2.op.isLoad=true→ ∀d,a'.2.2.dst=some d→d ∉ a.2.2.names:=hp.imp id fun h=>(List.pairwise_cons.1 h).2
    have done: ∀ {y:AVal} {S':Store},chks (putF F x.2.2.dst y) S' c∧(vcG P a.2.1 a.2.2 (putF F x.2.2.dst y) S' fun z T=>vcR P K (A++B) (putF (putF F x.2.2.dst y) a.2.2.dst z) T)→chks (putF F x.2.2.dst y) S' c∧vcR P K (a::A++B) (putF F x.2.2.dst y) S':=fun ⟨g1,g2⟩=>by
      refine ⟨g1,?_⟩
      simp only [List.cons_append,vcR]
      refine vcG_mono g2 fun z T hz=>⟨?_,hz⟩
      rw [hac]
      intro k hk
      cases hk
    have hRc: ∀(c:List (Nat×Nat×Bool×Rand)) (F F':Frame) (S:Store),(∀t,F.get t=F'.get t)→chks F S c∧vcR P K (A++B) F S→chks F' S c∧vcR P K (A++B) F' S:=fun c F F' S he hh=>⟨chks_congr (fun k _ t _=>he t) hh.1,vcR_congr hK (A++B) _ _ _ he hh.2⟩
    rcases hok with ⟨hm,hq⟩ | ⟨hz,hl⟩
    · have h2:=vcG_mono h' fun y S' hy=>bubble hK A c (fun b hb=>hA b (by simp [hb])) hc (fun b hb=>hw b (by simp [hb])) hp' hy.2
      have h3:=swap hm (R:=fun F S=>chks F S c∧vcR P K (A++B) F S) (hRc c) h2
      refine vcG_mono h3 fun y S' hy=>done ?_
      rcases hq with hq | ⟨hq,hcl⟩
      · have:c=[]:=by
          cases c with
          | nil=>rfl
          | cons k c=>have:=hc k (by simp);rw [hq] at this;cases this
        subst this
        exact ⟨fun k hk=>(by cases hk),vcG_mono hy fun z T hz=>hz.2⟩
      · exact pull hq hcl (hw a (by simp)) hy
    · unfold passLoad at hl
      split at hl
      case h_2=>cases hl
      rename_i n ag r t hop hdst
      simp only [Bool.and_eq_true,Option.isNone_iff_eq_none,Bool.not_eq_true',bne_iff_ne,ne_eq,List.any_eq_true,beq_iff_eq] at hl
      obtain ⟨⟨⟨hg,hi⟩,htr⟩,⟨k1,k2,k3,k4⟩,hk,⟨⟨e1,e2⟩,e3⟩,e4⟩:=hl
      subst e1;subst e2;subst e3
      split at e4
      case h_2=>cases e4
      rename_i s hs4
      simp only [beq_iff_eq] at e4
      subst e4
      subst hs4
      have hne:x.2.2.chk≠[]:=fun e=>by rw [e] at hk;cases hk
      have hpa:=hp.resolve_left hne
      have hnames: ∀t∈k1::Rand.slots (.t s),t∈a.2.2.names:=fun t ht=>by
        simp only [GOp.names,hop,hdst,SOp.slots,Option.toList_some,List.mem_append,List.mem_singleton]
        rcases List.mem_cons.1 ht with rfl | ht
        · exact .inl (.inl rfl)
        · exact .inl (.inr ht)
      have h2:=vcG_mono h' fun y S' hy=>bubble hK A ((k1,k2,k3,.t s)::c) (fun b hb=>hA b (by simp [hb])) (fun k hk'=>by
          rcases List.mem_cons.1 hk' with rfl | hk'
          · exact hk
          · exact hc k hk') (fun b hb k hk' d hd=>by
          rcases List.mem_cons.1 hk' with rfl | hk'
          · exact fun hm=>(List.pairwise_cons.1 hpa).1 b hb (by rw [hop];rfl) d hd (hnames d hm)
          · exact hw b (by simp [hb]) k hk' d hd) hp' hy.2
      have h3:=vcG_mono h2 fun y S' hy=>vcG_mono hy fun z T hz=>show chk1 (putF (putF F a.2.2.dst y) x.2.2.dst z) T (k1,k2,k3,.t s)∧(chks (putF (putF F a.2.2.dst y) x.2.2.dst z) T c∧vcR P K (A++B) (putF (putF F a.2.2.dst y) x.2.2.dst z) T) from
        ⟨hz.1 _ (by simp),fun k hk=>hz.1 k (by simp [hk]),hz.2⟩
      have h4:=swapL (k:=(k1,k2,k3,.t s)) (R:=fun F S=>chks F S c∧vcR P K (A++B) F S) hop hdst hg hi (by simpa [Rand.slots] using htr) hz (hRc c) h3
      refine vcG_mono h4 fun y S' hy=>done ?_
      exact pull (by rw [hop];rfl) (.inr (by rw [hop];rfl)) (hw a (by simp)) hy
theorem vcR_of: ∀(π:List Nat) {gl:List GOp} {K:Frame→Store→Prop} {m:Nat} {F:Frame} {S:Store},noChk ((permG π gl).take m)=true→vcOpsD P K m (expandG (permG π gl)) F S→vcR P K (numG gl m π) F S
  | [],gl,K,m,F,S,_,h=>by
    cases m<;>simpa [permG,expandG,numG,vcR,vcOpsD,vcOps] using h
  | i::π,gl,K,m,F,S,hn,h=>by
    have e:permG (i::π) gl=gl.getD i default::permG π gl:=rfl
    rw [e] at h hn
    have hn':noChk ((permG π gl).take (m-1))=true:=by
      cases m with
      | zero=>simp [noChk]
      | succ m=>
        simp only [List.take_succ_cons,noChk,List.all_cons,Bool.and_eq_true] at hn
        exact hn.2
    have rec0: ∀ {F:Frame} {S:Store},vcOpsD P K (m-1) (expandG (permG π gl)) F S→vcR P K (numG gl (m-1) π) F S:=fun h=>vcR_of π hn' h
    simp only [numG,vcR]
    simp only [expandG] at h
    generalize gl.getD i default=o at*
    have hm0:m≠0→o.chk=[]:=fun h0=>by
      cases m with
      | zero=>exact (h0 rfl).elim
      | succ m=>
        simp only [List.take_succ_cons,noChk,List.all_cons,Bool.and_eq_true,List.isEmpty_iff] at hn
        exact hn.1
    have rec_: ∀ {F:Frame} {S:Store},vcOpsD P K (m-1) (o.chk.map againG++expandG (permG π gl)) F S→chks F S o.chk∧vcR P K (numG gl (m-1) π) F S:=fun h=>by
      by_cases h0:m=0
      · subst h0
        obtain ⟨h1,h2⟩:=chks_ops _ h
        exact ⟨h1,rec0 h2⟩
      · rw [hm0 h0] at h ⊢
        exact ⟨fun k hk=>(by cases hk),rec0 h⟩
    unfold vcG
    cases m with
    | zero=>
      simp only [vcOpsD,vcOps] at h
      simp only [vcOpsD,Nat.zero_sub] at rec_
      have hop:vcOp P F S (fun x S'=>splitG o.isG x fun x=>vcOps P K (o.chk.map againG++expandG (permG π gl)) (putF F o.dst x) S') o.op→vcO P (decide (0<0)) F S (fun x S'=>splitG o.isG x fun x=>chks (putF F o.dst x) S' o.chk∧vcR P K (numG gl (0-1) π) (putF F o.dst x) S') o.op:=fun h=>
        vcO_mono (q:=false) (show vcO P false F S (fun x S'=>splitG o.isG x fun x=>vcOps P K (o.chk.map againG++expandG (permG π gl)) (putF F o.dst x) S') o.op from h) fun x S' h=>splitG_mono h fun x h=>rec_ h
      cases hg:o.guard with
      | none=>rw [hg] at h;exact hop h
      | some sw=>
        obtain ⟨g,want⟩:=sw
        rw [hg] at h
        simp only [getK_iff] at h ⊢
        generalize F.get g=c at*
        cases c<;>cases want<;>simp only at h ⊢ <;>first | exact h.elim | exact hop h | exact rec_ h
    | succ m=>
      simp only [vcOpsD] at h
      simp only [Nat.add_sub_cancel] at rec_
      have hop:vcOpD P F S (fun x S'=>splitG o.isG x fun x=>vcOpsD P K m (o.chk.map againG++expandG (permG π gl)) (putF F o.dst x) S') o.op→vcO P (decide (0<m+1)) F S (fun x S'=>splitG o.isG x fun x=>chks (putF F o.dst x) S' o.chk∧vcR P K (numG gl (m+1-1) π) (putF F o.dst x) S') o.op:=fun h=>by
        rw [show decide (0<m+1)=true from by simp]
        exact vcO_mono (q:=true) (show vcO P true F S (fun x S'=>splitG o.isG x fun x=>vcOpsD P K m (o.chk.map againG++expandG (permG π gl)) (putF F o.dst x) S') o.op from h) fun x S' h=>splitG_mono h fun x h=>rec_ h
      cases hg:o.guard with
      | none=>rw [hg] at h;exact hop h
      | some sw=>
        obtain ⟨g,want⟩:=sw
        rw [hg] at h
        simp only [getK_iff] at h ⊢
        generalize F.get g=c at*
        cases c<;>cases want<;>simp only at h ⊢ <;>first | exact h.elim | exact hop h | exact rec_ h
theorem any_order {main:Go.Vk.Cx} {ops:Array Oper} {hint gl:List GOp} {W:List Nat} {Q:Exit→Act→World→Prop} {K:Frame→Store→Prop} {E0:Env} {fz0:Nat→Prop} {S0:Store} {w0:World} {a0:Act}
    (hc:cOps P N ops ops.toList hint=some gl) (hedge: ∀(j:Nat) o,ops[j]?=some o→ ∀e∈o.after,Region.binds .any e=true→e.on<j) (hW: ∀g∈gl,∀t,g.dst=some t→t∈W)
    (hK: ∀F F' S,(∀t,F.get t=F'.get t)→K F S→K F' S) (hQ: ∀a' w',After N E0 fz0 S0 w0 a0 W K a' w'→Q .normal a' w'):
    ∀(fuel:Nat) (R:List (Nat×Bool×GOp)) (D:Array Bool) (a:Act) (w:World) (E:Env) (fz:Nat→Prop) (S:Store) (F:Frame),D.size=ops.size→Closed ops D→(∀j,j<ops.size→(D.getD j false=false↔ ∃x∈R,x.1=j))→
      R.Pairwise (fun x y=>okPair ops (noChk gl) x y=true)→(∀x∈R,x.2.2=gl.getD x.1 default∧x.1<ops.size)→(R.map (·.1)).Nodup→R.length≤fuel→vcR P K R F S→
      Ext E0 fz0 S0 w0 E fz S w→St E fz S w→RelF E fz w F a.tmps→a.tmps.size=N→a.defers=a0.defers→(∀t,t ∉ W→a.tmps[t]?=a0.tmps[t]?)→Go.Vk.anyV P main .any ops Q fuel D a w:=by
  obtain ⟨hlen,hget⟩:=cOps_get hc
  intro fuel
  induction fuel with
  | zero=>
    intro R D a w E fz S F hsz hcl hD hp hx hnd hf h hx0 st hF hN hd hu
    have hR:R=[]:=List.length_eq_zero_iff.1 (by omega)
    subst hR
    refine ⟨List.eq_nil_iff_forall_not_mem.2 fun i hi=>?_,hQ a w ⟨F,S,E,fz,h,hx0,st,hF,hN,hd,hu⟩⟩
    obtain ⟨h0,o,ho,_⟩:=mem_ready.1 hi
    have hlt:=(Array.getElem?_eq_some_iff.1 ho).1
    rw [getD_true (by omega)] at h0
    obtain ⟨x,hx,_⟩:=(hD i hlt).1 h0
    cases hx
  | succ fuel ih=>
    intro R D a w E fz S F hsz hcl hD hp hx hnd hf h hx0 st hF hN hd hu
    refine ⟨fun hr=>?_,fun i hi=>?_⟩
    · have hall:=not_stuck hedge hsz hr
      have hR:R=[]:=List.eq_nil_iff_forall_not_mem.2 fun x hx'=>by
        have h1:=(hx x hx').2
        have h2:=(hD x.1 h1).2 ⟨x,hx',rfl⟩
        rw [hall _ h1] at h2;cases h2
      subst hR
      exact hQ a w ⟨F,S,E,fz,h,hx0,st,hF,hN,hd,hu⟩
    · obtain ⟨h0,o,ho,ha⟩:=mem_ready.1 hi
      have hlt:=(Array.getElem?_eq_some_iff.1 ho).1
      rw [getD_true (by omega)] at h0
      obtain ⟨x,hxm,hxi⟩:=(hD i hlt).1 h0
      obtain ⟨A,B,rfl⟩:=List.append_of_mem hxm
      rw [List.pairwise_append] at hp
      obtain ⟨hpA,hpB,hpAB⟩:=hp
      have hpass: ∀b∈A,mayPass2 b.2.1 x.2.1 b.2.2 x.2.2=true:=fun b hb=>by
        have h1:=hpAB b hb x (by simp)
        simp only [okPair,Bool.and_eq_true] at h1
        have h1:=h1.1
        simp only [Bool.or_eq_true] at h1
        rcases h1 with h1 | h1
        · rw [hxi] at h1
          have h2:=ready_wait hcl hi h1
          have h3:=(hD b.1 (hx b (by simp [hb])).2).2 ⟨b,by simp [hb],rfl⟩
          rw [h2] at h3;cases h3
        · exact h1
      have hch:x.2.2.chk=[]∨A.Pairwise fun a a'=>a.2.2.op.isLoad=true→ ∀d,a'.2.2.dst=some d→d ∉ a.2.2.names:=by
        by_cases hnc:noChk gl=true
        · refine .inl ?_
          obtain ⟨x1,x2⟩:=hx x (by simp)
          have hxl:x.1<gl.length:=by rw [←hlen];simpa using x2
          simp only [noChk,List.all_eq_true,List.isEmpty_iff] at hnc
          refine hnc _ ?_
          rw [x1,List.getD_eq_getElem?_getD,List.getElem?_eq_getElem hxl]
          simp
        · refine .inr (hpA.imp fun {a a'} hq hld d hd=>?_)
          simp only [okPair,Bool.and_eq_true,Bool.or_eq_true,hnc,false_or,Bool.false_eq_true,Bool.not_eq_true',hld,Bool.true_eq_false] at hq
          have:=hq.2
          simp only [overB,hd,List.contains_eq_mem,decide_eq_false_iff_not] at this
          exact this
      have hb:=vcG_mono (bubble hK A [] hpass (fun k hk=>(by cases hk)) (fun a _ k hk=>(by cases hk)) hch h) fun y S' hy=>hy.2
      obtain ⟨g,ro,hg,hcop,hgd,hdst,hdo⟩:=hget i o (by simpa using ho)
      have hxg:x.2.2=g:=by rw [(hx x (by simp)).1,hxi,List.getD_eq_getElem?_getD,hg];rfl
      rw [hxg] at hb
      refine op_step ho hcop hgd st hF hb fun y S' E' fz' w' v hk' hx' hs hr=>?_
      have nd: ∀b∈A++B,b.1≠i:=fun b hb e=>by
        simp only [List.map_append,List.map_cons,List.nodup_append,List.nodup_cons,List.mem_map,List.mem_cons] at hnd
        rcases List.mem_append.1 hb with hb | hb
        · exact hnd.2.2 b.1 ⟨b,hb,rfl⟩ x.1 (.inl rfl) (by rw [e,hxi])
        · exact hnd.2.1.1 ⟨b,hb,by rw [e,hxi]⟩
      refine ih (A++B) _ _ w' E' fz' S' (putF F g.dst y) (by simpa using hsz) (closed_set hcl hsz hi) (fun j hj=>?_) ?_ (fun z hz=>hx z ?_) ?_ ?_ hk' (hx0.trans hx') hs (by rw [hdst];exact relF_put (RelF.mono st hx' hF) hr (by rw [hN];exact hdo)) (by rw [put_size];exact hN) (by rw [put_defers];exact hd) fun t ht=>?_
      · rw [getD_set (by omega)]
        by_cases e:j=i
        · rw [if_pos e]
          refine ⟨fun h=>(by cases h),fun ⟨b,hb,e'⟩=>(nd b hb (by rw [e',e])).elim⟩
        · rw [if_neg e,hD j hj]
          constructor
          · rintro ⟨b,hb,e'⟩
            refine ⟨b,?_,e'⟩
            rcases List.mem_append.1 hb with hb | hb
            · exact List.mem_append.2 (.inl hb)
            · rcases List.mem_cons.1 hb with rfl | hb
              · exact (e (by rw [←e',hxi])).elim
              · exact List.mem_append.2 (.inr hb)
          · rintro ⟨b,hb,e'⟩
            refine ⟨b,?_,e'⟩
            rcases List.mem_append.1 hb with hb | hb
            · exact List.mem_append.2 (.inl hb)
            · exact List.mem_append.2 (.inr (List.mem_cons_of_mem _ hb))
      · exact List.pairwise_append.2 ⟨hpA,(List.pairwise_cons.1 hpB).2,fun b hb c hc=>hpAB b hb c (List.mem_cons_of_mem _ hc)⟩
      · rcases List.mem_append.1 hz with hb | hb
        · exact List.mem_append.2 (.inl hb)
        · exact List.mem_append.2 (.inr (List.mem_cons_of_mem _ hb))
      · simp only [List.map_append,List.map_cons,List.nodup_append,List.nodup_cons] at hnd ⊢
        exact ⟨hnd.1,hnd.2.1.2,fun b hb c hc=>hnd.2.2 b hb c (List.mem_cons_of_mem _ hc)⟩
      · simp only [List.length_append,List.length_cons] at hf ⊢;omega
      · rw [put_other,hu t ht]
        intro e
        exact ht (hW g (List.mem_of_getElem? hg) t (by rw [hdst,e]))
theorem allPairs_iff {ops:Array Oper} {nc:Bool}: ∀ {l:List (Nat×Bool×GOp)},allPairs ops nc l=true→l.Pairwise (fun x y=>okPair ops nc x y=true)
  | [],_=>.nil
  | x::l,h=>by
    simp only [allPairs,Bool.and_eq_true,List.all_eq_true] at h
    exact .cons h.1 (allPairs_iff h.2)
theorem numG_map {gl:List GOp}: ∀(π:List Nat) (m:Nat),(numG gl m π).map (·.1)=π
  | [],_=>rfl
  | i::π,m=>by simp [numG,numG_map π]
theorem numG_mem {gl:List GOp}: ∀ {π:List Nat} {m:Nat} {x:Nat×Bool×GOp},x∈numG gl m π→x.2.2=gl.getD x.1 default∧x.1∈π
  | [],_,_,h=>by simp [numG] at h
  | i::π,m,x,h=>by
    simp only [numG] at h
    rcases List.mem_cons.1 h with rfl | h
    · exact ⟨rfl,by simp⟩
    · have:=numG_mem h;exact ⟨this.1,by simp [this.2]⟩
theorem nodup_of: ∀ {l:List Nat},nodupB l=true→l.Nodup
  | [],_=>.nil
  | a::l,h=>by
    simp only [nodupB,Bool.and_eq_true,Bool.not_eq_true',List.contains_eq_mem,decide_eq_false_iff_not] at h
    exact List.nodup_cons.2 ⟨h.1,nodup_of h.2⟩
theorem expand_mem {g:GOp}: ∀ {l:List GOp},g∈l→g∈expandG l
  | [],h=>by cases h
  | o::l,h=>by
    rcases List.mem_cons.1 h with rfl | h
    · simp [expandG]
    · simp only [expandG]
      exact List.mem_cons_of_mem _ (List.mem_append.2 (.inr (expand_mem h)))
theorem draw_region {main:Go.Vk.Cx} {id:Nat} {ops:Array Oper} {hint gl:List GOp} {m:Nat} {π:List Nat} (hc:cOps P N ops ops.toList hint=some gl) (hok:drawOk ops m π gl=true) (hf:P.follows .mixedOrders=true)
    {K:Frame→Store→Prop} {E:Env} {fz:Nat→Prop} {S:Store} {w:World} {F:Frame} {a:Act} (st:St E fz S w) (hF:RelF E fz w F a.tmps) (hN:a.tmps.size=N) (h:vcOpsD P K m (expandG (permG π gl)) F S):
    Go.Vk.wpV P main (Code.region id ops true) (fun e a' w'=>e= .normal∧After N E fz S w a (gWrites (expandG (permG π gl))) K a' w') a w:=by
  obtain ⟨hlen,hget⟩:=cOps_get hc
  simp only [drawOk,Bool.and_eq_true,List.all_eq_true,List.mem_range,decide_eq_true_eq,List.contains_eq_mem] at hok
  obtain ⟨⟨⟨⟨⟨k1,k2⟩,k3⟩,k4⟩,k5⟩,k6⟩:=hok
  have hrep: ∀j,(Array.replicate ops.size false).getD j false=false:=fun j=>by
    rw [Array.getD_eq_getD_getElem?]
    cases hj:(Array.replicate ops.size false)[j]? with
    | none=>rfl
    | some b=>simp [Array.getElem?_replicate] at hj;simp [hj.2]
  have hm:=numG_map (gl:=gl) π m
  have hnd:=nodup_of k1
  have hlen2:(numG gl m π).length≤ops.size:=by
    have h1:(numG gl m π).length=π.length:=by have:=congrArg List.length hm;simpa only [List.length_map] using this
    rw [h1]
    have h2:π.length≤(List.range ops.size).length:=by
      refine hnd.length_le_of_subset fun i hi=>List.mem_range.2 (k2 i hi)
    simpa using h2
  have hWr: ∀g∈gl,∀t,g.dst=some t→t∈gWrites (expandG (permG π gl)):=fun g hg t ht=>by
    obtain ⟨i,hi,e⟩:=List.getElem_of_mem hg
    have hin:i<ops.size:=by have:ops.toList.length=gl.length:=hlen;simp at this;omega
    refine gWrites_mem (g:=g) (expand_mem ?_) ht
    simp only [permG,List.mem_map]
    exact ⟨i,k3 i hin,by rw [List.getD_eq_getElem?_getD,List.getElem?_eq_getElem hi,e];rfl⟩
  have hv:=vcR_mono (K':=fun F' S'=> ∃F0,(∀t,F0.get t=F'.get t)∧K F0 S') (fun F' S' h=>⟨F',fun _=>rfl,h⟩) _ (vcR_of π k6 h)
  have g1: ∀(j:Nat) o,ops[j]?=some o→ ∀e∈o.after,Region.binds .any e=true→e.on<j:=fun j o ho e he hb=>by
    have hj:j<ops.size:=(Array.getElem?_eq_some_iff.1 ho).1
    have:=k4 j hj
    rw [ho] at this
    have:=(Array.all_eq_true_iff_forall_mem.1 this) e he
    simpa [hb] using this
  have g2: ∀a' w',After N E fz S w a (gWrites (expandG (permG π gl))) (fun F' S'=> ∃F0,(∀t,F0.get t=F'.get t)∧K F0 S') a' w'→After N E fz S w a (gWrites (expandG (permG π gl))) K a' w':=fun a' w' hA=>by
    obtain ⟨F',S',E',fz',⟨F0,q0,q1⟩,q2,q3,q4,q5,q6,q7⟩:=hA
    exact ⟨F0,S',E',fz',q1,q2,q3,fun t=>by rw [q0];exact q4 t,q5,q6,q7⟩
  have g3: ∀j,j<ops.size→((Array.replicate ops.size false).getD j false=false↔ ∃x∈numG gl m π,x.1=j):=fun j hj=>by
    refine ⟨fun _=>?_,fun _=>hrep j⟩
    have h1:j∈(numG gl m π).map (·.1):=by rw [hm];exact k3 j hj
    obtain ⟨x,h2,h3⟩:=List.mem_map.1 h1
    exact ⟨x,h2,h3⟩
  have g4: ∀x∈numG gl m π,x.2.2=gl.getD x.1 default∧x.1<ops.size:=fun x hx=>by
    obtain ⟨h1,h2⟩:=numG_mem hx
    exact ⟨h1,k2 _ h2⟩
  refine Go.Vk.wpV_region_any hf fun w₁ h₁=>?_
  obtain ⟨st1,hx1⟩:=st.itf h₁
  obtain ⟨st',hx2⟩:=st1.same (w':={w₁ with drawn:=w₁.drawn+1}) rfl rfl rfl (Tp.of rfl (Nat.le_succ _))
  have hx':=hx1.trans hx2
  exact (any_order hc g1 hWr (fun F1 F2 S1 he ⟨F0,h1,h2⟩=>⟨F0,fun t=>(h1 t).trans (he t),h2⟩) (fun a' w' hA=>⟨rfl,g2 a' w' hA⟩) ops.size (numG gl m π) _ a _ E fz S F (by simp) (fun j o _ hj=>by rw [hrep] at hj;cases hj) g3 (allPairs_iff k5) g4 (by rw [hm];exact hnd) hlen2 hv hx' st' (RelF.mono st hx' hF) hN rfl (fun _ _=>rfl))
end
end Go.Vc
end
section
namespace Go.Vc
def writes:SCode→List Nat
  | .skip=>[]
  | .ops l _ _=>gWrites l
  | .seq a b=>writes a++writes b
  | .join _ _ _ a b=>writes a++writes b
  | .cond _ a b=>writes a++writes b
  | .block _ a=>writes a
  | .loop _ _ _ a=>writes a
  | .exit _=>[]
  | .ret=>[]
def apart (keep W:List Nat):Bool:=keep.all fun t=> !W.contains t
def badC:SCode:= .ops [⟨none,.bad,none,false,[]⟩] none []
def comp (P:Program) (N:Nat):Code→SCode→Option SCode
  | .skip,_=>some .skip
  | .region _ ops false,.ops l none keep=>(match cOps P N ops ops.toList l with | some gl=>some (.ops gl none keep) | none=>none)
  | .region _ ops true,.ops l (some d) keep=>(match cOps P N ops ops.toList (unperm d.2.2 (realG l)) with | some gl=>if drawOk ops d.1 d.2.2 gl && P.follows .mixedOrders then some (.ops (expandG (permG d.2.2 gl)) (some d) keep) else none | none=>none)
  | .seq a b,.seq x y=>(match comp P N a x,comp P N b y with | some x,some y=>some (.seq x y) | _,_=>none)
  | .seq a b,.join keep W n x y=>(match comp P N a x,comp P N b y with | some x,some y=>if apart keep (writes x) then some (.join keep W n x y) else none | _,_=>none)
  | .cond c a b,.cond _ x y=>(match cRand c,comp P N a x,comp P N b y with | some c,some x,some y=>some (.cond c x y) | _,_,_=>none)
  | .block id a,.block _ x=>(match comp P N a x with | some x=>some (.block id x) | none=>none)
  | .loop a,.loop keep W n x=>(match comp P N a x with | some x=>if apart keep (writes x) then some (.loop keep W n x) else none | none=>none)
  | .exit id,_=>some (.exit id)
  | .ret,_=>some .ret
  | .rangeFunc ..,_=>some badC
  | .scope _,_=>some badC
  | .label _,_=>some badC
  | .goto _,_=>some badC
  | .refuse _,_=>some badC
  | _,_=>none
def toExit:SExit→Exit
  | .normal=>.normal
  | .exit id=>.exit id
  | .ret=>.ret
def Lift (N:Nat) (E:Env) (fz:Nat→Prop) (S:Store) (w:World) (a:Act) (W:List Nat) (Q:SExit→Frame→Store→Prop):Exit→Act→World→Prop
  | .normal,a',w'=>After N E fz S w a W (Q .normal) a' w'
  | .exit id,a',w'=>After N E fz S w a W (Q (.exit id)) a' w'
  | .ret,a',w'=>After N E fz S w a W (Q .ret) a' w'
  | _,_,_=>False
section
variable {P : Program} {N : Nat}
theorem After.mono {E:Env} {fz:Nat→Prop} {S:Store} {w:World} {a:Act} {W W':List Nat} {K K':Frame→Store→Prop} {a':Act} {w':World} (h:After N E fz S w a W K a' w') (hW: ∀t,t∈W→t∈W') (hK: ∀F S,K F S→K' F S):After N E fz S w a W' K' a' w':=by
  obtain ⟨F',S',E',fz',q1,q2,q3,q4,q5,q6,q7⟩:=h
  exact ⟨F',S',E',fz',hK _ _ q1,q2,q3,q4,q5,q6,fun t ht=>q7 t fun h=>ht (hW t h)⟩
theorem After.trans {E E1:Env} {fz fz1:Nat→Prop} {S S1:Store} {w w1:World} {a a1:Act} {W W1 W2:List Nat} {K:Frame→Store→Prop} {a':Act} {w':World} (hx:Ext E fz S w E1 fz1 S1 w1) (hd:a1.defers=a.defers) (ht: ∀t,t ∉ W1→a1.tmps[t]?=a.tmps[t]?)
    (h:After N E1 fz1 S1 w1 a1 W2 K a' w') (h1: ∀t,t∈W1→t∈W) (h2: ∀t,t∈W2→t∈W):After N E fz S w a W K a' w':=by
  obtain ⟨F',S',E',fz',q1,q2,q3,q4,q5,q6,q7⟩:=h
  refine ⟨F',S',E',fz',q1,hx.trans q2,q3,q4,q5,by rw [q6,hd],fun t hn=>?_⟩
  rw [q7 t (fun h=>hn (h2 t h)),ht t (fun h=>hn (h1 t h))]
theorem onlyK_iff {keep:List Nat} {F:Frame} {K:Frame→Prop}:onlyK keep F K↔K (keep.map fun t=>(t,F.get t)):=by
  induction keep generalizing K with
  | nil=>exact Iff.rfl
  | cons t keep ih=>simp only [onlyK,getK_iff,ih,List.map_cons]
theorem getsK_iff {W:List Nat} {F:Frame} {K:List AVal→Prop}:getsK W F K↔K (W.map F.get):=by
  induction W generalizing K with
  | nil=>exact Iff.rfl
  | cons t W ih=>simp only [getsK,getK_iff,ih,List.map_cons]
theorem St.sub {E:Env} {fz:Nat→Prop} {S S':Store} {w:World} (st:St E fz S w) (h: ∀(l:Nat) o,S'[l]?=some o→o= .dead∨S[l]?=some o):St E fz S' w∧Ext E fz S w E fz S' w:=by
  have own: ∀ {l b:Nat},OwnAt E S' l b→OwnAt E S l b:=fun {l b} ⟨o,h1,h2⟩=>by
    rcases h l o h1 with rfl | h3
    · simp [obBlock] at h2
    · exact ⟨o,h3,h2⟩
  refine ⟨⟨fun l o hl=>?_,fun l l' b h1 h2=>st.sep l l' b (own h1) (own h2),st.fzlt,st.fresh⟩,⟨fun _ _ h=>h,fun _ h=>h,fun _ h=>.inl h,fun _ _ _=>rfl,fun b ⟨l,h⟩=>.inl ⟨l,own h⟩,Nat.le_refl _,rfl,rfl,(Tp.of rfl (Nat.le_refl _))⟩⟩
  rcases h l o hl with rfl | h3
  · trivial
  · exact st.ok l o h3
theorem zipF_get: ∀(W:List Nat) (xs:List AVal) (F:Frame) (t:Nat),(∃i:Nat,W[i]?=some t∧xs[i]?=some ((zipF W xs F).get t))∨(zipF W xs F).get t=F.get t
  | [],xs,F,t=>by cases xs<;>simp [zipF]
  | u::W,[],F,t=>by simp [zipF]
  | u::W,x::xs,F,t=>by
    simp only [zipF,Frame.get]
    cases h:Nat.beq u t with
    | true=>
      have e:u=t:=Nat.eq_of_beq_eq_true h
      exact .inl ⟨0,by simp [e],by simp⟩
    | false=>
      rcases zipF_get W xs F t with ⟨i,h1,h2⟩ | h1
      · exact .inl ⟨i+1,by simpa using h1,by simpa using h2⟩
      · exact .inr h1
theorem keepF_get (keep:List Nat) (F:Frame) (t:Nat):Frame.get (keep.map fun t=>(t,F.get t)) t=F.get t∧t∈keep∨Frame.get (keep.map fun t=>(t,F.get t)) t= .junk:=by
  induction keep with
  | nil=>exact .inr rfl
  | cons u keep ih=>
    simp only [List.map_cons,Frame.get]
    cases h:Nat.beq u t with
    | true=>
      have e:u=t:=Nat.eq_of_beq_eq_true h
      subst e
      exact .inl ⟨rfl,by simp⟩
    | false=>
      rcases ih with ⟨h1,h2⟩ | h1
      · exact .inl ⟨h1,by simp [h2]⟩
      · exact .inr h1
theorem allA_iff {n:Nat} {f:List AVal→Prop}:allA n f↔ ∀xs:List AVal,xs.length=n→f xs:=by
  induction n generalizing f with
  | zero=>simp [allA]
  | succ n ih=>
    simp only [allA,ih]
    constructor
    · intro h xs hx
      cases xs with
      | nil=>simp at hx
      | cons x xs=>exact h x xs (by simpa using hx)
    · intro h x xs hx
      exact h (x::xs) (by simp [hx])
theorem apart_spec {keep W:List Nat} (h:apart keep W=true) {t:Nat} (ht:t∈keep):t ∉ W:=by
  have:=List.all_eq_true.1 h t ht
  simpa using this
theorem relF_zip {E E':Env} {fz fz':Nat→Prop} {S S':Store} {w w':World} {F F':Frame} {a a':Act} {keep W:List Nat} {Wr:List Nat} (st:St E fz S w) (hx:Ext E fz S w E' fz' S' w') (hF:RelF E fz w F a.tmps) (hF':RelF E' fz' w' F' a'.tmps)
    (hu: ∀t,t ∉ Wr→a'.tmps[t]?=a.tmps[t]?) (hk:apart keep Wr=true):RelF E' fz' w' (zipF W (W.map F'.get) (keep.map fun t=>(t,F.get t))) a'.tmps:=by
  intro t
  rcases zipF_get W (W.map F'.get) (keep.map fun t=>(t,F.get t)) t with ⟨i,h1,h2⟩ | h1
  · rw [List.getElem?_map,h1] at h2
    simp at h2
    rw [←h2]
    exact hF' t
  · rw [h1]
    rcases keepF_get keep F t with ⟨h2,h3⟩ | h2
    · rw [h2,getD_of (hu t (apart_spec hk h3))]
      exact st.rel hx (hF t)
    · rw [h2];simp [Rel]
theorem lift_wp {E E1:Env} {fz fz1:Nat→Prop} {S S1:Store} {w w1:World} {a a1:Act} {W W1 W2:List Nat} {Q:SExit→Frame→Store→Prop} {e:Exit} {a':Act} {w':World} (hx:Ext E fz S w E1 fz1 S1 w1) (hd:a1.defers=a.defers) (ht: ∀t,t ∉ W1→a1.tmps[t]?=a.tmps[t]?) (h1: ∀t,t∈W1→t∈W) (h2: ∀t,t∈W2→t∈W)
    (h:Lift N E1 fz1 S1 w1 a1 W2 Q e a' w'):Lift N E fz S w a W Q e a' w':=by
  cases e<;>simp only [Lift] at h ⊢ <;>exact h.trans hx hd ht h1 h2
def DrawSound (P:Program) (N:Nat):Prop:= ∀(main:Go.Vk.Cx) (id:Nat) (ops:Array Oper) (hint gl:List GOp) (m:Nat) (π:List Nat),cOps P N ops ops.toList hint=some gl→drawOk ops m π gl=true→P.follows .mixedOrders=true→
  ∀ {K:Frame→Store→Prop} {E:Env} {fz:Nat→Prop} {S:Store} {w:World} {F:Frame} {a:Act},St E fz S w→RelF E fz w F a.tmps→a.tmps.size=N→vcOpsD P K m (expandG (permG π gl)) F S→
    Go.Vk.wpV P main (Code.region id ops true) (fun e a' w'=>e= .normal∧After N E fz S w a (gWrites (expandG (permG π gl))) K a' w') a w
theorem own_deads {E:Env} {S:Store} {r b:Nat}:Own E (S++List.replicate r .dead) b↔Own E S b:=by
  constructor
  · rintro ⟨l,o,h1,h2⟩
    rcases Nat.lt_or_ge l S.length with h | h
    · rw [List.getElem?_append_left h] at h1;exact ⟨l,o,h1,h2⟩
    · rw [List.getElem?_append_right h,List.getElem?_replicate] at h1
      split at h1
      · cases h1;simp [obBlock] at h2
      · cases h1
  · rintro ⟨l,o,h1,h2⟩
    exact ⟨l,o,by rw [List.getElem?_append_left (List.getElem?_eq_some_iff.1 h1).1];exact h1,h2⟩
theorem St.deads {E:Env} {fz:Nat→Prop} {S:Store} {w:World} (st:St E fz S w) (r:Nat):St E fz (S++List.replicate r .dead) w:=by
  have back: ∀ {l:Nat} {o:Ob},(S++List.replicate r Ob.dead)[l]?=some o→S[l]?=some o∨o= .dead:=fun {l o} h1=>by
    rcases Nat.lt_or_ge l S.length with h | h
    · rw [List.getElem?_append_left h] at h1;exact .inl h1
    · rw [List.getElem?_append_right h,List.getElem?_replicate] at h1
      split at h1
      · cases h1;exact .inr rfl
      · cases h1
  refine ⟨fun l o h=>?_,fun l l' b ⟨o,h1,h2⟩ ⟨o',h1',h2'⟩=>?_,st.fzlt,st.fresh⟩
  · rcases back h with h | rfl
    · exact st.ok l o h
    · trivial
  · rcases back h1 with h | rfl
    · rcases back h1' with h' | rfl
      · exact st.sep l l' b ⟨o,h,h2⟩ ⟨o',h',h2'⟩
      · simp [obBlock] at h2'
    · simp [obBlock] at h2
theorem Ext.deads {E E':Env} {fz fz':Nat→Prop} {S S':Store} {w w':World} {r:Nat} (h:Ext E fz (S++List.replicate r .dead) w E' fz' S' w'):Ext E fz S w E' fz' S' w':=
  ⟨h.env,h.frz,fun b hb=>(h.fznew b hb).imp id (Or.imp own_deads.1 id),fun b hb hn=>h.keep b hb fun q=>hn (own_deads.1 q),fun b hb=>(h.own b hb).imp own_deads.1 id,h.size,h.os,h.output,h.tape⟩
theorem code_sound {main:Go.Vk.Cx} (hD:DrawSound P N): ∀(c:Code) (hint sc:SCode),comp P N c hint=some sc→ ∀ {Q:SExit→Frame→Store→Prop} {E:Env} {fz:Nat→Prop} {S:Store} {w:World} {F:Frame} {a:Act},
    St E fz S w→RelF E fz w F a.tmps→a.tmps.size=N→vc P sc Q F S→Go.Vk.wpV P main c (Lift N E fz S w a (writes sc) Q) a w
  | .skip,hint,sc,hc,Q,E,fz,S,w,F,a,st,hF,hN,h=>by
    simp only [comp] at hc
    cases hc
    exact Go.Vk.wpV_skip ⟨F,S,E,fz,h,.refl,st,hF,hN,rfl,fun _ _=>rfl⟩
  | .exit id,hint,sc,hc,Q,E,fz,S,w,F,a,st,hF,hN,h=>by
    simp only [comp] at hc
    cases hc
    exact Go.Vk.wpV_exit ⟨F,S,E,fz,h,.refl,st,hF,hN,rfl,fun _ _=>rfl⟩
  | .ret,hint,sc,hc,Q,E,fz,S,w,F,a,st,hF,hN,h=>by
    simp only [comp] at hc
    cases hc
    exact Go.Vk.wpV_ret ⟨F,S,E,fz,h,.refl,st,hF,hN,rfl,fun _ _=>rfl⟩
  | .region id ops draw,hint,sc,hc,Q,E,fz,S,w,F,a,st,hF,hN,h=>by
    cases draw
    · cases hint<;>(try simp only [comp] at hc)<;>first | (cases hc;done) | skip
      rename_i l d keep
      cases d<;>(try simp only [comp] at hc)<;>first | (cases hc;done) | skip
      split at hc<;>cases hc
      rename_i gl hgl
      simp only [vc] at h
      refine Go.Vk.wpV_region ?_
      have:=ops_sound (main:=main) (Q:=Lift N E fz S w a (writes (.ops gl none keep)) Q) ops.toList l gl 0 (fun j=>by simp) hgl st hF hN h (fun a' w' hA=>?_)
      · simpa [List.range_eq_range'] using this
      · obtain ⟨F',S',E',fz',q1,q2,q3,q4,q5,q6,q7⟩:=hA
        rw [onlyK_iff] at q1
        refine ⟨_,S',E',fz',q1,q2,q3,fun t=>?_,q5,q6,q7⟩
        rcases keepF_get keep F' t with ⟨h1,_⟩ | h1
        · rw [h1];exact q4 t
        · rw [h1];simp [Rel]
    · cases hint<;>(try simp only [comp] at hc)<;>first | (cases hc;done) | skip
      rename_i l d keep
      cases d<;>(try simp only [comp] at hc)<;>first | (cases hc;done) | skip
      split at hc
      · rename_i gl hgl
        split at hc
        · rename_i hok
          cases hc
          simp only [Bool.and_eq_true] at hok
          simp only [vc] at h
          refine Go.Vk.wpV_mono (hD main id ops _ gl _ _ hgl hok.1 hok.2 (st.deads _) hF hN h) ?_
          rintro e a' w' ⟨rfl,hA⟩
          obtain ⟨F',S',E',fz',q1,q2,q3,q4,q5,q6,q7⟩:=hA
          rw [onlyK_iff] at q1
          refine ⟨_,S',E',fz',q1,q2.deads,q3,fun t=>?_,q5,q6,q7⟩
          rcases keepF_get keep F' t with ⟨h1,_⟩ | h1
          · rw [h1];exact q4 t
          · rw [h1];simp [Rel]
        · cases hc
      · cases hc
  | .cond c x y,hint,sc,hc,Q,E,fz,S,w,F,a,st,hF,hN,h=>by
    cases hint<;>simp only [comp] at hc<;>first | (cases hc;done) | skip
    split at hc<;>cases hc
    rename_i r sx sy hr hx hy
    have hrel:=eval_rel hF hr
    simp only [vc,rdK_iff] at h
    have tr:vc P sx Q F S→a.eval c= .bool true→Go.Vk.wpV P main (Code.cond c x y) (Lift N E fz S w a (writes (.cond r sx sy)) Q) a w:=fun hv he=>
      Go.Vk.wpV_cond_true he (Go.Vk.wpV_mono (code_sound hD x _ sx hx st hF hN hv) fun e a' w' hl=>lift_wp .refl rfl (W1:=[]) (fun _ _=>rfl) (by simp) (fun t ht=>by simp [writes,ht]) hl)
    have fl:vc P sy Q F S→a.eval c= .bool false→Go.Vk.wpV P main (Code.cond c x y) (Lift N E fz S w a (writes (.cond r sx sy)) Q) a w:=fun hv he=>
      Go.Vk.wpV_cond_false he (Go.Vk.wpV_mono (code_sound hD y _ sy hy st hF hN hv) fun e a' w' hl=>lift_wp .refl rfl (W1:=[]) (fun _ _=>rfl) (by simp) (fun t ht=>by simp [writes,ht]) hl)
    cases hC:rd F r<;>rw [hC] at h hrel<;>simp only [Rel] at h hrel
    · exact tr h hrel
    · exact fl h hrel
    · rename_i b
      cases b
      · exact fl (h.2 rfl) hrel
      · exact tr (h.1 rfl) hrel
  | .seq x y,hint,sc,hc,Q,E,fz,S,w,F,a,st,hF,hN,h=>by
    cases hint<;>simp only [comp] at hc<;>first | (cases hc;done) | skip
    · split at hc<;>cases hc
      rename_i sx sy hx hy
      simp only [vc] at h
      refine Go.Vk.wpV_seq (Go.Vk.wpV_mono (code_sound hD x _ sx hx st hF hN h) fun e a1 w1 hl=>?_)
      cases e<;>simp only [Lift] at hl
      · obtain ⟨F1,S1,E1,fz1,q1,q2,q3,q4,q5,q6,q7⟩:=hl
        exact Go.Vk.wpV_mono (code_sound hD y _ sy hy q3 q4 q5 q1) fun e a' w' hl2=>lift_wp q2 q6 q7 (fun t ht=>by simp [writes,ht]) (fun t ht=>by simp [writes,ht]) hl2
      · exact hl.mono (fun t ht=>by simp [writes,ht]) fun _ _ q=>q
      · exact hl.mono (fun t ht=>by simp [writes,ht]) fun _ _ q=>q
    · rename_i keep W n _ _
      split at hc
      · rename_i sx sy hx hy
        split at hc
        · rename_i hap
          cases hc
          simp only [vc] at h
          have h':=h (fun xs os=>vc P sy Q (zipF W xs (keep.map fun t=>(t,F.get t))) os) (by
            rw [onlyK_iff,allA_iff]
            intro xs _ os q
            exact q)
          refine Go.Vk.wpV_seq (Go.Vk.wpV_mono (code_sound hD x _ sx hx st hF hN h') fun e a1 w1 hl=>?_)
          cases e<;>simp only [Lift] at hl
          · obtain ⟨F1,S1,E1,fz1,q1,q2,q3,q4,q5,q6,q7⟩:=hl
            simp only [SExit.onNormal,getsK_iff] at q1
            have hz:=relF_zip (W:=W) st q2 hF q4 q7 hap
            exact Go.Vk.wpV_mono (code_sound hD y _ sy hy q3 hz q5 q1) fun e a' w' hl2=>lift_wp q2 q6 q7 (fun t ht=>by simp [writes,ht]) (fun t ht=>by simp [writes,ht]) hl2
          · exact hl.mono (fun t ht=>by simp [writes,ht]) fun _ _ q=>q
          · exact hl.mono (fun t ht=>by simp [writes,ht]) fun _ _ q=>q
        · cases hc
      · cases hc
  | .block id x,hint,sc,hc,Q,E,fz,S,w,F,a,st,hF,hN,h=>by
    cases hint<;>simp only [comp] at hc<;>first | (cases hc;done) | skip
    split at hc<;>cases hc
    rename_i sx hx
    simp only [vc] at h
    refine Go.Vk.wpV_block (Go.Vk.wpV_mono (code_sound hD x _ sx hx st hF hN h) fun e a1 w1 hl=>?_)
    cases e<;>simp only [Lift] at hl
    · exact hl.mono (fun t ht=>ht) fun _ _ q=>q
    · rename_i id'
      simp only [Exit.inBlock]
      by_cases e:id'=id
      · subst e
        rw [if_pos rfl]
        refine hl.mono (fun t ht=>ht) fun _ _ q=>?_
        simpa [SExit.onBlock,Nat.beq_refl] using q
      · rw [if_neg e]
        refine hl.mono (fun t ht=>ht) fun _ _ q=>?_
        have:Nat.beq id' id=false:=by
          cases hb:Nat.beq id' id with
          | false=>rfl
          | true=>exact (e (Nat.eq_of_beq_eq_true hb)).elim
        simpa [SExit.onBlock,this] using q
    · exact hl.mono (fun t ht=>ht) fun _ _ q=>q
  | .loop x,hint,sc,hc,Q,E,fz,S,w,F,a,st,hF,hN,h=>by
    cases hint<;>simp only [comp] at hc<;>first | (cases hc;done) | skip
    rename_i keep W n _
    split at hc
    · rename_i sx hx
      split at hc
      · rename_i hap
        cases hc
        simp only [vc] at h
        obtain ⟨I,h0,hr⟩:=h
        rw [getsK_iff] at h0
        obtain ⟨k0,h0⟩:=h0
        rw [onlyK_iff,allA_iff] at hr
        refine Go.Vk.wpV_loop (fun k a1 w1=> ∃xs os E1 fz1,xs.length=W.length∧I k xs os∧Ext E fz S w E1 fz1 os w1∧St E1 fz1 os w1∧RelF E1 fz1 w1 (zipF W xs (keep.map fun t=>(t,F.get t))) a1.tmps∧a1.tmps.size=N∧a1.defers=a.defers∧
          ∀t,t ∉ writes sx→a1.tmps[t]?=a.tmps[t]?) k0 ?_ ?_
        · exact ⟨_,S,E,fz,by simp,h0,.refl,st,relF_zip (W:=W) st .refl hF hF (fun _ _=>rfl) hap,hN,rfl,fun _ _=>rfl⟩
        · rintro k a1 w1 ⟨xs,os,E1,fz1,l1,hI,p1,p2,p3,p4,p5,p6⟩
          refine Go.Vk.wpV_mono (code_sound hD x _ sx hx p2 p3 p4 (hr xs l1 k os hI)) fun e a2 w2 hl=>?_
          cases e<;>simp only [Lift] at hl
          · obtain ⟨F2,S2,E2,fz2,q1,q2,q3,q4,q5,q6,q7⟩:=hl
            simp only [SExit.onNormal,getsK_iff] at q1
            obtain ⟨k',hk',q1⟩:=q1
            refine ⟨k',hk',_,_,E2,fz2,by simp,q1,p1.trans q2,q3,?_,q5,by rw [q6,p5],fun t ht=>by rw [q7 t ht,p6 t ht]⟩
            exact relF_zip (W:=W) st (p1.trans q2) hF q4 (fun t ht=>by rw [q7 t ht,p6 t ht]) hap
          · exact hl.trans p1 p5 p6 (fun t ht=>ht) (fun t ht=>ht)
          · exact hl.trans p1 p5 p6 (fun t ht=>ht) (fun t ht=>ht)
      · cases hc
    · cases hc
  | .rangeFunc ..,hint,sc,hc,_,_,_,_,_,_,_,_,_,_,h=>by simp only [comp] at hc;cases hc;exact h.elim
  | .scope _,hint,sc,hc,_,_,_,_,_,_,_,_,_,_,h=>by simp only [comp] at hc;cases hc;exact h.elim
  | .label _,hint,sc,hc,_,_,_,_,_,_,_,_,_,_,h=>by simp only [comp] at hc;cases hc;exact h.elim
  | .goto _,hint,sc,hc,_,_,_,_,_,_,_,_,_,_,h=>by simp only [comp] at hc;cases hc;exact h.elim
  | .refuse _,hint,sc,hc,_,_,_,_,_,_,_,_,_,_,h=>by simp only [comp] at hc;cases hc;exact h.elim
end
end Go.Vc
end
section
namespace Go.Vc
def cRes (P:Program):List ResultVar→Option (List RRes)
  | []=>some []
  | .tmp t::rs=>(match cRes P rs with | some l=>some (.tmp t::l) | none=>none)
  | .cell a t::rs=>(match P.info? t,P.underlying t,cRes P rs with
    | some i,some u,some l=>if isAggD u then some (.cell a i.size true::l) else some (.cell a 1 false::l)
    | _,_,_=>none)
theorem draw_sound (P:Program) (N:Nat):DrawSound P N:=fun _ _ _ _ _ _ _ hc hok hf _ _ _ _ _ _ _ st hF hN h=>draw_region hc hok hf st hF hN h
section
variable {P : Program}
theorem argF_get: ∀(xs:List AVal) (i t:Nat),(argF i xs).get t=if i≤t then (match xs[t-i]? with | some x=>x | none=>.junk) else .junk
  | [],i,t=>by simp [argF,Frame.get]
  | x::xs,i,t=>by
    simp only [argF,Frame.get]
    cases h:Nat.beq i t with
    | true=>
      have e:i=t:=Nat.eq_of_beq_eq_true h
      subst e
      simp
    | false=>
      have e:i≠t:=Nat.ne_of_beq_eq_false h
      simp only [argF_get xs (i+1) t]
      by_cases hle:i≤t
      · rw [if_pos hle,if_pos (by omega),show t-i=(t-(i+1))+1 by omega]
        simp
      · rw [if_neg hle,if_neg (by omega)]
theorem res_rel {E:Env} {fz:Nat→Prop} {S:Store} {w:World} {F:Frame} {tmps:Array Value} (st:St E fz S w) (hF:RelF E fz w F tmps): ∀(rs:List ResultVar) (l:List RRes) {K:List AVal→Prop},cRes P rs=some l→wRes F S K l→
    ∃(xs:List AVal) (vs:List Value),(rs.mapM fun r=>(match r with | .tmp t=>pure (tmps.getD t undef) | .cell a t=>do loadVar t (←asAddr (tmps.getD a undef)):Sem Value)).run P w= .ok vs w∧RelL E fz w xs vs∧K xs
  | [],l,K,hc,h=>by
    simp only [cRes] at hc
    cases hc
    exact ⟨[],[],by simp,by simp [RelL],h⟩
  | .tmp t::rs,l,K,hc,h=>by
    simp only [cRes] at hc
    split at hc<;>cases hc
    rename_i l' hl
    simp only [wRes,getK_iff] at h
    obtain ⟨xs,vs,h1,h2,h3⟩:=res_rel st hF rs l' hl h
    refine ⟨_::xs,_::vs,?_,by simp only [RelL];exact ⟨_,_,rfl,hF t,h2⟩,h3⟩
    rw [List.mapM_cons]
    simp only [Sem.run_bind,Sem.run_pure,Result.andThen_ok,h1]
  | .cell ad t::rs,l,K,hc,h=>by
    simp only [cRes] at hc
    split at hc
    · rename_i i u l' hi hu hl
      have main: ∀ {n:Nat} {ag:Bool},ag=isAggD u→(ag=true→n=i.size)→(ag=false→n=1)→wRes F S K (.cell ad n ag::l')→ ∃(xs:List AVal) (vs:List Value),((ResultVar.cell ad t::rs).mapM fun r=>(match r with | .tmp t=>pure (tmps.getD t undef) | .cell a t=>do loadVar t (←asAddr (tmps.getD a undef)):Sem Value)).run P w= .ok vs w∧RelL E fz w xs vs∧K xs:=fun {n ag} hag hn hn1 hw=>by
        simp only [wRes,getK_iff] at hw
        obtain ⟨b,off,e,ys,us,g1,g2,g3,g4,g5,hk⟩:=wLoad_rel (P:=P) st hw (hF ad)
        have fin: ∀ {x:AVal} {v:Value},(loadVar t ⟨b,off,none⟩).run P w= .ok v w→Rel E fz w x v→wRes F S (fun xs=>K (x::xs)) l'→ ∃(xs:List AVal) (vs:List Value),((ResultVar.cell ad t::rs).mapM fun r=>(match r with | .tmp t=>pure (tmps.getD t undef) | .cell a t=>do loadVar t (←asAddr (tmps.getD a undef)):Sem Value)).run P w= .ok vs w∧RelL E fz w xs vs∧K xs:=fun {x v} hr hrel hw'=>by
          obtain ⟨xs,vs,h1,h2,h3⟩:=res_rel st hF rs l' hl hw'
          refine ⟨x::xs,v::vs,?_,by simp only [RelL];exact ⟨_,_,rfl,hrel,h2⟩,h3⟩
          rw [List.mapM_cons]
          have ea:(asAddr (tmps.getD ad undef)).run P w= .ok ⟨b,off,none⟩ w:=by rw [e];rfl
          simp only [Sem.run_bind,Sem.run_pure,Result.andThen_ok,ea,hr,h1]
        rcases mkVK_iff.1 hk with ⟨ha,hk2⟩ | ⟨ha,y,rfl,hk2⟩
        · have hn':=hn ha
          subst hn'
          refine fin (v:= .agg us.toArray) ?_ ?_ hk2
          · simp [loadVar,run_isAgg hu,←hag,ha,sizeOf,run_info hi,g4]
          · simp only [Rel];exact ⟨us,rfl,g2,g3⟩
        · simp only [RelL] at g2
          obtain ⟨v,us',rfl,hv,rfl⟩:=g2
          have hc0:=g5 0 v rfl
          refine fin (v:=v) ?_ hv hk2
          simp only [Nat.add_zero] at hc0
          simp [loadVar,run_isAgg hu,←hag,ha,hc0]
      split at hc<;>cases hc
      · rename_i hag;exact main hag.symm (fun _=>rfl) (fun e=>by cases e) h
      · rename_i hag;exact main (by cases hq:isAggD u<;>simp_all) (fun e=>by cases e) (fun _=>rfl) h
    · cases hc
open Go.Vk in
theorem fun_sound {f:FuncId} {fn:Func} {c:Code} {hint sc:SCode} {res:List RRes} {args:List AVal} {S:Store} {R:AVal→Store→Prop} (ha:callable P f=true) (hD:DrawSound P fn.ntmps) (hf:P.funcs[f]?=some fn) (hb:fn.body=some c) (hc:comp P fn.ntmps c hint=some sc) (hr:cRes P fn.results.toList=some res)
    (hlen:args.length≤fn.ntmps) (h:vcFun P sc res args S R):ACalls P f args S R:=by
  refine ⟨fun E fz w vals st hrel=>?_⟩
  have hname:(fn.name == "runtime.NumGoroutine")=false:=by
    unfold callable at ha
    rw [hf] at ha
    simp only [Bool.and_eq_true,bne_iff_ne,ne_eq] at ha
    simpa using ha.2
  refine ⟨ha,fn,c,hf,hname,hb,fun main=>?_⟩
  have hvl:=hrel.length
  have hF:RelF E fz w (argF 0 args) (vals.toArray++Array.replicate (fn.ntmps-vals.toArray.size) undef):=by
    intro t
    rw [argF_get]
    rw [if_pos (Nat.zero_le _)]
    simp only [Nat.sub_zero]
    cases hx:args[t]? with
    | none=>simp [Rel]
    | some x=>
      obtain ⟨v,hv,hr⟩:=hrel.get hx
      have hlt:t<vals.length:=(List.getElem?_eq_some_iff.1 hv).1
      have:(vals.toArray++Array.replicate (fn.ntmps-vals.toArray.size) undef).getD t undef=v:=by
        rw [Array.getD_eq_getD_getElem?,Array.getElem?_append_left (by simpa using hlt)]
        simp [hv]
      rw [this]
      exact hr
  refine wpV_mono (code_sound (main:=main) hD c hint sc hc st hF (by simp;omega) h) ?_
  have fin: ∀ {a':Act} {w':World} {K:Frame→Store→Prop},After fn.ntmps E fz S w {tmps:=vals.toArray++Array.replicate (fn.ntmps-vals.toArray.size) undef,defers:=[]} (writes sc) K a' w'→(∀F' S',K F' S'→wRes F' S' (fun xs=>retV xs fun r=>R r S') res)→
      a'.defers=[]∧Tame P (results fn a'.tmps)∧ ∀w₁,Itf w' w₁→ ∃v,(results fn a'.tmps).run P w₁= .ok v w₁∧ ∃r S' v' E' fz',Ending.returned v= .returned v'∧Ext E fz S w E' fz' S' w₁∧St E' fz' S' w₁∧Rel E' fz' w₁ r v'∧R r S':=fun {a' w' K} hA hK=>by
    obtain ⟨F',S',E',fz',q1,q2,q3,q4,q5,q6,q7⟩:=hA
    refine ⟨q6,tame_results,fun w₁ h₁=>?_⟩
    obtain ⟨st1,hx1⟩:=q3.itf h₁
    have q4':=RelF.mono q3 hx1 q4
    have q2':=q2.trans hx1
    obtain ⟨xs,vs,g1,g2,g3⟩:=res_rel st1 q4' fn.results.toList res hr (hK _ _ q1)
    have hrun:(fn.results.mapM fun r=>(match r with | .tmp t=>pure (a'.tmps.getD t undef) | .cell a t=>do loadVar t (←asAddr (a'.tmps.getD a undef)):Sem Value)).run P w₁= .ok vs.toArray w₁:=by
      rw [Array.mapM_eq_mapM_toList,Sem.run_map,g1];rfl
    have hres:(results fn a'.tmps).run P w₁= .ok (if h:vs.toArray.size=1 then vs.toArray[0] else .tuple vs.toArray) w₁:=by
      unfold results
      rw [Sem.run_bind]
      refine Eq.trans (congrArg (fun r=>Result.andThen r _) hrun) ?_
      rfl
    have hl:=g2.length
    match xs,vs,hl,g2,g3,hres with
    | [x],[v],_,g2,g3,hres=>
      simp only [RelL] at g2
      obtain ⟨v',us,e,hv,_⟩:=g2
      cases e
      exact ⟨v,hres,x,S',v,E',fz',rfl,q2',st1,hv,g3⟩
    | [],[],_,g2,g3,hres=>exact ⟨_,hres,.tup [],S',_,E',fz',rfl,q2',st1,by simp only [Rel];exact ⟨[],rfl,g2⟩,g3⟩
    | x::y::xs,v::u::vs,_,g2,g3,hres=>
      refine ⟨.tuple (v::u::vs).toArray,?_,.tup (x::y::xs),S',_,E',fz',rfl,q2',st1,by simp only [Rel];exact ⟨_,rfl,g2⟩,g3⟩
      rw [hres,dif_neg (by simp)]
    | [],_::_,hl,_,_,_=>simp at hl
    | _::_,[],hl,_,_,_=>simp at hl
    | [_],_::_::_,hl,_,_,_=>simp at hl
    | _::_::_,[_],hl,_,_,_=>simp at hl
  intro e a' w' hl
  cases e<;>simp only [Lift] at hl
  · exact fin hl fun _ _ q=>q
  · obtain ⟨F',S',E',fz',q1,_⟩:=hl;exact q1.elim
  · exact fin hl fun _ _ q=>q
theorem ACalls.mono {f:FuncId} {args:List AVal} {S:Store} {R R':AVal→Store→Prop} (h:ACalls P f args S R) (hr: ∀r S',R r S'→R' r S'):ACalls P f args S R':=
  ⟨fun E fz w vals st hrel=>(h.out E fz w vals st hrel).mono fun e w' ⟨r,S',v,E',fz',h1,h2,h3,h4,h5⟩=>⟨r,S',v,E',fz',h1,h2,h3,h4,hr _ _ h5⟩⟩
end
end Go.Vc
end
section
namespace Go.Vc
section
variable {P : Program} {f : FuncId} {args : List AVal}
theorem ACalls.use {S:Store} {Q:AVal→Prop} {K:AVal→Store→Prop} (h:ACalls P f args [] (fun r _=>Q r)) (hK: ∀r,Q r→K r S):ACalls P f args S K:=
  h.frame0 fun r S' q=>⟨r,id,[],.refl r,.nil,by rw [List.append_nil];exact hK r q⟩
theorem ACalls.det {S:Store} {r0:AVal} (h:ACalls P f args [] (fun r _=>r=r0)):ACalls P f args S (fun r S'=>r=r0∧S'=S):=
  h.use fun r e=>⟨e,rfl⟩
def deref (S:Store):Nat→AVal→AVal
  | 0,x=>x
  | n+1,.sl l v off len=>match S[l]? with
    | some (.row v' _ cs)=>if v'=v then .ros len ((cs.drop off).map (deref S n)) else .sl l v off len
    | _=>.sl l v off len
  | n+1,.ptr l v off=>match S[l]? with
    | some (.row v' _ cs)=>if v'=v then .rop ((cs.drop off).map (deref S n)) else .ptr l v off
    | _=>.ptr l v off
  | n+1,.agg cs=>.agg (cs.map (deref S n))
  | n+1,.tup cs=>.tup (cs.map (deref S n))
  | _+1,.nils=>.ros 0 []
  | _+1,x=>x
theorem relL_map {E:Env} {fz fz':Nat→Prop} {w:World} {g:AVal→AVal} (hg: ∀x v,Rel E fz w x v→Rel E fz' w (g x) v): ∀(xs:List AVal) (vs:List Value),RelL E fz w xs vs→RelL E fz' w (xs.map g) vs
  | [],_,h=>by simpa [RelL] using h
  | x::xs,_,h=>by
    simp only [RelL,List.map_cons] at*
    obtain ⟨v,us,h0,h1,h2⟩:=h
    exact ⟨v,us,h0,hg x v h1,relL_map hg xs us h2⟩
theorem relC_map {E:Env} {fz fz':Nat→Prop} {w:World} {g:AVal→AVal} (hg: ∀x v,Rel E fz w x v→Rel E fz' w (g x) v) {b:Nat}: ∀(xs:List AVal) (off:Nat),RelC E fz w b off xs→RelC E fz' w b off (xs.map g)
  | [],_,h=>by simp [RelC]
  | x::xs,off,h=>by
    simp only [RelC,List.map_cons] at*
    obtain ⟨⟨c,h1,h2,h3⟩,h4⟩:=h
    exact ⟨⟨c,h1,h2,hg x c h3⟩,relC_map hg xs _ h4⟩
def frozen (E:Env) (fz:Nat→Prop) (S:Store) (b:Nat):Prop:=fz b∨Own E S b
theorem deref_rel {E:Env} {fz:Nat→Prop} {S:Store} {w:World} (st:St E fz S w): ∀(n:Nat) (x:AVal) (v:Value),Rel E fz w x v→Rel E (frozen E fz S) w (deref S n x) v:=by
  have up: ∀(x:AVal) (v:Value),Rel E fz w x v→Rel E (frozen E fz S) w x v:=fun x v h=>Rel.mono (fun _ _ h=>h) (fun _ h=>.inl h) (fun _ _=>rfl) x h
  intro n
  induction n with
  | zero=>intro x v h;exact up x v h
  | succ n ih=>
    intro x v h
    have row: ∀ {l ver k:Nat} {cs:List AVal} {b base cap k0:Nat},S[l]?=some (.row ver k cs)→E ver=some (.real b base cap k0)→frozen E fz S b∧RelC E fz w b base cs:=fun {l ver k cs b base cap k0} hl hv=>by
      rcases st.ok l _ hl with ⟨h1,_⟩ | ⟨b',base',cap',arr,T,lo,hi,h1,_,_,_,_,h6,_⟩
      · rw [h1] at hv;cases hv
      · rw [h1] at hv;cases hv
        exact ⟨.inr ⟨l,_,hl,by simp [obBlock,h1]⟩,h6⟩
    cases x
    case sl l ver off len=>
      simp only [deref]
      split
      · rename_i v' k cs hl
        split
        · rename_i he;subst he
          simp only [Rel] at h ⊢
          rcases h with ⟨h1,a,h2⟩ | ⟨b,base,cap,k0,c,h1,h2,h3,h4⟩
          · exact .inl ⟨h1,a,0,h2⟩
          · obtain ⟨g1,g2⟩:=row hl h1
            exact .inr ⟨b,base+off,c,g1,h2,h4,relC_map ih _ _ (g2.drop off)⟩
        · exact up _ _ h
      · exact up _ _ h
    case ptr l ver off=>
      simp only [deref]
      split
      · rename_i v' k cs hl
        split
        · rename_i he;subst he
          simp only [Rel] at h ⊢
          obtain ⟨b,base,cap,k0,h1,h2⟩:=h
          obtain ⟨g1,g2⟩:=row hl h1
          exact ⟨b,base+off,g1,h2,relC_map ih _ _ (g2.drop off)⟩
        · exact up _ _ h
      · exact up _ _ h
    case agg cs=>
      simp only [deref,Rel] at h ⊢
      obtain ⟨vs,h1,h2,h3⟩:=h
      exact ⟨vs,h1,relL_map ih cs vs h2,h3⟩
    case tup cs=>
      simp only [deref,Rel] at h ⊢
      obtain ⟨vs,h1,h2⟩:=h
      exact ⟨vs,h1,relL_map ih cs vs h2⟩
    case nils=>
      simp only [deref,Rel] at h ⊢
      exact .inl ⟨by simp,none,0,h⟩
    all_goals exact up _ _ h
theorem St.freeze {E:Env} {fz:Nat→Prop} {S:Store} {w:World} (st:St E fz S w):St E (frozen E fz S) [] w:=
  ⟨fun l o h=>by simp at h,fun l l' b ⟨o,h,_⟩=>by simp at h,fun b hb=>hb.elim (st.fzlt b) fun ⟨l,h⟩=>(st.own_lt h).1,st.fresh⟩
theorem ACalls.freeze {R:AVal→Store→Prop} (n:Nat) (h:ACalls P f args [] (fun r S'=>R (deref S' n r) [])):ACalls P f args [] R:=
  ⟨fun E fz w vals st hrel=>(h.out E fz w vals st hrel).mono fun e w' ⟨r,S',v,E',fz',h1,h2,h3,h4,h5⟩=>
    ⟨_,[],v,E',frozen E' fz' S',h1,⟨h2.env,fun b hb=>.inl (h2.frz b hb),fun b hb=>hb.elim (h2.fznew b) fun ho=>.inr (h2.own b ho),h2.keep,fun b ⟨l,o,hl,_⟩=>by simp at hl,h2.size,h2.os,h2.output,h2.tape⟩,
      h3.freeze,deref_rel h3 n r v h4,h5⟩⟩
end
end Go.Vc
end
section
namespace Go.Vc
open Go.ChangeShapes Go.WideShapes Go.ChangeAt Go.RowKit
mutual
inductive Ty where
  | int (k:IntKind)
  | str
  | bool
  | st (fs:Tys)
  | sl (e:Ty)
inductive Tys where
  | nil
  | cons (t:Ty) (ts:Tys)
end
mutual
def T:Ty→Type
  | .int _=>Int
  | .str=>List UInt8
  | .bool=>Bool
  | .st fs=>Ts fs
  | .sl e=>List (T e)
def Ts:Tys→Type
  | .nil=>Unit
  | .cons t .nil=>T t
  | .cons t (.cons u ts)=>T t×Ts (.cons u ts)
end
mutual
def szT:Ty→Nat
  | .int _=>1
  | .str=>1
  | .bool=>1
  | .st fs=>szTs fs
  | .sl _=>1
def szTs:Tys→Nat
  | .nil=>0
  | .cons t ts=>szT t+szTs ts
end
mutual
def encT:(t:Ty)→T t→List AVal
  | .int k,n=>[.int k n]
  | .str,s=>[.str s]
  | .bool,b=>[.bool b]
  | .st fs,x=>encTs fs x
  | .sl e,l=>[.ros (List.length (α:=T e) l) (List.flatMap (β:=AVal) (α:=T e) (encT e) l)]
def encTs:(ts:Tys)→Ts ts→List AVal
  | .nil,_=>[]
  | .cons t .nil,x=>encT t x
  | .cons t (.cons u ts),(x,y)=>encT t x++encTs (.cons u ts) y
end
mutual
def okT:(t:Ty)→T t→Prop
  | .int k,n=>LE.le (α:=Int) k.min n∧LE.le (α:=Int) n k.max
  | .str,s=>List.length (α:=UInt8) s≤140737488351232
  | .bool,_=>True
  | .st fs,x=>okTs fs x
  | .sl e,l=>List.length (α:=T e) l≤140737488351232∧ ∀x:T e,List.Mem x l→okT e x
def okTs:(ts:Tys)→Ts ts→Prop
  | .nil,_=>True
  | .cons t .nil,x=>okT t x
  | .cons t (.cons u ts),(x,y)=>okT t x∧okTs (.cons u ts) y
end
mutual
def wtT:(t:Ty)→T t→Nat
  | .int _,_=>1
  | .str,s=>List.length (α:=UInt8) s+1
  | .bool,_=>1
  | .st fs,x=>wtTs fs x+1
  | .sl e,l=>List.foldr (α:=T e) (β:=Nat) (fun x n=>wtT e x+n) 1 l
def wtTs:(ts:Tys)→Ts ts→Nat
  | .nil,_=>0
  | .cons t .nil,x=>wtT t x
  | .cons t (.cons u ts),(x,y)=>wtT t x+wtTs (.cons u ts) y
end
def encA:(t:Ty)→T t→AVal
  | .st fs,x=>.agg (encTs fs x)
  | .int k,n=>.int k n
  | .str,s=>.str s
  | .bool,b=>.bool b
  | .sl e,l=>.ros (List.length (α:=T e) l) (List.flatMap (β:=AVal) (α:=T e) (encT e) l)
def encAs:(ts:Tys)→Ts ts→List AVal
  | .nil,_=>[]
  | .cons t .nil,x=>[encA t x]
  | .cons t (.cons u ts),(x,y)=>encA t x::encAs (.cons u ts) y
def tyFields (P:Program) (go:TypeId→Option Ty):Nat→List Field→Option (Tys×Nat)
  | off,[]=>some (.nil,off)
  | off,f::fs=>if f.offset=off then (match go f.type with
    | some t=>if szT t=P.cellsOf f.type then (match tyFields P go (off+P.cellsOf f.type) fs with | some (ts,n)=>some (.cons t ts,n) | none=>none) else none
    | none=>none) else none
def tyOf (P:Program):Nat→TypeId→Option Ty
  | 0,_=>none
  | n+1,t=>match P.underlying t with
    | some (.int k)=>some (.int k)
    | some .string=>some .str
    | some .bool=>some .bool
    | some (.slice e)=>(match tyOf P n e with | some u=>if szT u=P.cellsOf e∧0<P.cellsOf e∧0<P.bytesOf e then some (.sl u) else none | none=>none)
    | some (.struct fs)=>(match tyFields P (tyOf P n) 0 fs.toList with | some (ts,m)=>if m=P.cellsOf t then some (.st ts) else none | none=>none)
    | _=>none
def tysOf (P:Program) (n:Nat):List TypeId→Option Tys
  | []=>some .nil
  | t::ts=>match tyOf P n t,tysOf P n ts with | some u,some us=>some (.cons u us) | _,_=>none
structure Bulk {H:Type} (bulk:DataW H→Nat) (all:List (DataW H)→Nat):Prop where
  int: ∀k n,1≤bulk (.lit (.int k n))
  bool: ∀b,1≤bulk (.lit (.bool b))
  str: ∀s,s.length+1≤bulk (.lit (.string s))
  nil:1≤bulk .nil
  slice: ∀es sp,all es+1≤bulk (.slice es sp)
  agg: ∀ps,all ps+1≤bulk (.agg ps)
  none:all []=0
  cons: ∀d r,all (d::r)=bulk d+all r
section
variable {H : Type} {enc : TypeId × Value → H} {P : Program} {w : World} {base : Nat} {spare : Nat → Bool} {held : Bool} {bulk : DataW H → Nat} {all : List (DataW H) → Nat}
abbrev E0:Env:=fun _=>none
abbrev fz0 (w:World):Nat→Prop:=fun b=>b<w.heap.size
def Reads1 (w:World) (bulk:DataW H→Nat) (t:Ty) (cs:List Value) (d:DataW H):Prop:=
  ∃x:T t,RelL E0 (fz0 w) w (encT t x) cs∧okT t x∧wtT t x≤bulk d∧ ∀c∈cs,c.oneCell'=true
theorem mapM_zip {α β:Type} {g:α→Option β}: ∀ {l:List α} {ys:List β},l.mapM g=some ys→ ∀(i:Nat) a,l[i]?=some a→ ∃b,g a=some b∧ys[i]?=some b
  | [],_,_,i,a,ha=>by simp at ha
  | x::l,ys,h,i,a,ha=>by
    cases hx:g x with
    | none=>simp [hx] at h
    | some b=>
      cases hl:l.mapM g with
      | none=>simp [hx,hl] at h
      | some bs=>
        simp [hx,hl] at h
        subst h
        cases i with
        | zero=>simp at ha;subst ha;exact ⟨b,hx,rfl⟩
        | succ i=>simp at ha;simpa using mapM_zip hl i a ha
theorem reads_list (hb:Bulk bulk all) {e:Ty} {k:Nat} {b off:Nat}: ∀(ds:List (DataW H)) (i0:Nat),(∀(i:Nat) d,ds[i]?=some d→ ∃cs:List Value,cs.length=k∧(∀j,j<k→w.cell? ⟨b,off+(i0+i)*k+j,none⟩=cs[j]?)∧Reads1 w bulk e cs d)→
    ∃l:List (T e),l.length=ds.length∧RelC E0 (fz0 w) w b (off+i0*k) (l.flatMap (encT e))∧(∀x∈l,okT e x)∧l.foldr (fun x n=>wtT e x+n) 1≤all ds+1
  | [],i0,_=>⟨[],rfl,by simp [RelC],by simp,by simp⟩
  | d::ds,i0,h=>by
    obtain ⟨cs,h1,h2,x,h3,h4,h5,h6⟩:=h 0 d rfl
    obtain ⟨l,g1,g2,g3,g4⟩:=reads_list hb ds (i0+1) fun i d' hd=>by
      have:=h (i+1) d' (by simpa using hd)
      rwa [show i0+(i+1)=i0+1+i by omega] at this
    have hlen:=h3.length
    refine ⟨x::l,by simp [g1],?_,?_,?_⟩
    · rw [List.flatMap_cons]
      refine RelC.append (RelC.mk fun i a ha=>?_) ?_
      · obtain ⟨v,q1,q2⟩:=h3.get ha
        have hi:i<k:=by
          have:=(List.getElem?_eq_some_iff.1 q1).1;omega
        exact ⟨v,by have:=h2 i hi;rw [Nat.add_zero] at this;rw [this,q1],h6 v (List.mem_of_getElem? q1),q2⟩
      · rw [show off+i0*k+(encT e x).length=off+(i0+1)*k by rw [←hlen,h1,Nat.add_mul];omega]
        exact g2
    · intro y hy
      rcases List.mem_cons.1 hy with rfl | hy
      · exact h4
      · exact g3 y hy
    · rw [hb.cons]
      simp only [List.foldr_cons]
      omega
theorem reads_fields {n:Nat} (hb:Bulk bulk all) {go:TypeId→Option Ty} (ih: ∀(t:TypeId) (u:Ty) (cs:List Value) (d:DataW H) (ps:List MemPlace),go t=some u→(∀x∈d.weights P t,x≤reachBytes)→DataW.trod enc P w 0 spare held n t cs=some (d,ps)→Reads1 w bulk u cs d) (cs:List Value):
    ∀(fs:List Field) (off:Nat) (ts:Tys) (m:Nat) (xs:List (DataW H×List MemPlace)),tyFields P go off fs=some (ts,m)→m≤cs.length→fs.mapM (fun f=>DataW.trod enc P w 0 spare held n f.type ((cs.drop f.offset).take (P.cellsOf f.type)))=some xs→(∀x∈DataW.weightsEach P (fs.map (·.type)) (xs.map (·.1)),x≤reachBytes)→
    off≤m∧ ∃x:Ts ts,RelL E0 (fz0 w) w (encTs ts x) ((cs.drop off).take (m-off))∧okTs ts x∧wtTs ts x≤all (xs.map (·.1))∧ ∀c∈(cs.drop off).take (m-off),c.oneCell'=true
  | [],off,ts,m,xs,hc,hm,hx,hR=>by
    simp only [tyFields,Option.some.injEq,Prod.mk.injEq] at hc
    obtain ⟨rfl,rfl⟩:=hc
    exact ⟨Nat.le_refl _,(),by simp [encTs,RelL],by simp [okTs],by simp [wtTs],by simp⟩
  | f::fs,off,ts,m,xs,hc,hm,hx,hR=>by
    unfold tyFields at hc
    split at hc
    · rename_i ho
      split at hc
      · rename_i t ht
        split at hc
        · rename_i hsz
          split at hc
          · rename_i ts' m' hr
            cases hc
            rw [List.mapM_cons] at hx
            cases hq:DataW.trod enc P w 0 spare held n f.type ((cs.drop f.offset).take (P.cellsOf f.type)) with
            | none=>simp [hq] at hx
            | some y=>
              cases hq2:fs.mapM (fun f=>DataW.trod enc P w 0 spare held n f.type ((cs.drop f.offset).take (P.cellsOf f.type))) with
              | none=>simp [hq,hq2] at hx
              | some ys=>
                simp [hq,hq2] at hx
                subst hx
                simp only [List.map_cons,DataW.weightsEach,List.mem_append] at hR
                obtain ⟨i1,x2,r2,o2,w2,c2⟩:=reads_fields hb ih cs fs (off+P.cellsOf f.type) ts' m ys hr hm hq2 (fun x hx=>hR x (.inr hx))
                obtain ⟨x1,r1,o1,w1,c1⟩:=ih f.type t _ y.1 y.2 ht (fun x hx=>hR x (.inl hx)) hq
                rw [ho] at r1 c1
                have split_:(cs.drop off).take (m-off)=(cs.drop off).take (P.cellsOf f.type)++(cs.drop (off+P.cellsOf f.type)).take (m-(off+P.cellsOf f.type)):=by
                  rw [show m-off=P.cellsOf f.type+(m-(off+P.cellsOf f.type)) by omega,List.take_add,List.drop_drop]
                refine ⟨by omega,?_⟩
                rw [split_]
                have hone: ∀c∈(cs.drop off).take (P.cellsOf f.type)++(cs.drop (off+P.cellsOf f.type)).take (m-(off+P.cellsOf f.type)),c.oneCell'=true:=fun c hc'=>by
                  rcases List.mem_append.1 hc' with h | h
                  · exact c1 c h
                  · exact c2 c h
                cases ts' with
                | nil=>
                  simp only [encTs,RelL] at r2
                  rw [r2,List.append_nil]
                  exact ⟨x1,r1,o1,by simp only [List.map_cons,hb.cons];exact Nat.le_trans w1 (Nat.le_add_right _ _),by rw [r2,List.append_nil] at hone;exact hone⟩
                | cons u us=>
                  exact ⟨(x1,x2),r1.append r2,⟨o1,o2⟩,by simp only [List.map_cons,hb.cons];exact Nat.add_le_add w1 w2,hone⟩
          · cases hc
        · cases hc
      · cases hc
    · cases hc
theorem reads_cells (hb:Bulk bulk all): ∀(fuel n:Nat) (t:TypeId) (u:Ty) (cs:List Value) (d:DataW H) (ps:List MemPlace),tyOf P n t=some u→(∀x∈d.weights P t,x≤reachBytes)→DataW.trod enc P w 0 spare held fuel t cs=some (d,ps)→Reads1 w bulk u cs d:=by
  intro fuel
  induction fuel with
  | zero=>intro n t u cs d ps _ _ h;simp [DataW.trod] at h
  | succ fuel ih=>
    intro n t u cs d ps hu hR h
    cases n with
    | zero=>simp [tyOf] at hu
    | succ n=>
      unfold tyOf at hu
      split at hu
      · rename_i k hk
        cases hu
        obtain ⟨x,rfl,h2,h3⟩:=DataW.trod_int hk h
        simp only [Prod.mk.injEq] at h2
        simp only [Lit.wf,Bool.and_eq_true,decide_eq_true_eq] at h3
        exact ⟨x,by simp [encT,RelL,Rel],h3,by rw [h2.1];exact hb.int _ _,by simp [Value.oneCell']⟩
      · rename_i hk
        cases hu
        obtain ⟨s,rfl,h2,h3⟩:=DataW.trod_string hk h
        simp only [Prod.mk.injEq] at h2
        refine ⟨s.data.toList,by simp [encT,RelL,Rel],?_,by rw [h2.1];exact hb.str _,by simp [Value.oneCell']⟩
        show List.length s.data.toList≤140737488351232
        have:=hR s.data.toList.length (by rw [h2.1];simp [DataW.weights])
        exact this
      · rename_i hk
        cases hu
        obtain ⟨x,rfl,h2⟩:=DataW.trod_bool hk h
        simp only [Prod.mk.injEq] at h2
        exact ⟨x,by simp [encT,RelL,Rel],trivial,by rw [h2.1];exact hb.bool _,by simp [Value.oneCell']⟩
      · rename_i e hk
        split at hu
        · rename_i u' hu'
          split at hu
          · rename_i hsz
            cases hu
            unfold DataW.trod at h
            rw [hk] at h
            split at h<;>try (cases ‹some (TypeDesc.slice e)=some _›;done)
            all_goals try cases ‹some (TypeDesc.slice e)=some _›
            · cases h
              exact ⟨[],by simp [encT,RelL,Rel],⟨Nat.zero_le _,fun x hx=>nomatch hx⟩,hb.nil,by simp [Value.oneCell']⟩
            · rename_i a len cap
              dsimp only at h
              split at h
              · rename_i hcnd
                obtain ⟨_,hlc,hcap⟩:=hcnd
                obtain ⟨elems,hel,h⟩:=Option.bind_eq_some_iff.1 h
                obtain ⟨rest,hre,h⟩:=Option.map_eq_some_iff.1 h
                simp only [Prod.mk.injEq] at h
                obtain ⟨rfl,_⟩:=h
                have hlen:elems.length=len:=by have:=mapM_some_length hel;simpa using this
                have one:Value.oneCell' (.slice (some a) len cap)=true:=by simp [Value.oneCell']
                have e1:=hb.slice (elems.map (·.1)) (rest.map (·.1))
                by_cases h0:len=0
                · subst h0
                  refine ⟨[],?_,⟨Nat.zero_le _,fun x hx=>nomatch hx⟩,?_,by simpa using one⟩
                  · simp [encT,RelL,Rel]
                  · simp only [wtT,List.foldr_nil];omega
                have hwt:(elems.length+rest.length)*P.bytesOf e≤reachBytes∧ ∀y∈elems,∀x∈y.1.weights P e,x≤reachBytes:=by
                  have all: ∀ {l:List (DataW H×List MemPlace)} {y:DataW H×List MemPlace},y∈l→ ∀x∈y.1.weights P e,x∈DataW.weightsAll P e (l.map (·.1)):=by
                    intro l
                    induction l with
                    | nil=>intro y hy;cases hy
                    | cons z l ih'=>
                      intro y hy x hx
                      simp only [List.map_cons,DataW.weightsAll,List.mem_append]
                      rcases List.mem_cons.1 hy with rfl | hy
                      · exact .inl hx
                      · exact .inr (ih' hy x hx)
                  refine ⟨hR _ (by simp [DataW.weights,hk]),fun y hy x hx=>hR x ?_⟩
                  simp only [DataW.weights,hk,List.mem_cons,List.mem_append]
                  exact .inr (.inl (all hy x hx))
                have key: ∀(i:Nat) d',(elems.map (·.1))[i]?=some d'→ ∃cs:List Value,cs.length=P.cellsOf e∧(∀j,j<P.cellsOf e→w.cell? ((a.add (i*P.cellsOf e)).add j)=cs[j]?)∧Reads1 w bulk u' cs d':=fun i d' hd=>by
                  rw [List.getElem?_map] at hd
                  cases hq:elems[i]? with
                  | none=>simp [hq] at hd
                  | some y=>
                    simp [hq] at hd
                    subst hd
                    have hi:i<len:=by have:=(List.getElem?_eq_some_iff.1 hq).1;omega
                    obtain ⟨y',q1,q2⟩:=mapM_zip hel i i (by simp [hi])
                    rw [hq] at q2;cases q2
                    cases hcs:w.cells? 0 (a.add (i*P.cellsOf e)) (P.cellsOf e) with
                    | none=>simp [hcs] at q1
                    | some cs=>
                      simp only [hcs,Option.bind_some] at q1
                      obtain ⟨_,q3,q4⟩:=World.cells?_some hcs
                      exact ⟨cs,q3,q4,ih n e u' cs y.1 y.2 hu' (hwt.2 y (List.mem_of_getElem? hq)) q1⟩
                obtain ⟨b,off,spot⟩:=a
                have hsp:spot=none∧b<w.heap.size:=by
                  obtain ⟨cs,k1,k2,_⟩:=key 0 _ (List.getElem?_eq_getElem (by simp;omega))
                  have k3:=k2 0 hsz.2.1
                  rw [List.getElem?_eq_getElem (by omega)] at k3
                  have k4:spot=none:=by simpa [Addr.add] using World.cell?_spot k3
                  refine ⟨k4,?_⟩
                  rcases Nat.lt_or_ge b w.heap.size with hl | hl
                  · exact hl
                  · simp [World.cell?,Addr.add,Array.getElem?_eq_none hl] at k3
                obtain ⟨rfl,hbl⟩:=hsp
                obtain ⟨l,g1,g2,g3,g4⟩:=reads_list (w:=w) hb (e:=u') (k:=P.cellsOf e) (b:=b) (off:=off) (elems.map (·.1)) 0 fun i d' hd=>by
                  obtain ⟨cs,k1,k2,k3⟩:=key i d' hd
                  refine ⟨cs,k1,fun j hj=>?_,k3⟩
                  rw [←k2 j hj,Nat.zero_add]
                  unfold Addr.add
                  split<;>split<;>simp_all
                rw [List.length_map,hlen] at g1
                refine ⟨l,?_,⟨?_,fun x hx=>g3 x hx⟩,?_,by simpa using one⟩
                · simp only [encT,RelL]
                  refine ⟨_,_,rfl,?_,rfl⟩
                  simp only [Rel]
                  exact .inr ⟨b,off,cap,hbl,by rw [g1];exact hlc,by rw [g1],by simpa using g2⟩
                · show List.length l≤140737488351232
                  rw [g1,←hlen]
                  have q1:=hwt.1
                  have q2:(elems.length+rest.length)*1≤(elems.length+rest.length)*P.bytesOf e:=Nat.mul_le_mul_left _ hsz.2.2
                  have q3:reachBytes=140737488351232:=rfl
                  omega
                · simp only [wtT];omega
              · cases h
            all_goals (first | cases h | skip)
          · cases hu
        · cases hu
      · rename_i fs hk
        split at hu
        · rename_i ts m hf
          split at hu
          · rename_i hm
            cases hu
            simp only [DataW.trod,hk] at h
            split at h
            · rename_i hlen
              obtain ⟨xs,hx,h⟩:=Option.map_eq_some_iff.1 h
              simp only [Prod.mk.injEq] at h
              obtain ⟨rfl,_⟩:=h
              obtain ⟨_,x,r,o,wt,c1⟩:=reads_fields hb (fun t u cs d ps=>ih n t u cs d ps) cs fs.toList 0 ts m xs hf (by omega) hx (by simpa [DataW.weights,hk] using hR)
              rw [List.drop_zero,Nat.sub_zero,List.take_of_length_le (by omega)] at r c1
              exact ⟨x,r,o,Nat.le_trans (Nat.add_le_add_right wt 1) (hb.agg _),c1⟩
            · cases h
          · cases hu
        · cases hu
      · cases hu
end
end Go.Vc
end
section
namespace Go.Vc
open Go.ChangeShapes Go.WideShapes Go.ChangeAt Go.RowKit
section
variable {H : Type} {enc : TypeId × Value → H} {P : Program} {w : World} {bulk : DataW H → Nat} {all : List (DataW H) → Nat}
theorem reads_arg (hb:Bulk bulk all) {n:Nat} {t:TypeId} {u:Ty} {v:Value} {d:DataW H} {ps:List MemPlace} {spare:Nat→Bool} {held:Bool} (hu:tyOf P n t=some u) (hv:Value.okWide P w .any 0 t v)
    (hR: ∀x∈d.weights P t,x≤reachBytes) (h:DataW.Trod enc P w 0 spare held t v d ps): ∃x:T u,Rel E0 (fz0 w) w (encA u x) v∧okT u x∧wtT u x≤bulk d:=by
  obtain ⟨fuel,hf⟩:=h
  obtain ⟨x,h1,h2,h3,h4⟩:=reads_cells hb fuel n t u _ d ps hu hR hf
  refine ⟨x,?_,h2,h3⟩
  have one:(∀cs,v≠ .agg cs)→v.cells.toList=[v]:=fun hn=>by
    cases v<;>first | rfl | exact absurd rfl (hn _)
  cases n with
  | zero=>simp [tyOf] at hu
  | succ n=>
    unfold tyOf at hu
    split at hu
    · rename_i k hk
      cases hu
      obtain ⟨m,rfl⟩:=okWide_int hk hv
      simpa [encT,encA,RelL,Value.cells] using h1
    · rename_i hk
      cases hu
      have hn: ∀cs,v≠ .agg cs:=fun cs hc=>by subst hc;simp [Value.okWide,hk,Cell.okWide,Cell.ok] at hv
      rw [one hn] at h1
      simpa [encT,encA,RelL] using h1
    · rename_i hk
      cases hu
      have hn: ∀cs,v≠ .agg cs:=fun cs hc=>by subst hc;simp [Value.okWide,hk,Cell.okWide,Cell.ok] at hv
      rw [one hn] at h1
      simpa [encT,encA,RelL] using h1
    · rename_i e hk
      have hn: ∀cs,v≠ .agg cs:=fun cs hc=>by subst hc;simp [Value.okWide,hk,Cell.okWide,Cell.ok] at hv
      rw [one hn] at h1
      split at hu
      · split at hu
        · cases hu
          simpa [encT,encA,RelL] using h1
        · cases hu
      · cases hu
    · rename_i fs hk
      obtain ⟨cs,rfl,_⟩:=okWide_struct hk hv
      split at hu
      · split at hu
        · cases hu
          simp only [encA,Rel]
          exact ⟨cs.toList,by simp,by simpa [encT,Value.cells] using h1,by simpa [Value.cells] using h4⟩
        · cases hu
      · cases hu
    · cases hu
theorem reads_args (hb:Bulk bulk all) {n:Nat} {spare:Nat→Bool} {held:Bool}: ∀(ts:List TypeId) (us:Tys) (vs:List Value) (ds:List (DataW H)) (ps:List MemPlace),tysOf P n ts=some us→
    (∀(j:Nat) t v,ts[j]?=some t→vs[j]?=some v→Value.okWide P w .any 0 t v)→DataW.TrodAll enc P w 0 spare held ts vs ds ps→(∀x∈DataW.weightsEach P ts ds,x≤reachBytes)→
    ds.length=ts.length∧ ∃x:Ts us,RelL E0 (fz0 w) w (encAs us x) vs∧okTs us x∧wtTs us x≤all ds
  | [],us,vs,ds,ps,hu,hv,h,hR=>by
    obtain ⟨rfl,rfl,rfl⟩:=trodAll_nil h
    simp only [tysOf,Option.some.injEq] at hu
    subst hu
    exact ⟨rfl,(),by simp [encAs,RelL],trivial,by simp [wtTs]⟩
  | t::ts,us,vs,ds,ps,hu,hv,h,hR=>by
    obtain ⟨v,vs',d,ds',p,q,rfl,rfl,rfl,h1,h2⟩:=trodAll_cons h
    simp only [DataW.weightsEach,List.mem_append] at hR
    unfold tysOf at hu
    split at hu
    · rename_i u us' e1 e2
      cases hu
      obtain ⟨x,r1,r2,r3⟩:=reads_arg hb e1 (hv 0 t v rfl rfl) (fun x hx=>hR x (.inl hx)) h1
      obtain ⟨hl,y,q1,q2,q3⟩:=reads_args hb ts us' vs' ds' q e2 (fun j t' v' a b=>hv (j+1) t' v' (by simpa using a) (by simpa using b)) h2 (fun x hx=>hR x (.inr hx))
      refine ⟨by simp [hl],?_⟩
      rw [hb.cons]
      cases us' with
      | nil=>
        simp only [encAs,RelL] at q1
        subst q1
        exact ⟨x,by simp only [encAs,RelL];exact ⟨v,[],rfl,r1,rfl⟩,r2,by simp only [wtTs];omega⟩
      | cons u2 us2=>
        refine ⟨(x,y),?_,⟨r2,q2⟩,Nat.add_le_add r3 q3⟩
        simp only [encAs,RelL]
        exact ⟨v,vs',rfl,r1,q1⟩
    · cases hu
theorem trodAll_stays (hl:laidOutB P=true) {W':World} {sp:Nat→Bool}: ∀(ts:List TypeId) (vs:List Value) (ds:List (DataW H)) (ps:List MemPlace),(∀t∈ts,P.readableRec t=true∧t<P.types.size)→
    DataW.TrodAll enc P w 0 (fun _=>true) true ts vs ds ps→(∀p∈ps,w.sameAt W' p)→(∀p∈ps,sp p.block=true)→DataW.TrodAll enc P W' 0 sp true ts vs ds ps
  | [],vs,ds,ps,_,h,_,_=>by
    obtain ⟨rfl,rfl,rfl⟩:=trodAll_nil h
    exact trodAll_mk0
  | t::ts,vs,ds,ps,ht,h,hs,hp=>by
    obtain ⟨v,vs',d,ds',p,q,rfl,rfl,rfl,h1,h2⟩:=trodAll_cons h
    exact ⟨p,q,WideElems.Trod_stays hl (ht t (by simp)).1 (ht t (by simp)).2 h1 (fun x hx=>hs x (by simp [hx])) (fun x hx=>hp x (by simp [hx])),
      trodAll_stays hl ts vs' ds' q (fun t' h'=>ht t' (by simp [h'])) h2 (fun x hx=>hs x (by simp [hx])) (fun x hx=>hp x (by simp [hx])),rfl⟩
theorem post_of_below {f:Func} {s:ChangeSpec} {apart fresh handsOn again:Bool} {W W':World} {args:Array Value} {ds:List (DataW H)} {before:List MemPlace} (hl:laidOutB P=true)
    (hpar: ∀t∈f.params.toList,P.readableRec t=true∧t<P.types.size) (hsv:s.vars=[])
    (hW:DataW.Whole enc P f.params.toList s.vars apart W args.toList ds [] before) (hsp:s.fn H ds={results:=[.lit (.bool true)],args:=ds}) {tb:TypeId} (hrt:f.resultTypes= #[tb]) (htb:P.underlying tb=some .bool)
    (hb:Below W.heap.size W W'):s.post enc P f apart fresh handsOn again W args (.bool true) W':=by
  have hlt:=hW.lt
  obtain ⟨p,q,hA,hV,rfl,hfz,hnd⟩:=hW
  have hV0:=hV
  rw [hsv] at hV
  obtain ⟨_,rfl⟩:=trodVars_none hV
  have same: ∀x∈p,W.sameAt W' x:=fun x hx=>hb.same (hlt x (by simp [hx]))
  have hargs: ∀sp:Nat→Bool,(∀x∈p,sp x.block=true)→DataW.TrodAll enc P W' 0 sp true f.params.toList args.toList ds p:=fun sp hs=>trodAll_stays hl _ _ _ _ hpar hA same hs
  have hres: ∀(b:Nat) (sp:Nat→Bool) (hd:Bool),DataW.TrodAll enc P W' b sp hd f.resultTypes.toList ((Value.bool true).resultList f.resultTypes.size) [DataW.lit (.bool true)] []:=fun b sp hd=>by
    rw [hrt]
    exact trodAll_mk1 (shut_bool htb _)
  refine ⟨ds,[],p++[],[],p,[],⟨p,[],hA,hV0,rfl,hfz,hnd⟩,?_,?_,?_,?_,fun _=>?_⟩
  · rw [List.append_nil,hsp];exact hres _ _ _
  · rw [List.append_nil,hsp];exact hargs _ fun x hx=>by simpa using hlt x (by simp [hx])
  · rw [List.append_nil,hsp,hsv];exact rfl
  · exact World.keptBut_mono (fun x hx=>by simpa using hx) (hb.frame (· ∈p++[]))
  · refine ⟨?_,[.lit (.bool true)]++ds,[],p++[],⟨p,[],?_,?_,rfl,?_,?_⟩,fun x hx _=>hx⟩
    · exact ok_one hrt rfl (okWide_bool_mk htb _)
    · have:=trodAll_append (hargs (fun _=>true) fun _ _=>rfl) (hres 0 (fun _=>true) true)
      simpa using this
    · rw [hsv];exact rfl
    · intro b off hp
      have:=hb.frozen (p:=⟨b,off,none⟩) (hlt _ hp)
      rw [this]
      exact hfz b off hp
    · exact hnd
end
end Go.Vc
end
section
namespace Go.Vc
theorem takeN_of_le: ∀(n:Nat) (xs:List AVal),n≤xs.length→takeN n xs=some (xs.take n)
  | 0,_,_=>by simp [takeN]
  | n+1,[],h=>by simp at h
  | n+1,x::xs,h=>by simp [takeN,takeN_of_le n xs (by simpa using h)]
theorem flatMap_length {α:Type} {enc:α→List AVal} {k:Nat} (hk: ∀x,(enc x).length=k) (l:List α):(l.flatMap enc).length=l.length*k:=by
  induction l with
  | nil=>simp
  | cons x l ih=>simp [List.flatMap_cons,hk,ih,Nat.add_mul,Nat.add_comm]
theorem drop_flat {α:Type} {enc:α→List AVal} {k:Nat} (hk: ∀x,(enc x).length=k): ∀(l:List α) (j:Nat),(l.flatMap enc).drop (j*k)=(l.drop j).flatMap enc
  | l,0=>by simp
  | [],j+1=>by simp
  | x::l,j+1=>by
    rw [List.flatMap_cons,List.drop_succ_cons,←drop_flat hk l j,Nat.add_mul,Nat.one_mul,Nat.add_comm,←List.drop_drop]
    rw [List.drop_left' (hk x)]
theorem take_flat {α:Type} {enc:α→List AVal} {k:Nat} (hk: ∀x,(enc x).length=k) {l:List α} {j:Nat} (hj:j<l.length) (fo n:Nat) (h:fo+n≤k):
    takeN n ((l.flatMap enc).drop (j*k+fo))=some (((enc l[j]).drop fo).take n):=by
  rw [←List.drop_drop,drop_flat hk,List.drop_eq_getElem_cons hj,List.flatMap_cons,List.drop_append_of_le_length (by rw [hk];omega),takeN_of_le _ _ (by simp [hk];omega),List.take_append_of_le_length (by simp [hk];omega)]
theorem take_flat0 {α:Type} {enc:α→List AVal} {k:Nat} (hk: ∀x,(enc x).length=k) {l:List α} {j:Nat} (hj:j<l.length):
    takeN k ((l.flatMap enc).drop (j*k))=some (enc l[j]):=by
  have:=take_flat hk hj 0 k (by omega)
  rw [Nat.add_zero] at this
  rw [this,List.drop_zero,List.take_of_length_le (by rw [hk];omega)]
end Go.Vc
end
end
section
namespace Go.Vc
abbrev Nm (_:String) (α:Type):=α
noncomputable def iteP {α:Type} (p:Prop) (a b:α):α:= @ite α p (Classical.propDecidable p) a b
noncomputable def bo (p:Prop):Bool:= @decide p (Classical.propDecidable p)
def gt {α:Type} [Inhabited α] (l:List α) (i:Int):α:=l.getD i.toNat default
def kEq:(k k':IntKind)→Option (PLift (k=k'))
 | .i8,.i8=>some ⟨rfl⟩
 | .u8,.u8=>some ⟨rfl⟩
 | .i16,.i16=>some ⟨rfl⟩
 | .u16,.u16=>some ⟨rfl⟩
 | .i32,.i32=>some ⟨rfl⟩
 | .u32,.u32=>some ⟨rfl⟩
 | .i64,.i64=>some ⟨rfl⟩
 | .u64,.u64=>some ⟨rfl⟩
 | _,_=>none
mutual
def tyEq:(a b:Ty)→Option (PLift (a=b))
 | .int k,.int k'=>(match kEq k k' with | some ⟨h⟩=>some ⟨by rw [h]⟩ | none=>none)
 | .str,.str=>some ⟨rfl⟩
 | .bool,.bool=>some ⟨rfl⟩
 | .st a,.st b=>(match tysEq a b with | some ⟨h⟩=>some ⟨by rw [h]⟩ | none=>none)
 | .sl a,.sl b=>(match tyEq a b with | some ⟨h⟩=>some ⟨by rw [h]⟩ | none=>none)
 | _,_=>none
def tysEq:(a b:Tys)→Option (PLift (a=b))
 | .nil,.nil=>some ⟨rfl⟩
 | .cons a asx,.cons b bs=>(match tyEq a b,tysEq asx bs with | some ⟨h⟩,some ⟨g⟩=>some ⟨by rw [h,g]⟩ | _,_=>none)
 | _,_=>none
end
mutual
def zT:(t:Ty)→T t
 | .int _=>(0:Int)
 | .str=>([]:List UInt8)
 | .bool=>false
 | .st fs=>zTs fs
 | .sl e=>([]:List (T e))
def zTs:(ts:Tys)→Ts ts
 | .nil=>()
 | .cons t .nil=>zT t
 | .cons t (.cons u ts)=>(zT t,zTs (.cons u ts))
end
inductive TV where
 | junk
 | tt
 | ff
 | bb (b:Bool)
 | pr (p:Prop)
 | gd (p:Prop)
 | int (k:IntKind) (n:Int)
 | byte (b:UInt8)
 | str (s:List UInt8)
 | nilp
 | nilf
 | nilm
 | nili
 | nils
 | ptr (l off:Nat)
 | eptr (l:Nat) (i:Int) (fo:Nat)
 | rop (cs:List TV)
 | ros (t:Ty) (l:List (T t))
 | slf (l:Nat)
 | sl (l:Nat) (off len:Int)
 | agg (cs:List TV)
 | tup (cs:List TV)
 | fn (f:Nat) (cap:List TV)
 | inn (l:Nat) (i:Int)
 | ieptr (l:Nat) (i j:Int) (k fo:Nat)
 | ifs (t l:Nat)
 | cst (v:Value)
 deriving Inhabited
inductive TOb where
 | dead
 | cells (k:Nat) (cs:List TV)
 | row (t:Ty) (l:List (T t))
 | drow (t:Ty) (l:List (List (T t)))
 deriving Inhabited
abbrev RF:=List (Nat×List (Nat×Bool)×Prop×TV)
def lookN {α:Type}:List (Nat×α)→Nat→Option α
 | [],_=>none
 | (k,x)::l,n=>match Nat.beq k n with | true=>some x | false=>lookN l n
def eqPath:List (Nat×Bool)→List (Nat×Bool)→Bool
 | [],[]=>true
 | (a,true)::p,(b,true)::q=>match Nat.beq a b with | true=>eqPath p q | false=>false
 | (a,false)::p,(b,false)::q=>match Nat.beq a b with | true=>eqPath p q | false=>false
 | _,_=>false
def sufx (gs:List (Nat×Bool)):List (Nat×Bool)→Bool
 | []=>match gs with | []=>true | _::_=>false
 | q::p=>match eqPath gs (q::p) with | true=>true | false=>sufx gs p
def ofS:AVal→Option TV
 | .bool true=>some .tt
 | .bool false=>some .ff
 | .int k n=>some (.int k n)
 | .str s=>some (.str s)
 | .nilp=>some .nilp
 | .nilf=>some .nilf
 | .nilm=>some .nilm
 | .nili=>some .nili
 | .nils=>some .nils
 | .fn (.func f) [] []=>some (.fn f [])
 | _=>none
def ofL:List AVal→Option (List TV)
 | []=>some []
 | x::xs=>match ofS x,ofL xs with | some y,some ys=>some (y::ys) | _,_=>none
def ofA:AVal→Option TV
 | .agg cs=>(match ofL cs with | some ys=>some (.agg ys) | none=>none)
 | x=>ofS x
def rdP (F:RF) (path:List (Nat×Bool)):Rand→Option TV
 | .c x=>ofA x
 | .t n=>match lookN F n with
  | some (gs,_,x)=>(match sufx gs path with | true=>some x | false=>none)
  | none=>none
def rdPs (F:RF) (path:List (Nat×Bool)):List Rand→Option (List TV)
 | []=>some []
 | x::xs=>match rdP F path x,rdPs F path xs with | some y,some ys=>some (y::ys) | _,_=>none
def conj:List Prop→Prop→Prop
 | [],q=>q
 | p::ps,q=>p∧conj ps q
def underP (c:Prop):List Prop→List Prop
 | []=>[]
 | p::ps=>(c→p)::underP c ps
mutual
def cellsT:(t:Ty)→T t→List TV
 | .int k,n=>[.int k n]
 | .str,s=>[.str s]
 | .bool,b=>[.bb b]
 | .st fs,x=>cellsTs fs x
 | .sl e,l=>[.ros e l]
def cellsTs:(ts:Tys)→Ts ts→List TV
 | .nil,_=>[]
 | .cons t .nil,x=>cellsT t x
 | .cons t (.cons u ts),x=>cellsT t x.1++cellsTs (.cons u ts) x.2
end
def tvA:(t:Ty)→T t→TV
 | .int k,n=>.int k n
 | .str,s=>.str s
 | .bool,b=>.bb b
 | .st fs,x=>.agg (cellsTs fs x)
 | .sl e,l=>.ros e l
def asI:TV→Option (IntKind×Int)
 | .int k n=>some (k,n)
 | .byte b=>some (.u8,(b.toNat:Int))
 | _=>none
def asP:TV→Option Prop
 | .pr p=>some p
 | .gd p=>some p
 | .bb b=>some (b=true)
 | .tt=>some True
 | .ff=>some False
 | _=>none
noncomputable def asB:TV→Option Bool
 | .pr p=>some (bo p)
 | .bb b=>some b
 | .tt=>some true
 | .ff=>some false
 | _=>none
def decI (k:IntKind):List TV→Option (Int×List TV)
 | x::r=>(match asI x with | some (k',n)=>(match kEq k k' with | some _=>some (n,r) | none=>none) | none=>none)
 | []=>none
def decStr:List TV→Option (List UInt8×List TV)
 | .str s::r=>some (s,r)
 | _=>none
noncomputable def decBool:List TV→Option (Bool×List TV)
 | x::r=>(match asB x with | some b=>some (b,r) | none=>none)
 | []=>none
def decSl (e:Ty):List TV→Option (List (T e)×List TV)
 | .ros e' l::r=>(match tyEq e' e with | some ⟨h⟩=>some ((h▸l:List (T e)),r) | none=>none)
 | _=>none
mutual
noncomputable def decC:(t:Ty)→List TV→Option (T t×List TV)
 | .int k,cs=>decI k cs
 | .str,cs=>decStr cs
 | .bool,cs=>decBool cs
 | .st fs,cs=>decCs fs cs
 | .sl e,cs=>decSl e cs
noncomputable def decCs:(ts:Tys)→List TV→Option (Ts ts×List TV)
 | .nil,cs=>some ((),cs)
 | .cons t .nil,cs=>decC t cs
 | .cons t (.cons u ts),cs=>(match decC t cs with
  | some (x,r)=>(match decCs (.cons u ts) r with | some (y,r')=>some ((x,y),r') | none=>none)
  | none=>none)
end
noncomputable def decL (t:Ty):Nat→List TV→Option (List (T t))
 | 0,[]=>some []
 | n+1,cs=>(match decC t cs with
  | some (x,r)=>(match decL t n r with | some xs=>some (x::xs) | none=>none)
  | none=>none)
 | 0,_::_=>none
def objAt:List TOb→Nat→Option TOb
 | [],_=>none
 | o::_,0=>some o
 | _::S,l+1=>objAt S l
def setOb:List TOb→Nat→TOb→List TOb
 | [],_,_=>[]
 | _::S,0,o=>o::S
 | a::S,l+1,o=>a::setOb S l o
def decS (TS:List TOb) (t:Ty):TV→Option (List (T t))
 | .ros e l=>(match tyEq e t with | some ⟨h⟩=>some (h▸l) | none=>none)
 | .nils=>some []
 | .slf l=>(match objAt TS l with
  | some (.row e ls)=>(match tyEq e t with | some ⟨h⟩=>some (h▸ls) | none=>none)
  | _=>none)
 | .sl l off len=>(match objAt TS l with
  | some (.row e ls)=>(match tyEq e t with | some ⟨h⟩=>some ((h▸ls:List (T t)).drop off.toNat |>.take len.toNat) | none=>none)
  | _=>none)
 | _=>none
def decAI (k:IntKind) (x:TV):Option Int:=(match asI x with | some (k',n)=>(match kEq k k' with | some _=>some n | none=>none) | none=>none)
def decAS:TV→Option (List UInt8) | .str s=>some s | _=>none
noncomputable def decAg (fs:Tys):TV→Option (Ts fs)
 | .agg cs=>(match decCs fs cs with | some (x,[])=>some x | _=>none)
 | _=>none
noncomputable def decA (TS:List TOb):(t:Ty)→TV→Option (T t)
 | .int k,x=>decAI k x
 | .str,x=>decAS x
 | .bool,x=>asB x
 | .st fs,x=>decAg fs x
 | .sl e,x=>decS TS e x
def tvCells:TV→Option (List TV)
 | .agg cs=>some cs
 | .tup _=>none
 | .junk=>none
 | .gd _=>none
 | .inn _ _=>none
 | .ieptr _ _ _ _ _=>none
 | .ifs _ _=>none
 | .cst _=>none
 | x=>some [x]
def takeG {α:Type}:Nat→List α→Option (List α)
 | 0,_=>some []
 | n+1,x::xs=>(match takeG n xs with | some ys=>some (x::ys) | none=>none)
 | _+1,[]=>none
def overG {α:Type}:List α→List α→List α
 | [],_=>[]
 | cs,[]=>cs
 | _::cs,y::ys=>y::overG cs ys
def setG {α:Type}:List α→Nat→List α→List α
 | cs,0,ys=>overG cs ys
 | [],_+1,_=>[]
 | c::cs,n+1,ys=>c::setG cs n ys
def mkVT (ag:Bool) (xs:List TV):Option TV:=
 match ag with | true=>some (.agg xs) | false=>(match xs with | [x]=>some x | _=>none)
def sizeIs {α:Type}:List α→Nat→Bool
 | [],0=>true
 | _::l,n+1=>sizeIs l n
 | _,_=>false
def sizeLe:Nat→List TV→Bool
 | 0,_=>true
 | n+1,_::l=>sizeLe n l
 | _+1,[]=>false
def fillT (F:RF) (path:List (Nat×Bool)) (cs:List TV):List (Nat×Nat×Rand)→Option (List TV)
 | []=>some cs
 | (off,n,x)::rest=>(match rdP F path x with
  | some x=>(match tvCells x with
   | some ys=>(match sizeIs ys n,sizeLe (off+n) cs with
    | true,true=>fillT F path (setG cs off ys) rest
    | _,_=>none)
   | none=>none)
  | none=>none)
def mkI (k:IntKind) (n:Int):List Prop×TV:=
 match k with | .i64=>([inI64 n],.int .i64 n) | k=>([],.int k (k.wrap n))
def intBinV (op:BinOp) (k:IntKind) (a b:Int):Option (List Prop×TV):=
 match op with
 | .add=>some (mkI k (a+b))
 | .sub=>some (mkI k (a-b))
 | .mul=>some (mkI k (a*b))
 | .quo=>some ((b≠0)::(mkI k (a.tdiv b)).1,(mkI k (a.tdiv b)).2)
 | .rem=>some ([b≠0],.int k (a.tmod b))
 | .eql=>some ([],.pr (a=b))
 | .neq=>some ([],.pr (a≠b))
 | .lss=>some ([],.pr (a<b))
 | .leq=>some ([],.pr (a≤b))
 | .gtr=>some ([],.pr (b<a))
 | .geq=>some ([],.pr (b≤a))
 | .and=>some ([],.int k (k.wrap ((BitVec.ofInt k.bits a) &&& (BitVec.ofInt k.bits b)).toNat))
 | .or=>some ([],.int k (k.wrap ((BitVec.ofInt k.bits a) ||| (BitVec.ofInt k.bits b)).toNat))
 | .xor=>some ([],.int k (k.wrap ((BitVec.ofInt k.bits a) ^^^ (BitVec.ofInt k.bits b)).toNat))
 | _=>none
def strBinV (op:BinOp) (a b:List UInt8):Option (List Prop×TV):=
 match op with
 | .add=>some ([inI64 (a.length+b.length)],.str (a++b))
 | .eql=>some ([],.pr (a=b))
 | .neq=>some ([],.pr (a≠b))
 | .lss=>some ([],.pr (Op.bytesLess a b=true))
 | .leq=>some ([],.pr (Op.bytesLess a b=true∨a=b))
 | .gtr=>some ([],.pr (¬(Op.bytesLess a b=true∨a=b)))
 | .geq=>some ([],.pr (¬Op.bytesLess a b=true))
 | _=>none
def asQ:TV→Option Prop
 | .pr p=>some p
 | .bb b=>some (b=true)
 | .tt=>some True
 | .ff=>some False
 | _=>none
def cellEqV (k:FK) (x y:TV):Option Prop:=
 match k with
 | .int=>(match asI x,asI y with
  | some (k,a),some (k',b)=>(match kEq k k' with | some _=>some (a=b) | none=>none)
  | _,_=>none)
 | .str=>(match decAS0 x,decAS0 y with | some a,some b=>some (a=b) | _,_=>none)
 | .bool=>(match asQ x,asQ y with | some a,some b=>some (a↔b) | _,_=>none)
where decAS0:TV→Option (List UInt8) | .str s=>some s | _=>none
def cellsEqV:List FK→List TV→List TV→Option Prop
 | [],[],[]=>some True
 | [k],[x],[y]=>cellEqV k x y
 | k::ks,x::xs,y::ys=>(match cellEqV k x y,cellsEqV ks xs ys with | some p,some q=>some (p∧q) | _,_=>none)
 | _,_,_=>none
def eqV (op:BinOp) (p:Prop):Option (List Prop×TV):=
 match op with | .eql=>some ([],.pr p) | .neq=>some ([],.pr (¬p)) | _=>none
def binI (op:BinOp) (k:IntKind) (a:Int) (k':IntKind) (b:Int):Option (List Prop×TV):=
 match op with
 | .shl=>some ((0≤b)::(mkI k (a*2 ^ (min b.toNat k.bits))).1,(mkI k (a*2 ^ (min b.toNat k.bits))).2)
 | .shr=>some ([0≤b],.int k (a.fdiv (2 ^ (min b.toNat k.bits))))
 | op=>(match kEq k k' with | some _=>intBinV op k a b | none=>none)
def binV (q:EqQ) (op:BinOp) (x y:TV):Option (List Prop×TV):=
 match x,y with
 | .byte a,.byte b=>(match op with
  | .eql=>some ([],.pr (a=b))
  | .neq=>some ([],.pr (a≠b))
  | op=>binI op .u8 (a.toNat:Int) .u8 (b.toNat:Int))
 | .int k a,.int k' b=>binI op k a k' b
 | .byte a,.int k' b=>binI op .u8 (a.toNat:Int) k' b
 | .int k a,.byte b=>binI op k a .u8 (b.toNat:Int)
 | .str a,.str b=>strBinV op a b
 | .agg xs,.agg ys=>(match q with | .agg ks=>(match cellsEqV ks xs ys with | some p=>eqV op p | none=>none) | _=>none)
 | .nilp,.nilp=>(match q with | .ptr=>eqV op True | _=>none)
 | .nilp,.ptr _ _=>(match q with | .ptr=>eqV op False | _=>none)
 | .nilp,.eptr _ _ _=>(match q with | .ptr=>eqV op False | _=>none)
 | .nilp,.rop _=>(match q with | .ptr=>eqV op False | _=>none)
 | .ptr _ _,.nilp=>(match q with | .ptr=>eqV op False | _=>none)
 | .eptr _ _ _,.nilp=>(match q with | .ptr=>eqV op False | _=>none)
 | .rop _,.nilp=>(match q with | .ptr=>eqV op False | _=>none)
 | .nilf,.nilf=>(match q with | .func=>eqV op True | _=>none)
 | .fn _ _,.nilf=>(match q with | .func=>eqV op False | _=>none)
 | x,y=>(match q with
  | .bool=>(match asQ x,asQ y with | some a,some b=>eqV op (a↔b) | _,_=>none)
  | _=>none)
def sameC:Value→Value→Bool
 | .pointer (some ⟨b,o,none⟩),.pointer (some ⟨b',o',none⟩)=>Nat.beq b b' && Nat.beq o o'
 | _,_=>false
mutual
def sameV:TV→TV→Bool
 | .slf l,.slf l'=>Nat.beq l l'
 | .ptr l o,.ptr l' o'=>Nat.beq l l' && Nat.beq o o'
 | .nilp,.nilp=>true
 | .nilf,.nilf=>true
 | .nilm,.nilm=>true
 | .nili,.nili=>true
 | .nils,.nils=>true
 | .tt,.tt=>true
 | .ff,.ff=>true
 | .fn f xs,.fn g ys=>Nat.beq f g && sameL xs ys
 | .agg xs,.agg ys=>sameL xs ys
 | .tup xs,.tup ys=>sameL xs ys
 | .rop xs,.rop ys=>sameL xs ys
 | .cst v,.cst u=>sameC v u
 | _,_=>false
def sameL:List TV→List TV→Bool
 | [],[]=>true
 | x::xs,y::ys=>sameV x y && sameL xs ys
 | _,_=>false
end
noncomputable def pickS (p:Prop) (x y:TV):Option TV:=
 match x,y with
 | .tt,.ff=>some (.pr p)
 | .ff,.tt=>some (.pr (¬p))
 | .tt,.tt=>some .tt
 | .ff,.ff=>some .ff
 | .int k a,.int k' b=>(match kEq k k' with | some _=>some (.int k (iteP p a b)) | none=>none)
 | .byte a,.byte b=>some (.byte (iteP p a b))
 | .int .u8 a,.byte b=>some (.int .u8 (iteP p a (b.toNat:Int)))
 | .byte a,.int .u8 b=>some (.int .u8 (iteP p (a.toNat:Int) b))
 | .str a,.str b=>some (.str (iteP p a b))
 | .tt,y=>(match asQ y with | some b=>some (.pr (p∨b)) | none=>none)
 | x,.ff=>(match asQ x with | some a=>some (.pr (p∧a)) | none=>none)
 | .ff,y=>(match asQ y with | some b=>some (.pr (¬p∧b)) | none=>none)
 | x,y=>(match asQ x,asQ y with
  | some a,some b=>some (.pr ((p∧a)∨(¬p∧b)))
  | _,_=>(match sameV x y with | true=>some x | false=>none))
noncomputable def pickL (p:Prop):List TV→List TV→Option (List TV)
 | [],[]=>some []
 | x::xs,y::ys=>(match pickS p x y,pickL p xs ys with | some z,some zs=>some (z::zs) | _,_=>none)
 | _,_=>none
noncomputable def pickV (p:Prop) (x y:TV):Option TV:=
 match x,y with
 | .agg xs,.agg ys=>(match sameV (.agg xs) (.agg ys) with | true=>some (.agg xs) | false=>(match pickL p xs ys with | some zs=>some (.agg zs) | none=>none))
 | x,y=>pickS p x y
noncomputable def pickN (k:Nat) (i:Int) (ag:Bool) (cs:List TV):Nat→Nat→Option TV
 | 0,_=>none
 | n+1,j=>(match takeG k (cs.drop (j*k)) with
  | some xs=>(match mkVT ag xs with
   | some x=>(match n with
    | 0=>some x
    | n+1=>(match pickN k i ag cs (n+1) (j+1) with | some y=>pickV (i=(j:Int)) x y | none=>none))
   | none=>none)
  | none=>none)
def convV (k:IntKind) (x:TV):Option (List Prop×TV):=
 match x with
 | .int _ n=>some (mkI k n)
 | .byte b=>(match k with
  | .i64=>some ([],.int .i64 (b.toNat:Int))
  | .u8=>some ([],.byte b)
  | k=>some (mkI k (b.toNat:Int)))
 | _=>none
def loV (F:RF) (path:List (Nat×Bool)):Option Rand→Option Int
 | none=>some 0
 | some r=>(match rdP F path r with | some x=>(match asI x with | some (_,n)=>some n | none=>none) | none=>none)
def hiV (F:RF) (path:List (Nat×Bool)) (n:Int):Option Rand→Option Int
 | none=>some n
 | some r=>(match rdP F path r with | some x=>(match asI x with | some (_,n)=>some n | none=>none) | none=>none)
def minV (k:IntKind) (a:Int):List TV→Option TV
 | []=>some (.int k a)
 | .int k' b::r=>(match kEq k k' with | some _=>minV k (min a b) r | none=>none)
 | _=>none
def maxV (k:IntKind) (a:Int):List TV→Option TV
 | []=>some (.int k a)
 | .int k' b::r=>(match kEq k k' with | some _=>maxV k (max a b) r | none=>none)
 | _=>none
inductive RTy where
 | val (t:Ty)
 | own (t:Ty)
abbrev RT:RTy→Type
 | .val t=>T t
 | .own t=>List (T t)
def RTs:List RTy→Type
 | []=>Unit
 | [r]=>RT r
 | r::s::rs=>RT r×RTs (s::rs)
structure Ct where
 args:Tys
 res:List RTy
 pre:Ts args→Prop
 fn:Ts args→RTs res
def resTV:(rs:List RTy)→RTs rs→Nat→List TV×List TOb
 | [],_,_=>([],[])
 | [.val t],x,_=>([tvA t x],[])
 | [.own t],x,n=>([.slf n],[.row t x])
 | .val t::s::rs,x,n=>(tvA t x.1::(resTV (s::rs) x.2 n).1,(resTV (s::rs) x.2 n).2)
 | .own t::s::rs,x,n=>(.slf n::(resTV (s::rs) x.2 (n+1)).1,.row t x.1::(resTV (s::rs) x.2 (n+1)).2)
def retT (xs:List TV):TV:=match xs with | [x]=>x | xs=>.tup xs
def allVal:List RTy→Bool
 | []=>true
 | .val _::rs=>allVal rs
 | .own _::_=>false
mutual
def flatT:Ty→Bool
 | .sl _=>false
 | .st fs=>flatTs fs
 | _=>true
def flatTs:Tys→Bool
 | .nil=>true
 | .cons t ts=>flatT t && flatTs ts
end
def flatR:List RTy→Bool
 | []=>true
 | .val t::rs=>flatT t && flatR rs
 | .own t::rs=>flatT t && flatR rs
mutual
def pureV:TV→Bool
 | .ptr _ _ | .eptr _ _ _ | .slf _ | .sl _ _ _ | .inn _ _ | .ieptr _ _ _ _ _ | .ifs _ _=>false
 | .rop cs=>pureL cs
 | .agg cs=>pureL cs
 | .tup cs=>pureL cs
 | .fn _ cs=>pureL cs
 | _=>true
def pureL:List TV→Bool
 | []=>true
 | x::xs=>pureV x && pureL xs
end
noncomputable def decA1 (TS:List TOb) (t:Ty):List TV→Option (T t)
 | [x]=>decA TS t x
 | _=>none
noncomputable def decAs (TS:List TOb):(ts:Tys)→List TV→Option (Ts ts)
 | .nil,xs=>(match xs with | []=>some () | _::_=>none)
 | .cons t .nil,xs=>decA1 TS t xs
 | .cons t (.cons u ts),xs=>(match xs with
  | x::xs=>(match decA TS t x,decAs TS (.cons u ts) xs with | some a,some b=>some (a,b) | _,_=>none)
  | []=>none)
section
variable (Γ : List (Nat × Ct)) (ht : Option Ty) (F : RF) (path : List (Nat × Bool)) (TS : List TOb)
def isNils:Rand→Bool | .c .nils=>true | _=>false
def evMov (x:Rand):Option (List Prop×TV):=
 match ht,isNils x with
 | some _,true=>none
 | _,_=>(match rdP F path x with | some y=>some ([],y) | none=>none)
noncomputable def evPick1 (n:Nat) (gs:List (Nat×Bool)) (c:TV) (a b:Rand):Option (List Prop×TV):=
 match c with
 | .gd p=>(match rdP F ((n,true)::gs) a,rdP F ((n,false)::gs) b with
  | some x,some y=>(match pickV p x y with | some z=>some ([],z) | none=>none)
  | _,_=>none)
 | c=>(match asQ c,rdP F path a,rdP F path b with
  | some p,some x,some y=>(match pickV p x y with | some z=>some ([],z) | none=>none)
  | _,_,_=>none)
noncomputable def evPick (c a b:Rand):Option (List Prop×TV):=
 match c with
 | .t n=>(match lookN F n with
  | some (gs,_,c)=>(match sufx gs path with
   | true=>evPick1 F path n gs c a b
   | false=>none)
  | none=>none)
 | .c _=>none
def evBuild (z:List AVal) (parts:List (Nat×Nat×Rand)):Option (List Prop×TV):=
 match ofL z with
 | some cs=>(match fillT F path cs parts with | some ys=>some ([],.agg ys) | none=>none)
 | none=>none
noncomputable def evLit (len k:Nat) (z:List AVal) (parts:List (Nat×Nat×Rand)):Option ((t:Ty)×List (T t)):=
 match ht,ofL z with
 | some t,some cs=>(match Nat.beq (szT t) k,fillT F path cs parts with
  | true,some ys=>(match decL t len ys with | some xs=>some ⟨t,xs⟩ | none=>none)
  | _,_=>none)
 | _,_=>none
def partV (ag:Bool) (n:Nat) (cs:List TV):Option (List Prop×TV):=
 match takeG n cs with | some xs=>(match mkVT ag xs with | some y=>some ([],y) | none=>none) | none=>none
def evLoad (n:Nat) (ag:Bool) (x:TV):Option (List Prop×TV):=
 match x with
 | .rop cs=>partV ag n cs
 | .ptr l off=>(match objAt TS l with
  | some (.cells _ cs)=>partV ag n (cs.drop off)
  | _=>none)
 | .eptr l i fo=>(match objAt TS l with
  | some (.row t ls)=>partV ag n ((cellsT t (@gt (T t) ⟨zT t⟩ ls i)).drop fo)
  | some (.drow _ _)=>(match n,ag,fo with | 1,false,0=>some ([],.inn l i) | _,_,_=>none)
  | _=>none)
 | .ieptr l i j k fo=>(match objAt TS l with
  | some (.drow t ls)=>(match Nat.beq (szT t) k with
   | true=>partV ag n ((cellsT t (@gt (T t) ⟨zT t⟩ (gt ls i) j)).drop fo)
   | false=>none)
  | _=>none)
 | _=>none
def evNilchk (x:TV):Option (List Prop×TV):=
 match x with
 | .rop cs=>some ([],.rop cs)
 | .ptr l off=>some ([],.ptr l off)
 | .eptr l i fo=>some ([],.eptr l i fo)
 | .ieptr l i j k fo=>some ([],.ieptr l i j k fo)
 | .fn f cs=>some ([],.fn f cs)
 | _=>none
def evNot (x:TV):Option (List Prop×TV):=
 match x with
 | .tt=>some ([],.ff)
 | .ff=>some ([],.tt)
 | y=>(match asP y with | some p=>some ([],.pr (¬p)) | none=>none)
def evSlice0 (x:TV) (lo hi:Option Rand):Option (List Prop×TV):=
 match x with
 | .str s=>(match loV F path lo,hiV F path (s.length:Int) hi with
  | some a,some b=>some ([0≤a,a≤b,b≤(s.length:Int)],.str ((s.take b.toNat).drop a.toNat))
  | _,_=>none)
 | _=>none
def evSlice1 (k:Nat) (x:TV) (lo hi:Option Rand):Option (List Prop×TV):=
 match x with
 | .ros t l=>(match loV F path lo,hiV F path (l.length:Int) hi,Nat.beq (szT t) k with
  | some a,some b,true=>some ([0≤a,a≤b,b≤(l.length:Int)],.ros t ((l.take b.toNat).drop a.toNat))
  | _,_,_=>none)
 | .slf l=>(match objAt TS l with
  | some (.row t ls)=>(match loV F path lo,hiV F path (ls.length:Int) hi,Nat.beq (szT t) k with
   | some a,some b,true=>some ([0≤a,a≤b,b≤(ls.length:Int)],.sl l a (b-a))
   | _,_,_=>none)
  | _=>none)
 | .sl l off len=>(match objAt TS l with
  | some (.row t ls)=>(match loV F path lo,hiV F path len hi,Nat.beq (szT t) k with
   | some a,some b,true=>some ([0≤a,a≤b,b≤len],.sl l (off+a) (b-a))
   | _,_,_=>none)
  | _=>none)
 | .nils=>(match loV F path lo,hiV F path 0 hi with
  | some a,some b=>some ([a=0,b=0],.nils)
  | _,_=>none)
 | _=>none
def evFaddr (off:Nat) (x:TV):Option (List Prop×TV):=
 match x with
 | .ptr l o=>some ([],.ptr l (o+off))
 | .eptr l i fo=>some ([],.eptr l i (fo+off))
 | .ieptr l i j k fo=>some ([],.ieptr l i j k (fo+off))
 | .rop cs=>some ([],.rop (cs.drop off))
 | _=>none
def evField (off n:Nat) (ag:Bool) (x:TV):Option (List Prop×TV):=
 match x with
 | .agg cs=>partV ag n (cs.drop off)
 | _=>none
def evIaddr (k:Nat) (x:TV) (j:Int):Option (List Prop×TV):=
 match x with
 | .ros t l=>(match Nat.beq (szT t) k with
  | true=>some ([0≤j,j<(l.length:Int)],.rop (cellsT t (@gt (T t) ⟨zT t⟩ l j)))
  | false=>none)
 | .slf l=>(match objAt TS l with
  | some (.row t ls)=>(match Nat.beq (szT t) k with
   | true=>some ([0≤j,j<(ls.length:Int)],.eptr l j 0)
   | false=>none)
  | some (.drow t ls)=>(match Nat.beq 1 k with
   | true=>some ([0≤j,j<(ls.length:Int)],.eptr l j 0)
   | false=>none)
  | _=>none)
 | .inn l i=>(match objAt TS l with
  | some (.drow t ls)=>(match Nat.beq (szT t) k with
   | true=>some ([0≤j,j<((gt ls i).length:Int)],.ieptr l i j k 0)
   | false=>none)
  | _=>none)
 | .sl l off len=>(match objAt TS l with
  | some (.row t ls)=>(match Nat.beq (szT t) k with
   | true=>some ([0≤j,j<len],.eptr l (off+j) 0)
   | false=>none)
  | _=>none)
 | _=>none
noncomputable def evIndex (k:Nat) (ar:Option Nat) (ag:Bool) (x:TV) (j:Int):Option (List Prop×TV):=
 match ar with
 | none=>(match x with
  | .str s=>some ([0≤j,j<(s.length:Int)],.byte (gt s j))
  | _=>none)
 | some n=>(match x with
  | .agg cs=>(match pickN k j ag cs n 0 with
   | some z=>some ([0≤j,j<(n:Int)],z)
   | none=>none)
  | _=>none)
def evLen (str:Bool) (x:TV):Option (List Prop×TV):=
 match str,x with
 | true,.str s=>some ([],.int .i64 (s.length:Int))
 | false,.ros _ l=>some ([],.int .i64 (l.length:Int))
 | false,.slf l=>(match objAt TS l with | some (.row _ ls)=>some ([],.int .i64 (ls.length:Int)) | some (.drow _ ls)=>some ([],.int .i64 (ls.length:Int)) | _=>none)
 | false,.inn l i=>(match objAt TS l with | some (.drow _ ls)=>some ([],.int .i64 ((gt ls i).length:Int)) | _=>none)
 | false,.sl l off len=>some ([],.int .i64 len)
 | false,.nils=>some ([],.int .i64 0)
 | _,_=>none
def evMM (mx:Bool) (xs:List TV):Option (List Prop×TV):=
 match xs with
 | .int k a::r=>(match (match mx with | true=>maxV k a r | false=>minV k a r) with | some y=>some ([],y) | none=>none)
 | _=>none
def evFunc (f:Fn) (first:List Rand) (cap:List Rand):Option (List Prop×TV):=
 match f,first with
 | .func f,[]=>(match rdPs F path cap with | some xs=>some ([],.fn f xs) | none=>none)
 | _,_=>none
def asBy:TV→Option UInt8
 | .byte b=>some b
 | .int .u8 n=>some n.toNat.toUInt8
 | _=>none
def evExt (k:ExtK) (xs:List TV):Option (List Prop×TV):=
 match xs with
 | [.str s,c]=>(match asBy c with
  | some b=>(match k with
   | .idxb=>some ([],.int .i64 (Lib.indexByte s b))
   | .cnt=>some ([],.int .i64 ((Lib.countByte s b:Nat):Int)))
  | none=>none)
 | _=>none
def evExtract (x:TV) (i:Nat):Option (List Prop×TV):=
 match x with
 | .tup xs=>(match xs.drop i with | y::_=>some ([],y) | []=>none)
 | _=>none
noncomputable def evCall (f:Nat) (xs:List TV):Option (List Prop×TV):=
 match lookN Γ f with
 | some ct=>(match allVal ct.res,decAs TS ct.args xs,flatR ct.res || pureL xs with
  | true,some a,true=>some ([ct.pre a],retT (resTV ct.res (ct.fn a) 0).1)
  | _,_,_=>none)
 | none=>none
mutual
def eqB:TV→TV→Option (List Prop)
 | .int k a,.int k' b=>(match kEq k k' with | some _=>some [a=b] | none=>none)
 | .byte a,.byte b=>some [a=b]
 | .str a,.str b=>some [a=b]
 | .ros t a,.ros t' b=>(match tyEq t t' with | some ⟨h⟩=>some [h▸a=b] | none=>none)
 | .slf l,.slf l'=>(match Nat.beq l l' with | true=>some [] | false=>none)
 | .ptr l o,.ptr l' o'=>(match Nat.beq l l',Nat.beq o o' with | true,true=>some [] | _,_=>none)
 | .rop xs,.rop ys=>eqBL xs ys
 | .fn f xs,.fn g ys=>(match Nat.beq f g with | true=>eqBL xs ys | false=>none)
 | _,_=>none
def eqBL:List TV→List TV→Option (List Prop)
 | [],[]=>some []
 | x::xs,y::ys=>(match eqB x y,eqBL xs ys with | some ps,some qs=>some (ps++qs) | _,_=>none)
 | _,_=>none
end
def with1 (x:Rand) (f:TV→Option (List Prop×TV)):Option (List Prop×TV):=match rdP F path x with | some y=>f y | none=>none
def with2 (x y:Rand) (f:TV→TV→Option (List Prop×TV)):Option (List Prop×TV):=match rdP F path x,rdP F path y with | some a,some b=>f a b | _,_=>none
def withI (x i:Rand) (f:TV→Int→Option (List Prop×TV)):Option (List Prop×TV):=
 match rdP F path x,rdP F path i with | some a,some b=>(match asI b with | some (_,j)=>f a j | none=>none) | _,_=>none
def withL (xs:List Rand) (f:List TV→Option (List Prop×TV)):Option (List Prop×TV):=match rdPs F path xs with | some ys=>f ys | none=>none
noncomputable def evP:SOp→Option (List Prop×TV)
 | .mov x=>evMov ht F path x
 | .pick c a b=>evPick F path c a b
 | .build z parts=>evBuild F path z parts
 | .bslice ro len k z parts=>(match ro with
  | true=>(match evLit ht F path len k z parts with | some ⟨t,xs⟩=>some ([],.ros t xs) | none=>none)
  | false=>none)
 | .load n ag x=>with1 F path x (evLoad TS n ag)
 | .nilchk x=>with1 F path x evNilchk
 | .bin q op x y=>with2 F path x y (binV q op)
 | .strid x=>with1 F path x fun x=>match x with | .str s=>some ([],.str s) | _=>none
 | .b2s x=>with1 F path x fun x=>match decS TS (.int .u8) x with | some l=>some ([],.str (List.map (fun n:Int=>UInt8.ofNat n.toNat) l)) | none=>none
 | .not x=>with1 F path x evNot
 | .neg x=>with1 F path x fun x=>match x with | .int k n=>some (mkI k (0-n)) | _=>none
 | .conv k x=>with1 F path x (convV k)
 | .slice k x lo hi=>with1 F path x fun x=>match k with | 0=>evSlice0 F path x lo hi | k+1=>evSlice1 F path TS (k+1) x lo hi
 | .faddr off x=>with1 F path x (evFaddr off)
 | .field off n ag x=>with1 F path x (evField off n ag)
 | .iaddr k ar x i=>(match ar with | none=>withI F path x i (evIaddr TS k) | some _=>none)
 | .index k ar ag x i=>withI F path x i (evIndex k ar ag)
 | .len str x=>with1 F path x (evLen TS str)
 | .min xs=>withL F path xs (evMM false)
 | .max xs=>withL F path xs (evMM true)
 | .mkfunc f first cap=>evFunc F path f first cap
 | .slice3 k x h m=>with1 F path x fun x=>with2 F path h m fun y z=>(match asI y,asI z with
  | some (k1,n),some (k2,n')=>(match x with
   | .slf l=>(match objAt TS l with
    | some (.row t ls)=>(match Nat.beq (szT t) k,kEq k1 k2 with | true,some _=>some ([n'=n,0≤n,n≤ls.length],.sl l 0 n) | _,_=>none)
    | _=>none)
   | _=>none)
  | _,_=>none)
 | .mkif t x=>with1 F path x fun x=>match x with | .slf l=>some ([],.ifs t l) | _=>none
 | .ext k xs=>withL F path xs (evExt k)
 | .extract x i=>with1 F path x fun x=>evExtract x i
 | .call f args=>withL F path args (evCall Γ TS f)
 | .again t n ag x=>with2 F path x (.t t) fun x y=>(match evLoad TS n ag x with
  | some (ps,z)=>(match eqB z y with | some qs=>some (ps++qs,.junk) | none=>none)
  | none=>none)
 | .callv x args=>with1 F path x fun x=>(match x with | .fn f cap=>withL F path args fun xs=>evCall Γ TS f (xs++cap) | _=>none)
 | _=>none
end
mutual
def killV (l:Nat):TV→TV
 | .slf l'=>(match Nat.beq l l' with | true=>.junk | false=>.slf l')
 | .sl l' a b=>(match Nat.beq l l' with | true=>.junk | false=>.sl l' a b)
 | .eptr l' a b=>(match Nat.beq l l' with | true=>.junk | false=>.eptr l' a b)
 | .ptr l' a=>(match Nat.beq l l' with | true=>.junk | false=>.ptr l' a)
 | .inn l' i=>(match Nat.beq l l' with | true=>.junk | false=>.inn l' i)
 | .ieptr l' i j k a=>(match Nat.beq l l' with | true=>.junk | false=>.ieptr l' i j k a)
 | .ifs t l'=>(match Nat.beq l l' with | true=>.junk | false=>.ifs t l')
 | .agg cs=>.agg (killL l cs)
 | .tup cs=>.tup (killL l cs)
 | .rop cs=>.rop (killL l cs)
 | .fn f cs=>.fn f (killL l cs)
 | x=>x
def killL (l:Nat):List TV→List TV
 | []=>[]
 | x::xs=>killV l x::killL l xs
end
def killF (l:Nat):RF→RF
 | []=>[]
 | (s,gs,p,x)::F=>(s,gs,p,killV l x)::killF l F
def killG (l:Nat):List RF→List RF
 | []=>[]
 | F::G=>killF l F::killG l G
def killO (l:Nat):List TOb→List TOb
 | []=>[]
 | .cells k cs::S=>.cells k (killL l cs)::killO l S
 | o::S=>o::killO l S
mutual
def killIV (l:Nat):TV→TV
 | .inn l' i=>(match Nat.beq l l' with | true=>.junk | false=>.inn l' i)
 | .ieptr l' i j k a=>(match Nat.beq l l' with | true=>.junk | false=>.ieptr l' i j k a)
 | .ifs t l'=>(match Nat.beq l l' with | true=>.junk | false=>.ifs t l')
 | .agg cs=>.agg (killIL l cs)
 | .tup cs=>.tup (killIL l cs)
 | .rop cs=>.rop (killIL l cs)
 | .fn f cs=>.fn f (killIL l cs)
 | x=>x
def killIL (l:Nat):List TV→List TV
 | []=>[]
 | x::xs=>killIV l x::killIL l xs
end
def killIF (l:Nat):RF→RF
 | []=>[]
 | (s,gs,p,x)::F=>(s,gs,p,killIV l x)::killIF l F
def killIG (l:Nat):List RF→List RF
 | []=>[]
 | F::G=>killIF l F::killIG l G
def killIO (l:Nat):List TOb→List TOb
 | []=>[]
 | .cells k cs::S=>.cells k (killIL l cs)::killIO l S
 | o::S=>o::killIO l S
def lenT:List TOb→Nat
 | []=>0
 | _::S=>lenT S+1
def pushO:List TOb→TOb→List TOb
 | [],o=>[o]
 | a::S,o=>a::pushO S o
def pushL:List TOb→List TOb→List TOb
 | [],S=>S
 | a::S,S'=>a::pushL S S'
noncomputable def srcV (TS:List TOb) (t:Ty):TV→Option (List (T t))
 | .str s=>(match t with | .int .u8=>some ((s.map fun c=>(c.toNat:Int)):List Int) | _=>none)
 | x=>decS TS t x
section
variable (Γ : List (Nat × Ct)) (ht : Option Ty) (F : RF) (G : List RF) (TS : List TOb)
abbrev ER:=Option (List Prop×TV×RF×List RF×List TOb)
def evNew:ER:=match ht with | some t=>some ([],.slf (lenT TS),F,G,pushO TS (.row t [])) | none=>none
noncomputable def evMk (k bytes:Nat) (z:List AVal) (len cap:TV):ER:=
 match ht,ofL z,asI len,asI cap with
 | some t,some cs,some (k1,a),some (k2,b)=>(match decL t 1 cs,Nat.beq (szT t) k,kEq k1 k2 with
  | some [x],true,some _=>some ([b=a,0≤a,bytes*a.toNat≤140737488355328],.slf (lenT TS),F,G,pushO TS (.row t (List.replicate a.toNat x)))
  | _,_,_=>none)
 | _,_,_,_=>none
def deepOf (ht:Option Ty) (z:List AVal) (k:Nat):Option Ty:=
 match ht,z,k with
 | some (.sl e),[.nils],1=>some e
 | _,_,_=>none
noncomputable def evMkD (e:Ty) (bytes:Nat) (len cap:TV):ER:=
 match asI len,asI cap with
 | some (k1,a),some (k2,b)=>(match kEq k1 k2 with
  | some _=>some ([b=a,0≤a,bytes*a.toNat≤140737488355328],.slf (lenT TS),F,G,pushO TS (.drow e (List.replicate a.toNat [])))
  | none=>none)
 | _,_=>none
noncomputable def evStoreD (n:Nat) (x y:TV):ER:=
 match x,y with
 | .eptr l i fo,.slf q=>(match objAt TS l,objAt TS q with
  | some (.drow t ls),some (.row t' xs)=>(match n,fo,Nat.beq q l,tyEq t' t with
   | 1,0,false,some ⟨h⟩=>some ([],.junk,killF q (killIF l F),killG q (killIG l G),setOb (setOb (killO q (killIO l TS)) q .dead) l (.drow t (ls.set i.toNat (h▸xs))))
   | _,_,_,_=>none)
  | _,_=>none)
 | .ieptr l i j k fo,y=>(match objAt TS l,tvCells y with
  | some (.drow t ls),some ys=>(match Nat.beq (szT t) k,sizeIs ys n,sizeLe (fo+n) (cellsT t (@gt (T t) ⟨zT t⟩ (gt ls i) j)),decC t (setG (cellsT t (@gt (T t) ⟨zT t⟩ (gt ls i) j)) fo ys),n with
   | true,true,true,some (x',[]),_+1=>some ([],.junk,F,G,setOb TS l (.drow t (ls.set i.toNat ((gt ls i).set j.toNat x'))))
   | _,_,_,_,_=>none)
  | _,_=>none)
 | _,_=>none
def nilOver (n:Nat) (x y:TV):Option (Nat×Nat×Nat×List TV×Nat×Ty):=
 match y,n,x with
 | .nils,1,.ptr l off=>(match objAt TS l with
  | some (.cells k cs)=>(match cs.drop off with
   | .slf m::_=>(match objAt TS m,Nat.beq m l with | some (.row t _),false=>some (l,off,k,cs,m,t) | _,_=>none)
   | .sl m _ _::_=>(match objAt TS m,Nat.beq m l with | some (.row t _),false=>some (l,off,k,cs,m,t) | _,_=>none)
   | _=>none)
  | _=>none)
 | _,_,_=>none
noncomputable def evStore (n:Nat) (x y:TV):ER:=
 match nilOver TS n x y with
 | some (l,off,k,cs,m,t)=>some ([],.junk,killF m F,killG m G,setOb (setOb (killO m TS) m (.row t [])) l (.cells k (setG (killL m cs) off [.slf m])))
 | none=>match x,tvCells y with
 | .ptr l off,some ys=>(match objAt TS l with
  | some (.cells k cs)=>(match sizeIs ys n,sizeLe (off+n) cs,n with
   | true,true,_+1=>some ([],.junk,F,G,setOb TS l (.cells k (setG cs off ys)))
   | _,_,_=>none)
  | _=>none)
 | .eptr l i fo,some ys=>(match objAt TS l with
  | some (.row t ls)=>(match sizeIs ys n,sizeLe (fo+n) (cellsT t (@gt (T t) ⟨zT t⟩ ls i)),decC t (setG (cellsT t (@gt (T t) ⟨zT t⟩ ls i)) fo ys),n with
   | true,true,some (x',[]),_+1=>some ([],.junk,F,G,setOb TS l (.row t (ls.set i.toNat x')))
   | _,_,_,_=>none)
  | _=>none)
 | _,_=>none
noncomputable def evAppend (k bytes:Nat) (x y:TV):ER:=
 match x with
 | .slf l=>(match objAt TS l with
  | some (.row t ls)=>(match srcV TS t y,Nat.beq (szT t) k with
   | some ys,true=>some ([(ls.length+ys.length)*bytes≤140737488355328],.slf l,killF l F,killG l G,setOb (killO l TS) l (.row t (ls++ys)))
   | _,_=>none)
  | _=>none)
 | .sl l off len=>(match objAt TS l with
  | some (.row t ls)=>(match srcV TS t y,Nat.beq (szT t) k with
   | some ys,true=>some ([(len.toNat+ys.length)*bytes≤140737488355328],.slf l,killF l F,killG l G,setOb (killO l TS) l (.row t ((ls.drop off.toNat).take len.toNat++ys)))
   | _,_=>none)
  | _=>none)
 | .nils=>(match ht with
  | some t=>(match srcV TS t y,Nat.beq (szT t) k with
   | some ys,true=>some ([ys.length*bytes≤140737488355328],.slf (lenT TS),F,G,pushO TS (.row t ys))
   | _,_=>none)
  | none=>none)
 | _=>none
noncomputable def evCallE (f:Nat) (xs:List TV):ER:=
 match lookN Γ f with
 | some ct=>(match decAs TS ct.args xs,flatR ct.res || pureL xs with
  | some a,true=>some ([ct.pre a],retT (resTV ct.res (ct.fn a) (lenT TS)).1,F,G,pushL TS (resTV ct.res (ct.fn a) (lenT TS)).2)
  | _,_=>none)
 | none=>none
def withE2 (x y:Rand) (f:TV→TV→ER):ER:=match rdP F [] x,rdP F [] y with | some a,some b=>f a b | _,_=>none
noncomputable def evClear (k:Nat) (z:List AVal) (x:TV):ER:=
 match x,ofL z with
 | .nils,_=>some ([],.junk,F,G,TS)
 | .slf l,some cs=>(match objAt TS l with
  | some (.row t ls)=>(match decL t 1 cs,Nat.beq (szT t) k with
   | some [x],true=>some ([],.junk,F,G,setOb TS l (.row t (List.replicate ls.length x)))
   | _,_=>none)
  | _=>none)
 | .sl l off len,some cs=>(match objAt TS l with
  | some (.row t ls)=>(match decL t 1 cs,Nat.beq (szT t) k with
   | some [x],true=>some ([],.junk,F,G,setOb TS l (.row t (ls.take off.toNat++List.replicate len.toNat x++ls.drop (off.toNat+len.toNat))))
   | _,_=>none)
  | _=>none)
 | _,_=>none
noncomputable def evE:SOp→ER
 | .newnil k=>(match ht with | some t=>(match Nat.beq (szT t) k with | true=>evNew ht F G TS | false=>none) | none=>none)
 | .mov x=>(match isNils x with | true=>evNew ht F G TS | false=>none)
 | .alloc k z=>(match ofL z with | some cs=>some ([],.ptr (lenT TS) 0,F,G,pushO TS (.cells k cs)) | none=>none)
 | .box k x=>(match rdP F [] x with
  | some y=>(match tvCells y with | some cs=>some ([],.ptr (lenT TS) 0,F,G,pushO TS (.cells k cs)) | none=>none)
  | none=>none)
 | .bslice ro len k z parts=>(match ro with
  | false=>(match evLit ht F [] len k z parts with | some ⟨t,xs⟩=>some ([],.slf (lenT TS),F,G,pushO TS (.row t xs)) | none=>none)
  | true=>none)
 | .mkslice k bytes z len cap=>withE2 F len cap fun x y=>(match deepOf ht z k with | some e=>evMkD F G TS e bytes x y | none=>evMk ht F G TS k bytes z x y)
 | .store n x v=>withE2 F x v fun x y=>(match evStoreD F G TS n x y with | some r=>some r | none=>evStore F G TS n x y)
 | .append k bytes s x=>withE2 F s x (evAppend ht F G TS k bytes)
 | .s2b x=>(match rdP F [] x with | some (.str s)=>some ([],.slf (lenT TS),F,G,pushO TS (.row (.int .u8) (s.map fun c=>(c.toNat:Int)))) | _=>none)
 | .mark x=>(match rdP F [] x with
  | some (.slf l)=>(match objAt TS l with | some (.row (.int _) ls)=>some ([0<ls.length],.slf l,F,G,TS) | _=>none)
  | _=>none)
 | .clear k z x=>(match rdP F [] x with | some a=>evClear F G TS k z a | none=>none)
 | .call f args=>(match rdPs F [] args with | some xs=>evCallE Γ F G TS f xs | none=>none)
 | _=>none
end
end Go.Vc
end
section
namespace Go.Vc
structure Hi where
 ty:List (Nat×Ty)
 nm:List (Nat×String)
inductive An where
 | d
 | seq (a b:An)
 | loop (mods subs swaps:List Nat) (a:An)
def An.l:An→An | .seq a _=>a | _=>.d
def An.r:An→An | .seq _ b=>b | _=>.d
def An.body:An→An | .loop _ _ _ a=>a | _=>.d
def An.mods:An→List Nat | .loop m _ _ _=>m | _=>[]
def An.subs:An→List Nat | .loop _ s _ _=>s | _=>[]
def An.swaps:An→List Nat | .loop _ _ s _=>s | _=>[]
abbrev TK:=RF→List RF→List TOb→Prop
def mentions (d:Nat):List (Nat×Bool)→Bool
 | []=>false
 | (g,_)::gs=>match Nat.beq g d with | true=>true | false=>mentions d gs
def dropM (d:Nat):RF→RF
 | []=>[]
 | (s,gs,p,x)::F=>match mentions d gs with | true=>(s,[],True,.junk)::dropM d F | false=>(s,gs,p,x)::dropM d F
def putT (F:RF) (d:Option Nat) (gs:List (Nat×Bool)) (p:Prop) (x:TV):RF:=
 match d with
 | some d=>(match mentions d gs with | true=>(d,[],True,.junk)::dropM d F | false=>(d,gs,p,x)::dropM d F)
 | none=>F
def onlyT (F:RF):List Nat→RF
 | []=>[]
 | t::keep=>match lookN F t with | some ([],_,x)=>(t,[],True,x)::onlyT F keep | _=>onlyT F keep
def lookT (F:RF) (t:Nat):TV:=match lookN F t with | some ([],_,x)=>x | _=>.junk
def getsT (F:RF):List Nat→List TV
 | []=>[]
 | t::W=>lookT F t::getsT F W
def zipT:List Nat→List TV→RF→RF
 | t::W,x::xs,F=>(t,[],True,x)::zipT W xs F
 | _,_,F=>F
def sameF:RF→RF→Bool
 | [],[]=>true
 | (s,gs,_,x)::F,(s',gs',_,y)::F'=>(match Nat.beq s s',eqPath gs gs' with
  | true,true=>(match pureV x with | true=>sameF F F' | false=>(match sameV x y with | true=>sameF F F' | false=>false))
  | _,_=>false)
 | _,_=>false
def sameG:List RF→List RF→Bool
 | [],[]=>true
 | F::G,F'::G'=>(match sameF F F' with | true=>sameG G G' | false=>false)
 | _,_=>false
def gdV (isG:Bool) (x:TV):Option TV:=
 match isG with
 | false=>some x
 | true=>(match asP x with | some p=>some (.gd p) | none=>none)
def condG:List (Nat×Bool)→Prop→Prop→Bool→Prop
 | [],_,p,true=>p
 | [],_,p,false=> ¬p
 | _::_,q,p,true=>q∧p
 | _::_,q,p,false=>q∧ ¬p
def nilLen (TS:List TOb):TV→Option Int
 | .ros _ l=>some (l.length:Int)
 | .slf l=>(match objAt TS l with | some (.row _ ls)=>some (ls.length:Int) | _=>none)
 | .sl _ _ len=>some len
 | _=>none
def refT (F:RF) (x:Rand) (v:TV):RF:=
 match x with
 | .t n=>(match lookN F n with
  | some ([],_,.pr _)=>(n,[],True,v)::F
  | some ([],_,.bb _)=>(n,[],True,v)::F
  | _=>F)
 | .c _=>F
structure Sp where
 ev:List TV→List RF→List TOb→Option (List Prop×TV×List RF×List TOb)
structure Fi where
 n:Nat
 code:SCode
 res:List RRes
 an:An
 hi:Hi
 sp:Option Sp
def onN (N:TK) (Q:SExit→TK):SExit→TK
 | .normal=>N
 | e=>Q e
def popQ (Q:SExit→TK):SExit→TK:=fun e F G TS=>match G with | _::G=>Q e F G TS | []=>False
def onB (id:Nat) (Q:SExit→TK):SExit→TK
 | .exit id'=>match Nat.beq id' id with | true=>Q .normal | false=>Q (.exit id')
 | e=>Q e
section
variable (Γ : List (Nat × Ct)) (call : Nat → List TV → List RF → List TOb → (TV → List RF → List TOb → Prop) → Prop)
def dumV (d:Option Nat):List GOp→TV
 | []=>.ff
 | o::rest=>(match d,o.op with
  | some d',.bin _ _ (.t e) (.c (.int k _))=>(match Nat.beq d' e with | true=>.int k 0 | false=>dumV d rest)
  | _,_=>dumV d rest)
noncomputable def tOps (hi:Hi) (K:TK):Nat→List GOp→TK
 | _,[],F,G,TS=>K F G TS
 | m,o::rest,F,G,TS=>
  match o.guard with
  | some (g,w)=>(match lookN F g with
   | some (gs,q,.gd p)=>(match evP Γ (match o.dst with | some d=>lookN hi.ty d | none=>none) F ((g,w)::gs) TS o.op with
    | some (ps,y)=>(match gdV o.isG y with
     | some y=>conj (underP (condG gs q p w) ps) (tOps hi K (m-1) rest (putT F o.dst ((g,w)::gs) (condG gs q p w) y) G TS)
     | none=>False)
    | none=>(match m,o.isG,o.op with
     | 0,false,.call f args=>(match rdPs F ((g,w)::gs) args with
      | some xs=>(condG gs q p w→call f xs (F::G) TS fun y G' TS'=>(match G' with | F'::G'=>tOps hi K 0 rest (putT F' o.dst ((g,w)::gs) (condG gs q p w) y) G' TS' | []=>False))∧
       (¬condG gs q p w→tOps hi K 0 rest (putT F o.dst ((g,w)::gs) (condG gs q p w) (dumV o.dst rest)) G TS)
      | none=>False)
     | 0,false,.callv x args=>(match rdP F ((g,w)::gs) x,rdPs F ((g,w)::gs) args with
      | some (.fn f cap),some xs=>(condG gs q p w→call f (xs++cap) (F::G) TS fun y G' TS'=>(match G' with | F'::G'=>tOps hi K 0 rest (putT F' o.dst ((g,w)::gs) (condG gs q p w) y) G' TS' | []=>False))∧
       (¬condG gs q p w→tOps hi K 0 rest (putT F o.dst ((g,w)::gs) (condG gs q p w) (dumV o.dst rest)) G TS)
      | _,_=>False)
     | _,_,_=>False))
   | _=>False)
  | none=>(match evP Γ (match o.dst with | some d=>lookN hi.ty d | none=>none) F [] TS o.op with
   | some (ps,y)=>(match gdV o.isG y with
    | some y=>conj ps (tOps hi K (m-1) rest (putT F o.dst [] True y) G TS)
    | none=>False)
   | none=>(match m,o.isG with
    | 0,false=>(match evE Γ (match o.dst with | some d=>lookN hi.ty d | none=>none) F G TS o.op with
     | some (ps,y,F',G',TS')=>conj ps (tOps hi K 0 rest (putT F' o.dst [] True y) G' TS')
     | none=>(match o.op with
      | .call f args=>(match rdPs F [] args with
       | some xs=>call f xs (F::G) TS fun y G' TS'=>(match G' with | F'::G'=>tOps hi K 0 rest (putT F' o.dst [] True y) G' TS' | []=>False)
       | none=>False)
      | .callv x args=>(match rdP F [] x,rdPs F [] args with
       | some (.fn f cap),some xs=>call f (xs++cap) (F::G) TS fun y G' TS'=>(match G' with | F'::G'=>tOps hi K 0 rest (putT F' o.dst [] True y) G' TS' | []=>False)
       | _,_=>False)
      | .isnil neg x=>(match rdP F [] x with
       | some .nils=>tOps hi K 0 rest (putT F o.dst [] True (match neg with | true=>.ff | false=>.tt)) G TS
       | some x=>(match nilLen TS x with
        | some n=> ∀isnil:Nm "isnil" Prop,(isnil→n=0)→tOps hi K 0 rest (putT F o.dst [] True (match neg with | true=>.pr (¬isnil) | false=>.pr isnil)) G TS
        | none=>False)
       | none=>False)
      | _=>False))
    | _,_=>False))
noncomputable def evOps (hi:Hi) (TS:List TOb):List GOp→RF→Option (List Prop×RF)
 | [],F=>some ([],F)
 | o::rest,F=>
  match o.guard with
  | some (g,w)=>(match lookN F g with
   | some (gs,q,.gd p)=>(match evP Γ (match o.dst with | some d=>lookN hi.ty d | none=>none) F ((g,w)::gs) TS o.op with
    | some (ps,y)=>(match gdV o.isG y with
     | some y=>(match evOps hi TS rest (putT F o.dst ((g,w)::gs) (condG gs q p w) y) with
      | some (qs,F')=>some (underP (condG gs q p w) ps++qs,F')
      | none=>none)
     | none=>none)
    | none=>none)
   | _=>none)
  | none=>(match evP Γ (match o.dst with | some d=>lookN hi.ty d | none=>none) F [] TS o.op with
   | some (ps,y)=>(match gdV o.isG y with
    | some y=>(match evOps hi TS rest (putT F o.dst [] True y) with
     | some (qs,F')=>some (ps++qs,F')
     | none=>none)
    | none=>none)
   | none=>none)
noncomputable def tRes (hi:Hi) (K:List GOp→TK):Nat→List GOp→TK
 | 0,rest,F,G,TS=>K rest F G TS
 | _+1,[],_,_,_=>False
 | q+1,o::rest,F,G,TS=>(match o.guard,o.isG,o.op with
  | none,false,.mkres d k b z len cap=>(match Nat.beq d (q+1),withE2 F len cap (evMk (match o.dst with | some d=>lookN hi.ty d | none=>none) F G TS k b z) with
   | true,some (ps,y,F',G',TS')=>conj ps (tRes hi K q rest (putT F' o.dst [] True y) G' TS')
   | _,_=>False)
  | none,false,.alres d k z=>(match Nat.beq d (q+1),ofL z with
   | true,some cs=>tRes hi K q rest (putT F o.dst [] True (.ptr (lenT TS) 0)) G (pushO TS (.cells k cs))
   | _,_=>False)
  | _,_,_=>(match evOps Γ hi TS [o] F with
   | some (ps,F')=>conj ps (tRes hi K (q+1) rest F' G TS)
   | none=>False))
def keptN:Option (Nat×Nat×List Nat)→Nat | none=>0 | some d=>d.2.1
noncomputable def mergeF (c:Prop) (Fb:RF):RF→RF
 | []=>[]
 | (s,_,_,x)::F=>(match lookN Fb s with
  | some ([],_,y)=>(match pickV c x y with | some z=>(s,[],True,z)::mergeF c Fb F | none=>mergeF c Fb F)
  | _=>mergeF c Fb F)
noncomputable def evC (hi:Hi) (TS:List TOb):SCode→RF→Option (List Prop×RF)
 | .skip,F=>some ([],F)
 | .ops l d keep,F=>(match keptN d with | _+1=>none | 0=>match evOps Γ hi TS l F with | some (ps,F')=>some (ps,onlyT F' keep) | none=>none)
 | .seq a b,F=>(match evC hi TS a F with
  | some (ps,F1)=>(match evC hi TS b F1 with | some (qs,F2)=>some (ps++qs,F2) | none=>none)
  | none=>none)
 | .join keep W _ a b,F=>(match evC hi TS a F with
  | some (ps,F1)=>(match evC hi TS b (zipT W (getsT F1 W) (onlyT F keep)) with | some (qs,F2)=>some (ps++qs,F2) | none=>none)
  | none=>none)
 | .cond x a b,F=>(match rdP F [] x with
  | some .tt=>evC hi TS a F
  | some .ff=>evC hi TS b F
  | some y=>(match asP y,evC hi TS a (refT F x .tt),evC hi TS b (refT F x .ff) with
   | some p,some (ps,Fa),some (qs,Fb)=>some (underP p ps++underP (¬p) qs,mergeF p Fb (onlyT Fa (Fa.map (·.1))))
   | _,_,_=>none)
  | none=>none)
 | .block _ a,F=>evC hi TS a F
 | _,_=>none
inductive Sh where
 | val (t:Ty)
 | sub (l:Nat)
 | con (x:TV)
inductive ShO where
 | keep (o:TOb)
 | row (nm:String) (t:Ty)
 | drow (nm:String) (t:Ty)
 | cells (nm:String) (k:Nat) (shs:List Sh)
def tyS:TV→Option Ty
 | .int k _=>some (.int k)
 | .byte _=>some (.int .u8)
 | .str _=>some .str
 | .pr _ | .bb _ | .tt | .ff=>some .bool
 | .ros t _=>some (.sl t)
 | _=>none
def tyL:List TV→Option Tys
 | []=>some .nil
 | x::xs=>(match tyS x,tyL xs with | some t,some ts=>some (.cons t ts) | _,_=>none)
def hasN:List Nat→Nat→Bool
 | [],_=>false
 | a::l,n=>(match Nat.beq a n with | true=>true | false=>hasN l n)
def shV (subs:List Nat) (x:TV):Sh:=
 match x with
 | .agg cs=>(match tyL cs with | some ts=>.val (.st ts) | none=>.con (.agg cs))
 | .sl l _ _=>.sub l
 | .slf l=>(match hasN subs l with | true=>.sub l | false=>.con (.slf l))
 | x=>(match tyS x with | some t=>.val t | none=>.con x)
def shVs (subs:List Nat):List TV→List Sh
 | []=>[]
 | x::xs=>shV subs x::shVs subs xs
def shOs (ms:List (Nat×String)) (subs:List Nat):Nat→List TOb→List ShO
 | _,[]=>[]
 | n,o::S=>(match lookN ms n with
  | some nm=>(match o with
   | .dead=>.keep .dead
   | .row t _=>.row nm t
   | .drow t _=>.drow nm t
   | .cells k cs=>.cells nm k (shVs subs cs))
  | none=>.keep o)::shOs ms subs (n+1) S
def idsV (TS:List TOb) (nm:String):Nat→List TV→List (Nat×String)
 | 0,_=>[]
 | _+1,[]=>[]
 | n+1,x::xs=>(match x with
  | .slf l=>(l,nm)::idsV TS nm n xs
  | .sl l _ _=>(l,nm)::idsV TS nm n xs
  | .eptr l _ _=>(l,nm)::idsV TS nm n xs
  | .inn l _=>(l,nm)::idsV TS nm n xs
  | .ieptr l _ _ _ _=>(l,nm)::idsV TS nm n xs
  | .ptr l _=>(match objAt TS l with
   | some (.cells _ cs)=>(l,nm)::idsV TS nm n (app2 cs xs)
   | _=>(l,nm)::idsV TS nm n xs)
  | .fn _ cs=>idsV TS nm n (app2 cs xs)
  | .agg cs=>idsV TS nm n (app2 cs xs)
  | _=>idsV TS nm n xs)
where app2:List TV→List TV→List TV
 | [],ys=>ys
 | x::xs,ys=>x::app2 xs ys
def idsS (nms:List (Nat×String)) (F:RF) (TS:List TOb):List Nat→List (Nat×String)
 | []=>[]
 | s::ss=>app2 (idsV TS (match lookN nms s with | some n=>n | none=> "o") 40 [lookT F s]) (idsS nms F TS ss)
where app2:List (Nat×String)→List (Nat×String)→List (Nat×String)
 | [],ys=>ys
 | x::xs,ys=>x::app2 xs ys
def fsts:List (Nat×String)→List Nat
 | []=>[]
 | (a,_)::l=>a::fsts l
def swS (F:RF) (TS:List TOb):List Nat→List (Nat×Nat)
 | []=>[]
 | s::ss=>(match lookT F s with
  | .slf l=>(s,l)::swS F TS ss
  | .ptr l 0=>(match objAt TS l with
   | some (.cells _ (.slf m::_))=>(s,l)::(Nat.add 1000000 s,m)::swS F TS ss
   | _=>(s,l)::swS F TS ss)
  | _=>swS F TS ss)
def nmW (hi:Hi):List Nat→List String
 | []=>[]
 | t::W=>(match lookN hi.nm t with | some n=>n | none=> "x")::nmW hi W
def hdN:List String→String | []=> "x" | s::_=>s
def tlN:List String→List String | []=>[] | _::r=>r
abbrev PT:List Sh→Type→Type
 | [],R=>R
 | .val t::r,R=>T t→PT r R
 | .sub _::r,R=>Int→Int→PT r R
 | .con _::r,R=>PT r R
abbrev PO:List ShO→Type→Type
 | [],R=>R
 | .keep _::r,R=>PO r R
 | .row _ t::r,R=>List (T t)→PO r R
 | .drow _ t::r,R=>List (List (T t))→PO r R
 | .cells _ _ shs::r,R=>PT shs (PO r R)
def qV {A B:Type}:(ns:List String)→(ws:List Sh)→PT ws A→PT ws B→(A→B→List TV→Prop)→Prop
 | _,[],p,m,f=>f p m []
 | ns,.val t::r,p,m,f=> ∀x:Nm (hdN ns) (T t),qV (tlN ns) r (p x) (m x) fun p m xs=>f p m (tvA t x::xs)
 | ns,.sub l::r,p,m,f=> ∀(off:Nm (hdN ns) Int) (len:Nm (hdN ns) Int),qV (tlN ns) r (p off len) (m off len) fun p m xs=>f p m (.sl l off len::xs)
 | ns,.con x::r,p,m,f=>qV (tlN ns) r p m fun p m xs=>f p m (x::xs)
def repN:Nat→String→List String
 | 0,_=>[]
 | n+1,s=>s::repN n s
def qO {A B:Type}:(os:List ShO)→PO os A→PO os B→(A→B→List TOb→Prop)→Prop
 | [],p,m,f=>f p m []
 | .keep o::r,p,m,f=>qO r p m fun p m S=>f p m (o::S)
 | .row nm t::r,p,m,f=> ∀l:Nm nm (List (T t)),qO r (p l) (m l) fun p m S=>f p m (.row t l::S)
 | .drow nm t::r,p,m,f=> ∀l:Nm nm (List (List (T t))),qO r (p l) (m l) fun p m S=>f p m (.drow t l::S)
 | .cells nm k shs::r,p,m,f=>qV (repN shs.length nm) shs p m fun p m cs=>qO r p m fun p m S=>f p m (.cells k cs::S)
noncomputable def decAV:(t:Ty)→TV→Option (T t)
 | .int k,x=>decAI k x
 | .str,x=>decAS x
 | .bool,x=>asB x
 | .st fs,x=>decAg fs x
 | .sl e,x=>(match x with | .ros e' l=>(match tyEq e' e with | some ⟨h⟩=>some (h▸l:List (T e)) | none=>none) | _=>none)
mutual
def eqS:TV→TV→Option (List Prop)
 | .int k a,.int k' b=>(match kEq k k' with | some _=>some [a=b] | none=>none)
 | .byte a,.byte b=>some [a=b]
 | .str a,.str b=>some [a=b]
 | .bb a,.bb b=>some [a=b]
 | .ros t l,.ros t' l'=>(match tyEq t t' with | some ⟨h⟩=>some [(h▸l:List (T t'))=l'] | none=>none)
 | .sl l a b,.sl l' a' b'=>(match Nat.beq l l' with | true=>some [a=a',b=b'] | false=>none)
 | .fn f xs,.fn g ys=>(match Nat.beq f g with | true=>eqSs xs ys | false=>none)
 | .rop xs,.rop ys=>eqSs xs ys
 | .agg xs,.agg ys=>eqSs xs ys
 | x,y=>(match sameV x y with | true=>some [] | false=>none)
def eqSs:List TV→List TV→Option (List Prop)
 | [],[]=>some []
 | x::xs,y::ys=>(match eqS x y,eqSs xs ys with | some p,some q=>some (p++q) | _,_=>none)
 | _,_=>none
end
noncomputable def aV {A B:Type} (TS:List TOb):(ws:List Sh)→PT ws A→PT ws B→List TV→(A→B→Prop)→Prop
 | [],p,m,[],f=>f p m
 | .val t::r,p,m,x::xs,f=>(match decAV t x with | some a=>aV TS r (p a) (m a) xs f | none=>False)
 | .sub l::r,p,m,.sl l' off len::xs,f=>(match Nat.beq l l' with | true=>aV TS r (p off len) (m off len) xs f | false=>False)
 | .sub l::r,p,m,.slf l'::xs,f=>(match Nat.beq l l',objAt TS l with | true,some (.row _ ls)=>aV TS r (p 0 (ls.length:Int)) (m 0 (ls.length:Int)) xs f | _,_=>False)
 | .con x0::r,p,m,x::xs,f=>(match sameV x0 x with | true=>aV TS r p m xs f | false=>(match eqS x0 x with | some ps=>conj ps (aV TS r p m xs f) | none=>False))
 | _,_,_,_,_=>False
def eqO:TOb→TOb→Option (List Prop)
 | .dead,.dead=>some []
 | .row t l,.row t' l'=>(match tyEq t t' with | some ⟨h⟩=>some [(h▸l:List (T t'))=l'] | none=>none)
 | .drow t l,.drow t' l'=>(match tyEq t t' with | some ⟨h⟩=>some [(h▸l:List (List (T t')))=l'] | none=>none)
 | .cells k cs,.cells k' cs'=>(match Nat.beq k k' with | true=>eqSs cs cs' | false=>none)
 | _,_=>none
noncomputable def aO {A B:Type} (TS:List TOb):(os:List ShO)→PO os A→PO os B→List TOb→(A→B→Prop)→Prop
 | [],p,m,_,f=>f p m
 | .keep o::r,p,m,o'::S,f=>(match eqO o o' with | some ps=>conj ps (aO TS r p m S f) | none=>False)
 | .row _ t::r,p,m,.row t' l::S,f=>(match tyEq t' t with | some ⟨h⟩=>aO TS r (p (h▸l)) (m (h▸l)) S f | none=>False)
 | .drow _ t::r,p,m,.drow t' l::S,f=>(match tyEq t' t with | some ⟨h⟩=>aO TS r (p (h▸l)) (m (h▸l)) S f | none=>False)
 | .cells _ k shs::r,p,m,.cells k' cs::S,f=>(match Nat.beq k k' with | true=>aV TS shs p m cs fun p m=>aO TS r p m S f | false=>False)
 | _,_,_,_,_=>False
def swN (a b l:Nat):Nat:=match Nat.beq l a with | true=>b | false=>(match Nat.beq l b with | true=>a | false=>l)
mutual
def swV (a b:Nat):TV→TV
 | .slf l=>.slf (swN a b l)
 | .sl l o n=>.sl (swN a b l) o n
 | .ptr l o=>.ptr (swN a b l) o
 | .eptr l i o=>.eptr (swN a b l) i o
 | .inn l i=>.inn (swN a b l) i
 | .ifs t l=>.ifs t (swN a b l)
 | .ieptr l i j k o=>.ieptr (swN a b l) i j k o
 | .agg cs=>.agg (swL a b cs)
 | .tup cs=>.tup (swL a b cs)
 | .rop cs=>.rop (swL a b cs)
 | .fn f cs=>.fn f (swL a b cs)
 | x=>x
def swL (a b:Nat):List TV→List TV
 | []=>[]
 | x::xs=>swV a b x::swL a b xs
end
def swF (a b:Nat):RF→RF
 | []=>[]
 | (s,gs,p,x)::F=>(s,gs,p,swV a b x)::swF a b F
def swG (a b:Nat):List RF→List RF
 | []=>[]
 | F::G=>swF a b F::swG a b G
def swOb (a b:Nat):TOb→TOb
 | .cells k cs=>.cells k (swL a b cs)
 | o=>o
def swM (a b:Nat):List TOb→List TOb
 | []=>[]
 | o::S=>swOb a b o::swM a b S
def swO (a b:Nat) (S:List TOb):List TOb:=
 match objAt S a,objAt S b with
 | some x,some y=>setOb (setOb (swM a b S) a (swOb a b y)) b (swOb a b x)
 | _,_=>swM a b S
def slot1 (F:RF) (TS:List TOb) (p:Nat×Nat):Nat:=
 match Nat.ble 1000000 p.1 with
 | true=>(match lookT F (Nat.sub p.1 1000000) with
  | .ptr l 0=>(match objAt TS l with | some (.cells _ (.slf m::_))=>m | _=>p.2)
  | _=>p.2)
 | false=>(match lookT F p.1 with | .slf l=>l | .ptr l 0=>l | _=>p.2)
def swaps:List (Nat×Nat)→TK→TK
 | [],K,F,G,TS=>K F G TS
 | p::ps,K,F,G,TS=>(match Nat.beq (slot1 F TS p) p.2 with
  | true=>swaps ps K F G TS
  | false=>(match objAt TS (slot1 F TS p),objAt TS p.2 with
   | some _,some _=>swaps ps K (swF (slot1 F TS p) p.2 F) (swG (slot1 F TS p) p.2 G) (swO (slot1 F TS p) p.2 TS)
   | _,_=>False))
mutual
def flatC:Ty→List Ty
 | .st fs=>flatCs fs
 | t=>[t]
def flatCs:Tys→List Ty
 | .nil=>[]
 | .cons t ts=>flatC t++flatCs ts
end
def promC:Nat→List Ty→List TV→List TV×List TOb
 | n,t::ts,c::cs=>(match t,c with
  | .sl e,.nils=>(.slf n::(promC (n+1) ts cs).1,.row e []::(promC (n+1) ts cs).2)
  | _,c=>(c::(promC n ts cs).1,(promC n ts cs).2))
 | _,_,cs=>(cs,[])
def promS (ty:List (Nat×Ty)) (F:RF):List Nat→List TOb→List TOb
 | [],TS=>TS
 | s::ss,TS=>(match lookT F s,lookN ty s with
  | .ptr l 0,some t=>(match objAt TS l with
   | some (.cells k cs)=>promS ty F ss (setOb (pushL TS (promC (lenT TS) (flatC t) cs).2) l (.cells k (promC (lenT TS) (flatC t) cs).1))
   | _=>promS ty F ss TS)
  | _,_=>promS ty F ss TS)
noncomputable def tLoopP (ty:List (Nat×Ty)) (mods:List Nat) (L:List TOb→Prop) (F:RF) (TS:List TOb):Prop:=L (promS ty F mods TS)
noncomputable def tLoop (body:(SExit→TK)→TK) (hi:Hi) (an:An) (keep W:List Nat) (Q:SExit→TK) (F:RF) (G:List RF) (TS:List TOb) (ws:List Sh) (os:List ShO):Prop:=
 ∃(I:PT ws (PO os Prop)) (m:PT ws (PO os Nat)),
  (aV TS ws I m (getsT F W) fun I m=>aO TS os I m TS fun I _=>I)∧
  (qV (nmW hi W) ws I m fun I1 m1 xs=>qO os I1 m1 fun I2 m2 TS1=>I2→
   body (onN (swaps (swS F TS an.swaps) fun F' G' TS'=>(match G' with
    | F0::G'=>(match sameF (onlyT F keep) F0,sameG G G' with
     | true,true=>aV TS' ws I m (getsT F' W) fun I' m'=>aO TS' os I' m' TS' fun I' m'=>I'∧m'<m2
     | _,_=>False)
    | []=>False)) (popQ Q)) (zipT W xs (onlyT F keep)) (onlyT F keep::G) TS1)
noncomputable def tvc (hi:Hi):SCode→An→(SExit→TK)→TK
 | .skip,_,Q,F,G,TS=>Q .normal F G TS
 | .ops l d keep,_,Q,F,G,TS=>(match keptN d with
  | 0=>tOps Γ call hi (fun F' G' TS'=>Q .normal (onlyT F' keep) G' TS') (match d with | some m=>m.1 | none=>0) l F G TS
  | r+1=>(match d with
   | some m=>(match Nat.beq (l.take m.1).length m.1,evOps Γ hi TS (l.take m.1) F with
    | true,some (ps,F')=>conj ps (tRes Γ hi (tOps Γ call hi (fun F' G' TS'=>Q .normal (onlyT F' keep) G' TS') 0) (r+1) (l.drop m.1) F' G TS)
    | _,_=>False)
   | none=>False))
 | .seq a b,an,Q,F,G,TS=>tvc hi a an.l (onN (fun F' G' TS'=>tvc hi b an.r Q F' G' TS') Q) F G TS
 | .join keep W _ a b,an,Q,F,G,TS=>(match evC Γ hi TS a F with
  | some (ps,F')=>conj ps (tvc hi b an.r Q (zipT W (getsT F' W) (onlyT F keep)) G TS)
  | none=>tvc hi a an.l (onN (fun F' G' TS'=>(match G' with | F0::G'=>tvc hi b an.r Q (zipT W (getsT F' W) (onlyT F0 keep)) G' TS' | []=>False)) (popQ Q)) F (onlyT F keep::G) TS)
 | .cond x a b,an,Q,F,G,TS=>(match rdP F [] x with
  | some .tt=>tvc hi a an.l Q F G TS
  | some .ff=>tvc hi b an.r Q F G TS
  | some y=>(match asP y with
   | some p=>(p→tvc hi a an.l Q (refT F x .tt) G TS)∧(¬p→tvc hi b an.r Q (refT F x .ff) G TS)
   | none=>False)
  | none=>False)
 | .block id a,an,Q,F,G,TS=>tvc hi a an (onB id Q) F G TS
 | .loop keep W _ a,an,Q,F,G,TS=>
  tLoopP hi.ty an.mods (fun TS=>tLoop (fun Q F G TS=>tvc hi a an.body Q F G TS) hi an keep W Q F G TS (shVs (fsts (idsS hi.nm F TS an.subs)) (getsT F W)) (shOs (idsS hi.nm F TS an.mods) (fsts (idsS hi.nm F TS an.subs)) 0 TS)) F TS
 | .exit id,_,Q,F,G,TS=>Q (.exit id) F G TS
 | .ret,_,Q,F,G,TS=>Q .ret F G TS
def resV (F:RF) (TS:List TOb):List RRes→Option (List TV)
 | []=>some []
 | .tmp t::rs=>(match resV F TS rs with | some xs=>some (lookT F t::xs) | none=>none)
 | .cell t n ag::rs=>(match lookT F t with
  | .ptr l off=>(match objAt TS l with
   | some (.cells _ cs)=>(match takeG n (cs.drop off) with
    | some xs=>(match mkVT ag xs,resV F TS rs with | some y,some ys=>some (y::ys) | _,_=>none)
    | none=>none)
   | _=>none)
  | _=>none)
def argT:Nat→List TV→RF
 | _,[]=>[]
 | i,x::xs=>(i,[],True,x)::argT (i+1) xs
noncomputable def tFunL (hi:Hi) (c:SCode) (an:An) (res:List RRes) (args:List TV) (G:List RF) (TS:List TOb) (K:List TV→List RF→List TOb→Prop):Prop:=
 tvc Γ call hi c an (fun e F G TS=>match e with
  | .exit _=>False
  | _=>(match resV F TS res with | some xs=>K xs G TS | none=>False)) (argT 0 args) G TS
noncomputable def tFun (hi:Hi) (c:SCode) (an:An) (res:List RRes) (args:List TV) (G:List RF) (TS:List TOb) (K:TV→List RF→List TOb→Prop):Prop:=
 tFunL Γ call hi c an res args G TS fun xs=>K (retT xs)
end
noncomputable def callN (Γ:List (Nat×Ct)) (L:List (Nat×Fi)):Nat→Nat→List TV→List RF→List TOb→(TV→List RF→List TOb→Prop)→Prop
 | 0,_,_,_,_,_=>False
 | n+1,f,xs,G,TS,K=>(match lookN L f with
  | some fi=>(match fi.sp with
   | some s=>(match s.ev xs G TS with | some (ps,y,G',TS')=>conj ps (K y G' TS') | none=>False)
   | none=>(match Nat.ble xs.length fi.n with
    | true=>tFun Γ (callN Γ L n) fi.hi fi.code fi.an fi.res xs G TS K
    | false=>False))
  | none=>False)
def decO (TS:List TOb) (t:Ty):TV→Option (List (T t))
 | .nils=>some []
 | .slf l=>(match objAt TS l with
  | some (.row e ls)=>(match tyEq e t with | some ⟨h⟩=>some (h▸ls) | none=>none)
  | _=>none)
 | _=>none
def subO (TS:List TOb) (t:Ty):TV→Option (List Prop×List (T t))
 | .sl l off len=>(match objAt TS l with
  | some (.row e ls)=>(match tyEq e t with | some ⟨h⟩=>some ([off=0],(h▸ls:List (T t)).take len.toNat) | none=>none)
  | _=>none)
 | x=>(match decO TS t x with | some a=>some ([],a) | none=>none)
noncomputable def resO (TS:List TOb):(r:RTy)→TV→Option (List Prop×RT r)
 | .val t,x=>(match decA [] t x with | some a=>some ([],a) | none=>none)
 | .own t,x=>subO TS t x
noncomputable def resK (TS:List TOb):(rs:List RTy)→List TV→(RTs rs→Prop)→Prop
 | [],xs,K=>(match xs with | []=>K () | _::_=>False)
 | [r],xs,K=>(match xs with
  | [x]=>(match resO TS r x with | some (ps,a)=>conj ps (K a) | none=>False)
  | _=>False)
 | r::s::rs,xs,K=>(match xs with
  | x::xs=>(match resO TS r x with | some (ps,a)=>conj ps (resK TS (s::rs) xs fun r=>K (a,r)) | none=>False)
  | []=>False)
def ownN:List RTy→List TV→List Nat
 | .own _::rs,.slf l::xs=>l::ownN rs xs
 | .own _::rs,.sl l _ _::xs=>l::ownN rs xs
 | _::rs,_::xs=>ownN rs xs
 | _,_=>[]
def distinct:List Nat→Bool
 | []=>true
 | a::l=>match hasN l a with | true=>false | false=>distinct l
def tvAs:(ts:Tys)→Ts ts→List TV
 | .nil,_=>[]
 | .cons t .nil,x=>[tvA t x]
 | .cons t (.cons u ts),x=>tvA t x.1::tvAs (.cons u ts) x.2
def eqR:(rs:List RTy)→RTs rs→RTs rs→Prop
 | [],_,_=>True
 | [_],x,y=>x=y
 | _::s::rs,x,y=>x.1=y.1∧eqR (s::rs) x.2 y.2
noncomputable def tCon (Γ:List (Nat×Ct)) (L:List (Nat×Fi)) (depth:Nat) (fi:Fi) (ct:Ct) (x:Ts ct.args):Prop:=
 tFunL Γ (callN Γ L depth) fi.hi fi.code fi.an fi.res (tvAs ct.args x) [] [] fun xs _ TS=>
  match distinct (ownN ct.res xs) with
  | true=>resK TS ct.res xs fun y=>eqR ct.res y (ct.fn x)
  | false=>False
structure Cu where
 rt:Ty
 args:Tys
 res:List RTy
 pre:T rt→Ts args→Prop
 fn:T rt→Ts args→T rt×RTs res
structure Cm where
 args:Tys
 ref:List Bool
 res:List RTy
 pre:Ts args→Prop
 fn:Ts args→RTs res×Ts args
def hdB:List Bool→Bool | b::_=>b | []=>false
def tlB:List Bool→List Bool | _::l=>l | []=>[]
def ref1T (t:Ty) (r:Bool) (a:T t):List (List TV):=match r with | true=>[cellsT t a] | false=>[]
def refsT:(ts:Tys)→List Bool→Ts ts→List (List TV)
 | .nil,_,_=>[]
 | .cons t .nil,rs,a=>ref1T t (hdB rs) a
 | .cons t (.cons u ts),rs,(a,b)=>ref1T t (hdB rs) a++refsT (.cons u ts) (tlB rs) b
def nx (r:Bool) (k:Nat):Nat:=match r with | true=>k+1 | false=>k
def ptrL:List (List TV)→Nat→List TV
 | [],_=>[]
 | _::L,k=>.ptr k 0::ptrL L (k+1)
noncomputable def end1 (TS:List TOb) (t:Ty) (r:Bool) (a:T t) (k:Nat) (q:Prop):Prop:=
 match r with
 | true=>(match objAt TS k with
  | some (.cells 0 cs)=>(match decC t cs with | some (a',[])=>a'=a∧q | _=>False)
  | _=>False)
 | false=>q
noncomputable def endM (TS:List TOb):(ts:Tys)→List Bool→Ts ts→Nat→Prop→Prop
 | .nil,_,_,_,q=>q
 | .cons t .nil,rs,a,k,q=>end1 TS t (hdB rs) a k q
 | .cons t (.cons u ts),rs,(a,b),k,q=>end1 TS t (hdB rs) a k (endM TS (.cons u ts) (tlB rs) b (nx (hdB rs) k) q)
end Go.Vc
end
section
namespace Go.Vc
structure Hd where
 loc:Option (Nat×Nat)
 k:Nat
 len:Nat
 sub:List (Option (Nat×Nat)×Nat)
abbrev HF:=Nat→Option Hd
def slA:Option (Nat×Nat)→Nat→Nat→AVal
 | none,_,_=>.nils
 | some (p,v),off,n=>.sl p v off n
mutual
def SimV (H:HF):TV→AVal→Prop
 | .junk,_=>True
 | .tt,y=>y= .bool true
 | .ff,y=>y= .bool false
 | .bb b,y=>y= .bool b
 | .pr p,y=> ∃b,y= .bool b∧(b=true↔p)
 | .gd p,y=>(y= .tt∧p)∨(y= .ff∧ ¬p)
 | .int k n,y=>y= .int k n
 | .byte b,y=>y= .int .u8 (b.toNat:Int)
 | .str s,y=>y= .str s
 | .nilp,y=>y= .nilp
 | .nilf,y=>y= .nilf
 | .nilm,y=>y= .nilm
 | .nili,y=>y= .nili
 | .nils,y=>y= .nils
 | .cst v,y=>y= .cst v
 | .ptr l off,y=> ∃h p v,H l=some h∧h.loc=some (p,v)∧y= .ptr p v off
 | .eptr l i fo,y=> ∃h p v,H l=some h∧h.loc=some (p,v)∧0≤i∧i<h.len∧y= .ptr p v (i.toNat*h.k+fo)
 | .rop cs,y=> ∃xs,y= .rop xs∧SimL H cs xs
 | .ros t l,y=>y= .ros l.length (l.flatMap (encT t))
 | .slf l,y=> ∃h,H l=some h∧y=slA h.loc 0 h.len
 | .ifs t l,y=> ∃h,H l=some h∧y= .iface t (slA h.loc 0 h.len)
 | .sl l off len,y=> ∃h,H l=some h∧0≤off∧0≤len∧off+len≤h.len∧y=slA h.loc (off.toNat*h.k) len.toNat
 | .agg cs,y=> ∃xs,y= .agg xs∧SimL H cs xs
 | .tup cs,y=> ∃xs,y= .tup xs∧SimL H cs xs
 | .fn f cap,y=> ∃xs,y= .fn (.func f) [] xs∧SimL H cap xs
 | .inn l i,y=> ∃h q,H l=some h∧0≤i∧h.sub[i.toNat]?=some q∧y=slA q.1 0 q.2
 | .ieptr l i j k fo,y=> ∃h p v n,H l=some h∧0≤i∧h.sub[i.toNat]?=some (some (p,v),n)∧0≤j∧j<(n:Int)∧y= .ptr p v (j.toNat*k+fo)
def SimL (H:HF):List TV→List AVal→Prop
 | [],ys=>ys=[]
 | x::xs,ys=> ∃y zs,ys=y::zs∧SimV H x y∧SimL H xs zs
end
section
variable {H : HF}
theorem SimL.nil {ys:List AVal}:SimL H [] ys↔ys=[]:=by simp only [SimL]
theorem SimL.length: ∀ {xs:List TV} {ys:List AVal},SimL H xs ys→ys.length=xs.length
 | [],_,h=>by simp only [SimL] at h;simp [h]
 | x::xs,_,h=>by
  simp only [SimL] at h
  obtain ⟨y,zs,rfl,_,h⟩:=h
  simp [SimL.length h]
theorem SimL.append: ∀ {xs:List TV} {ys:List AVal} {xs':List TV} {ys':List AVal},SimL H xs ys→SimL H xs' ys'→SimL H (xs++xs') (ys++ys')
 | [],_,_,_,h,h'=>by simp only [SimL] at h;subst h;simpa using h'
 | x::xs,_,_,_,h,h'=>by
  simp only [SimL] at h
  obtain ⟨y,zs,rfl,h1,h2⟩:=h
  simp only [List.cons_append,SimL]
  exact ⟨_,_,rfl,h1,h2.append h'⟩
theorem SimL.drop: ∀ {xs:List TV} {ys:List AVal} (n:Nat),SimL H xs ys→SimL H (xs.drop n) (ys.drop n)
 | xs,ys,0,h=>by simpa using h
 | [],_,n+1,h=>by simp only [SimL] at h;subst h;simp [SimL]
 | x::xs,_,n+1,h=>by
  simp only [SimL] at h
  obtain ⟨y,zs,rfl,_,h⟩:=h
  simpa using h.drop n
theorem SimL.takeG: ∀ {n:Nat} {xs xs':List TV} {ys:List AVal},SimL H xs ys→takeG n xs=some xs'→ ∃ys',takeN n ys=some ys'∧SimL H xs' ys'
 | 0,_,_,_,_,h=>by simp [Vc.takeG] at h;subst h;exact ⟨[],rfl,by simp [SimL]⟩
 | n+1,[],_,_,_,h=>by simp [Vc.takeG] at h
 | n+1,x::xs,_,_,hs,h=>by
  simp only [SimL] at hs
  obtain ⟨y,zs,rfl,h1,h2⟩:=hs
  simp only [Vc.takeG] at h
  split at h<;>cases h
  rename_i r hr
  obtain ⟨ys',g1,g2⟩:=h2.takeG hr
  exact ⟨y::ys',by simp [takeN,g1],by simp only [SimL];exact ⟨_,_,rfl,h1,g2⟩⟩
theorem SimL.overG: ∀ {xs zs:List TV} {ys ws:List AVal},SimL H xs ys→SimL H zs ws→SimL H (overG xs zs) (over ys ws)
 | [],zs,_,_,h,_=>by simp only [SimL] at h;subst h;cases zs<;>simp [Vc.overG,over,SimL]
 | x::xs,[],_,_,h,h'=>by
  simp only [SimL] at h';subst h'
  have h0:=h
  simp only [SimL] at h
  obtain ⟨y,zs,rfl,_,_⟩:=h
  simpa [Vc.overG,over] using h0
 | x::xs,z::zs,_,_,h,h'=>by
  simp only [SimL] at h h'
  obtain ⟨y,ys,rfl,h1,h2⟩:=h
  obtain ⟨w,ws,rfl,g1,g2⟩:=h'
  simp only [Vc.overG,over,SimL]
  exact ⟨_,_,rfl,g1,h2.overG g2⟩
theorem SimL.setG: ∀ {n:Nat} {xs zs:List TV} {ys ws:List AVal},SimL H xs ys→SimL H zs ws→SimL H (setG xs n zs) (setCells ys n ws)
 | 0,xs,zs,ys,ws,h,h'=>by
  have e1:Vc.setG xs 0 zs=Vc.overG xs zs:=by cases xs<;>rfl
  have e2:setCells ys 0 ws=over ys ws:=by cases ys<;>rfl
  rw [e1,e2];exact h.overG h'
 | n+1,[],zs,_,ws,h,_=>by simp only [SimL] at h;subst h;simp [Vc.setG,setCells,SimL]
 | n+1,x::xs,zs,_,ws,h,h'=>by
  simp only [SimL] at h
  obtain ⟨y,ys,rfl,h1,h2⟩:=h
  simp only [Vc.setG,setCells,SimL]
  exact ⟨_,_,rfl,h1,h2.setG h'⟩
theorem sizeIs_len {α:Type}: ∀ {l:List α} {n:Nat},sizeIs l n=true→l.length=n
 | [],0,_=>rfl
 | [],n+1,h=>by simp [sizeIs] at h
 | _::_,0,h=>by simp [sizeIs] at h
 | _::l,n+1,h=>by simp only [sizeIs] at h;simp [sizeIs_len h]
theorem sizeLe_len: ∀ {n:Nat} {l:List TV},sizeLe n l=true→n≤l.length
 | 0,_,_=>Nat.zero_le _
 | n+1,[],h=>by simp [sizeLe] at h
 | n+1,_::l,h=>by simp only [sizeLe] at h;have:=sizeLe_len h;simp;omega
theorem setG_length {α:Type}: ∀ {xs ys:List α} {n:Nat},(Vc.setG xs n ys).length=xs.length
 | xs,ys,0=>by
  have e1:Vc.setG xs 0 ys=Vc.overG xs ys:=by cases xs<;>rfl
  rw [e1]
  clear e1
  induction xs generalizing ys with
  | nil=>cases ys<;>rfl
  | cons x xs ih=>cases ys with
   | nil=>rfl
   | cons y ys=>simp only [Vc.overG,List.length_cons,ih]
 | [],ys,n+1=>by simp [Vc.setG]
 | x::xs,ys,n+1=>by simp [Vc.setG,setG_length]
theorem beq_eq {a b:Nat} (h:Nat.beq a b=true):a=b:=Nat.eq_of_beq_eq_true h
theorem tvCells_sim {x:TV} {cs:List TV} {y:AVal} (h:tvCells x=some cs) (hs:SimV H x y) {K:List AVal→Prop} (hk: ∀ys,SimL H cs ys→K ys):wCells y K:=by
 cases x<;>simp only [tvCells] at h<;>cases h<;>simp only [SimV] at hs
 case agg.refl=>
  obtain ⟨xs,rfl,hs⟩:=hs
  exact hk _ hs
 case slf.refl=>
  obtain ⟨h,h1,rfl⟩:=hs
  have:=hk [slA h.loc 0 h.len] (by simp only [SimL,SimV];exact ⟨_,[],rfl,⟨h,h1,rfl⟩,rfl⟩)
  revert this
  cases h.loc<;>exact id
 case sl.refl=>
  rename_i l off len
  obtain ⟨h,h1,h2,h3,h4,rfl⟩:=hs
  have:=hk [slA h.loc (off.toNat*h.k) len.toNat] (by simp only [SimL,SimV];exact ⟨_,[],rfl,⟨h,h1,h2,h3,h4,rfl⟩,rfl⟩)
  revert this
  cases h.loc<;>exact id
 case pr.refl=>
  obtain ⟨b,rfl,hb⟩:=hs
  exact hk _ (by simp only [SimL,SimV];exact ⟨_,[],rfl,⟨b,rfl,hb⟩,rfl⟩)
 case ptr.refl=>
  obtain ⟨h,p,v,h1,h2,rfl⟩:=hs
  exact hk _ (by simp only [SimL,SimV];exact ⟨_,[],rfl,⟨h,p,v,h1,h2,rfl⟩,rfl⟩)
 case eptr.refl=>
  obtain ⟨h,p,v,h1,h2,h3,h4,rfl⟩:=hs
  exact hk _ (by simp only [SimL,SimV];exact ⟨_,[],rfl,⟨h,p,v,h1,h2,h3,h4,rfl⟩,rfl⟩)
 case rop.refl=>
  obtain ⟨xs,rfl,h⟩:=hs
  exact hk _ (by simp only [SimL,SimV];exact ⟨_,[],rfl,⟨xs,rfl,h⟩,rfl⟩)
 case fn.refl=>
  obtain ⟨xs,rfl,h⟩:=hs
  exact hk _ (by simp only [SimL,SimV];exact ⟨_,[],rfl,⟨xs,rfl,h⟩,rfl⟩)
 all_goals
  subst hs
  exact hk _ (by simp only [SimL,SimV];exact ⟨_,[],rfl,rfl,rfl⟩)
end
theorem ofS_sim {H:HF} {x:AVal} {t:TV} (h:ofS x=some t):SimV H t x:=by
 unfold ofS at h
 split at h<;>cases h<;>simp [SimV,SimL]
theorem ofL_sim {H:HF}: ∀ {xs:List AVal} {ts:List TV},ofL xs=some ts→SimL H ts xs
 | [],_,h=>by simp [ofL] at h;subst h;simp [SimL]
 | x::xs,_,h=>by
  simp only [ofL] at h
  split at h<;>cases h
  rename_i y ys h1 h2
  simp only [SimL]
  exact ⟨_,_,rfl,ofS_sim h1,ofL_sim h2⟩
theorem ofA_sim {H:HF} {x:AVal} {t:TV} (h:ofA x=some t):SimV H t x:=by
 unfold ofA at h
 split at h
 ·split at h<;>cases h
  rename_i h1
  simp only [SimV]
  exact ⟨_,rfl,ofL_sim h1⟩
 ·exact ofS_sim h
def holds (A:Frame) (gs:List (Nat×Bool)):Prop:= ∀q∈gs,A.get q.1=if q.2 then .tt else .ff
structure EntOk (H:HF) (A:Frame) (s:Nat) (gs:List (Nat×Bool)) (P:Prop) (x:TV):Prop where
 on:holds A gs→SimV H x (A.get s)
 off: ¬holds A gs→A.get s= .tup []
 iff:holds A gs↔P
def SimF (H:HF) (F:RF) (A:Frame):Prop:= ∀s gs P x,lookN F s=some (gs,P,x)→EntOk H A s gs P x
theorem eqPath_eq: ∀ {p q:List (Nat×Bool)},eqPath p q=true→p=q
 | [],[],_=>rfl
 | [],_::_,h=>by simp [eqPath] at h
 | (a,x)::p,[],h=>by cases x<;>simp [eqPath] at h
 | (a,x)::p,(b,y)::q,h=>by
  cases x<;>cases y<;>simp only [eqPath] at h<;>first | (cases h;done) | skip
  all_goals
   split at h<;>first | (cases h;done) | skip
   rename_i hb
   rw [beq_eq hb,eqPath_eq h]
theorem sufx_holds {A:Frame} {gs:List (Nat×Bool)}: ∀ {p:List (Nat×Bool)},sufx gs p=true→holds A p→holds A gs
 | [],h,_=>by
  cases gs with
  | nil=>intro q hq;cases hq
  | cons=>simp [sufx] at h
 | q::p,h,hp=>by
  simp only [sufx] at h
  split at h
  ·rename_i he
   rw [eqPath_eq he];exact hp
  ·exact sufx_holds h fun r hr=>hp r (by simp [hr])
theorem holds_nil {A:Frame}:holds A []:=fun q hq=>by cases hq
section
variable {H : HF} {F : RF} {A : Frame} {path : List (Nat × Bool)}
theorem rdP_sim (hF:SimF H F A) (hp:holds A path) {r:Rand} {x:TV} (h:rdP F path r=some x):SimV H x (rd A r):=by
 cases r with
 | c x=>exact ofA_sim h
 | t n=>
  simp only [rdP] at h
  split at h
  ·rename_i gs P y hl
   split at h<;>cases h
   rename_i hs
   exact (hF _ _ _ _ hl).on (sufx_holds hs hp)
  ·cases h
theorem rdPs_sim (hF:SimF H F A) (hp:holds A path): ∀ {rs:List Rand} {xs:List TV},rdPs F path rs=some xs→SimL H xs (rs.map (rd A))
 | [],_,h=>by simp [rdPs] at h;subst h;simp [SimL]
 | r::rs,_,h=>by
  simp only [rdPs] at h
  split at h<;>cases h
  rename_i h1 h2
  simp only [List.map_cons,SimL]
  exact ⟨_,_,rfl,rdP_sim hF hp h1,rdPs_sim hF hp h2⟩
theorem fillT_sim (hF:SimF H F A) (hp:holds A path) {K:List AVal→Prop}: ∀ {ps:List (Nat×Nat×Rand)} {cs zs:List TV} {ys:List AVal},fillT F path cs ps=some zs→SimL H cs ys→(∀ws,SimL H zs ws→K ws)→wFill A ys K ps
 | [],cs,zs,ys,h,hs,hk=>by simp [fillT] at h;subst h;exact hk _ hs
 | (off,n,x)::ps,cs,zs,ys,h,hs,hk=>by
  simp only [fillT] at h
  split at h
  ·rename_i x' hx
   split at h
   ·rename_i us hu
    split at h
    ·rename_i h1 h2
     simp only [wFill,rdK_iff]
     refine tvCells_sim hu (rdP_sim hF hp hx) fun ws hw=>?_
     have e1:=hw.length
     have e2:=hs.length
     have e3:=sizeIs_len h1
     have e4:=sizeLe_len h2
     refine ⟨by omega,by omega,?_⟩
     rw [setCellsK_iff]
     exact fillT_sim hF hp h (hs.setG hw) hk
    ·cases h
   ·cases h
  ·cases h
end
mutual
theorem cellsT_sim {H:HF}: ∀(t:Ty) (x:T t),SimL H (cellsT t x) (encT t x)
 | .int k,n=>by simp [cellsT,encT,SimL,SimV]
 | .str,s=>by simp [cellsT,encT,SimL,SimV]
 | .bool,b=>by simp [cellsT,encT,SimL,SimV]
 | .st fs,x=>by simp only [cellsT,encT];exact cellsTs_sim fs x
 | .sl e,l=>by simp only [cellsT,encT,SimL,SimV];exact ⟨_,[],rfl,rfl,rfl⟩
theorem cellsTs_sim {H:HF}: ∀(ts:Tys) (x:Ts ts),SimL H (cellsTs ts x) (encTs ts x)
 | .nil,_=>by simp [cellsTs,encTs,SimL]
 | .cons t .nil,x=>by simp only [cellsTs,encTs];exact cellsT_sim t x
 | .cons t (.cons u ts),(x,y)=>by simp only [cellsTs,encTs];exact (cellsT_sim t x).append (cellsTs_sim (.cons u ts) y)
end
theorem tvA_sim {H:HF}: ∀(t:Ty) (x:T t),SimV H (tvA t x) (encA t x)
 | .int k,n=>by simp [tvA,encA,SimV]
 | .str,s=>by simp [tvA,encA,SimV]
 | .bool,b=>by simp [tvA,encA,SimV]
 | .st fs,x=>by simp only [tvA,encA,SimV];exact ⟨_,rfl,cellsTs_sim fs x⟩
 | .sl e,l=>by simp only [tvA,encA,SimV]
theorem tvAs_sim {H:HF}: ∀(ts:Tys) (x:Ts ts),SimL H (tvAs ts x) (encAs ts x)
 | .nil,_=>by simp [tvAs,encAs,SimL]
 | .cons t .nil,x=>by simp only [tvAs,encAs,SimL];exact ⟨_,[],rfl,tvA_sim t x,rfl⟩
 | .cons t (.cons u ts),(x,y)=>by simp only [tvAs,encAs,SimL];exact ⟨_,_,rfl,tvA_sim t x,tvAs_sim (.cons u ts) y⟩
mutual
theorem encT_length: ∀(t:Ty) (x:T t),(encT t x).length=szT t
 | .int k,n=>rfl
 | .str,s=>rfl
 | .bool,b=>rfl
 | .st fs,x=>by simp only [encT,szT];exact encTs_length fs x
 | .sl e,l=>rfl
theorem encTs_length: ∀(ts:Tys) (x:Ts ts),(encTs ts x).length=szTs ts
 | .nil,_=>rfl
 | .cons t .nil,x=>by simp only [encTs,szTs,encT_length t x];rfl
 | .cons t (.cons u ts),(x,y)=>by simp only [encTs,List.length_append,encT_length t x,encTs_length (.cons u ts) y];rfl
end
theorem cellsT_length (t:Ty) (x:T t):(cellsT t x).length=szT t:=by
 have:=(cellsT_sim (H:=fun _=>none) t x).length
 rw [encT_length] at this
 exact this.symm
theorem asI_sim {H:HF} {x:TV} {y:AVal} {k:IntKind} {n:Int} (h:asI x=some (k,n)) (hs:SimV H x y):y= .int k n:=by
 cases x<;>simp only [asI] at h<;>cases h<;>simpa [SimV] using hs
theorem asB_sim {H:HF} {x:TV} {y:AVal} {b:Bool} (h:asB x=some b) (hs:SimV H x y):y= .bool b:=by
 cases x<;>simp only [asB] at h<;>cases h<;>simp only [SimV] at hs
 case pr.refl=>
  obtain ⟨b,rfl,hb⟩:=hs
  congr 1
  rw [Bool.eq_iff_iff,hb]
  simp [bo]
 all_goals exact hs
theorem kEq_eq {k k':IntKind} {p:PLift (k=k')} (h:kEq k k'=some p):k=k':=p.down
theorem decI_sim {H:HF} {k:IntKind} {cs r:List TV} {x:Int} {ys:List AVal} (h:decI k cs=some (x,r)) (hs:SimL H cs ys): ∃zs,ys= .int k x::zs∧SimL H r zs:=by
 cases cs with
 | nil=>simp [decI] at h
 | cons c cs=>
  simp only [decI] at h
  split at h
  ·rename_i k' n hi
   split at h<;>cases h
   rename_i hk
   have hk:=kEq_eq hk
   subst hk
   simp only [SimL] at hs
   obtain ⟨y,zs,rfl,h1,h2⟩:=hs
   exact ⟨zs,by rw [asI_sim hi h1],h2⟩
  ·cases h
theorem decStr_sim {H:HF} {cs r:List TV} {x:List UInt8} {ys:List AVal} (h:decStr cs=some (x,r)) (hs:SimL H cs ys): ∃zs,ys= .str x::zs∧SimL H r zs:=by
 unfold decStr at h
 split at h<;>cases h
 simp only [SimL,SimV] at hs
 obtain ⟨y,zs,rfl,rfl,h2⟩:=hs
 exact ⟨zs,rfl,h2⟩
theorem decBool_sim {H:HF} {cs r:List TV} {x:Bool} {ys:List AVal} (h:decBool cs=some (x,r)) (hs:SimL H cs ys): ∃zs,ys= .bool x::zs∧SimL H r zs:=by
 cases cs with
 | nil=>simp [decBool] at h
 | cons c cs=>
  simp only [decBool] at h
  split at h<;>cases h
  rename_i hb
  simp only [SimL] at hs
  obtain ⟨y,zs,rfl,h1,h2⟩:=hs
  exact ⟨zs,by rw [asB_sim hb h1],h2⟩
theorem decSl_sim {H:HF} {e:Ty} {cs r:List TV} {x:List (T e)} {ys:List AVal} (h:decSl e cs=some (x,r)) (hs:SimL H cs ys): ∃zs,ys= .ros x.length (x.flatMap (encT e))::zs∧SimL H r zs:=by
 unfold decSl at h
 split at h
 ·split at h<;>cases h
  rename_i hh _
  subst hh
  simp only [SimL,SimV] at hs
  obtain ⟨y,zs,rfl,rfl,h2⟩:=hs
  exact ⟨zs,rfl,h2⟩
 ·cases h
mutual
theorem decC_sim {H:HF}: ∀(t:Ty) {cs r:List TV} {x:T t} {ys:List AVal},decC t cs=some (x,r)→SimL H cs ys→ ∃zs,ys=encT t x++zs∧SimL H r zs
 | .int k,cs,r,x,ys,h,hs=>by simp only [decC] at h;exact decI_sim h hs
 | .str,cs,r,x,ys,h,hs=>by simp only [decC] at h;exact decStr_sim h hs
 | .bool,cs,r,x,ys,h,hs=>by simp only [decC] at h;exact decBool_sim h hs
 | .st fs,cs,r,x,ys,h,hs=>by simp only [decC] at h;exact decCs_sim fs h hs
 | .sl e,cs,r,x,ys,h,hs=>by simp only [decC] at h;exact decSl_sim h hs
theorem decCs_sim {H:HF}: ∀(ts:Tys) {cs r:List TV} {x:Ts ts} {ys:List AVal},decCs ts cs=some (x,r)→SimL H cs ys→ ∃zs,ys=encTs ts x++zs∧SimL H r zs
 | .nil,cs,r,x,ys,h,hs=>by
  simp only [decCs,Option.some.injEq,Prod.mk.injEq] at h
  obtain ⟨_,rfl⟩:=h
  exact ⟨ys,rfl,hs⟩
 | .cons t .nil,cs,r,x,ys,h,hs=>by
  simp only [decCs] at h
  exact decC_sim t h hs
 | .cons t (.cons u ts),cs,r,x,ys,h,hs=>by
  simp only [decCs] at h
  split at h
  ·rename_i a r1 h1
   split at h<;>cases h
   rename_i b h2
   obtain ⟨zs,rfl,g1⟩:=decC_sim t h1 hs
   obtain ⟨ws,rfl,g2⟩:=decCs_sim (.cons u ts) h2 g1
   exact ⟨ws,by simp [encTs],g2⟩
  ·cases h
end
end Go.Vc
end
section
namespace Go.Vc
def HLe (H H':HF):Prop:= ∀l h,H l=some h→H' l=some h
mutual
theorem SimV.ext {H H':HF} (hl:HLe H H'): ∀ {x:TV} {y:AVal},SimV H x y→SimV H' x y
 | .junk,_,_=>by simp [SimV]
 | .tt,_,h=>by simpa [SimV] using h
 | .ff,_,h=>by simpa [SimV] using h
 | .bb _,_,h=>by simpa [SimV] using h
 | .pr _,_,h=>by simpa [SimV] using h
 | .gd _,_,h=>by simpa [SimV] using h
 | .int _ _,_,h=>by simpa [SimV] using h
 | .byte _,_,h=>by simpa [SimV] using h
 | .str _,_,h=>by simpa [SimV] using h
 | .nilp,_,h=>by simpa [SimV] using h
 | .nilf,_,h=>by simpa [SimV] using h
 | .nilm,_,h=>by simpa [SimV] using h
 | .nili,_,h=>by simpa [SimV] using h
 | .cst _,_,h=>by simpa [SimV] using h
 | .nils,_,h=>by simpa [SimV] using h
 | .ros _ _,_,h=>by simpa [SimV] using h
 | .ptr l off,_,h=>by
  simp only [SimV] at*
  obtain ⟨h,p,v,h1,h2⟩:=h
  exact ⟨h,p,v,hl _ _ h1,h2⟩
 | .eptr l i fo,_,h=>by
  simp only [SimV] at*
  obtain ⟨h,p,v,h1,h2⟩:=h
  exact ⟨h,p,v,hl _ _ h1,h2⟩
 | .inn l i,_,h=>by
  simp only [SimV] at*
  obtain ⟨h,q,h1,h2⟩:=h
  exact ⟨h,q,hl _ _ h1,h2⟩
 | .ieptr l i j k fo,_,h=>by
  simp only [SimV] at*
  obtain ⟨h,p,v,n,h1,h2⟩:=h
  exact ⟨h,p,v,n,hl _ _ h1,h2⟩
 | .slf l,_,h=>by
  simp only [SimV] at*
  obtain ⟨h,h1,h2⟩:=h
  exact ⟨h,hl _ _ h1,h2⟩
 | .sl l _ _,_,h=>by
  simp only [SimV] at*
  obtain ⟨h,h1,h2⟩:=h
  exact ⟨h,hl _ _ h1,h2⟩
 | .ifs _ l,_,h=>by
  simp only [SimV] at*
  obtain ⟨h,h1,h2⟩:=h
  exact ⟨h,hl _ _ h1,h2⟩
 | .rop cs,_,h=>by
  simp only [SimV] at*
  obtain ⟨xs,h1,h2⟩:=h
  exact ⟨xs,h1,SimL.ext hl h2⟩
 | .agg cs,_,h=>by
  simp only [SimV] at*
  obtain ⟨xs,h1,h2⟩:=h
  exact ⟨xs,h1,SimL.ext hl h2⟩
 | .tup cs,_,h=>by
  simp only [SimV] at*
  obtain ⟨xs,h1,h2⟩:=h
  exact ⟨xs,h1,SimL.ext hl h2⟩
 | .fn f cs,_,h=>by
  simp only [SimV] at*
  obtain ⟨xs,h1,h2⟩:=h
  exact ⟨xs,h1,SimL.ext hl h2⟩
theorem SimL.ext {H H':HF} (hl:HLe H H'): ∀ {x:List TV} {y:List AVal},SimL H x y→SimL H' x y
 | [],_,h=>by simpa [SimL] using h
 | x::xs,_,h=>by
  simp only [SimL] at*
  obtain ⟨y,zs,h1,h2,h3⟩:=h
  exact ⟨y,zs,h1,SimV.ext hl h2,SimL.ext hl h3⟩
end
theorem SimF.ext {H H':HF} {F:RF} {A:Frame} (h:SimF H F A) (hl:HLe H H'):SimF H' F A:=fun s gs P x hx=>
 let e:=h s gs P x hx
 ⟨fun q=>(e.on q).ext hl,e.off,e.iff⟩
inductive SimG (H:HF):List RF→List Frame→Prop
 | nil:SimG H [] []
 | cons {F:RF} {A:Frame} {G:List RF} {AG:List Frame} (h:SimF H F A) (hs:SimG H G AG):SimG H (F::G) (A::AG)
theorem SimG.ext {H H':HF} {G:List RF} {AG:List Frame} (h:SimG H G AG) (hl:HLe H H'):SimG H' G AG:=by
 induction h with
 | nil=>exact .nil
 | cons h _ ih=>exact .cons (h.ext hl) ih
theorem objAt_eq: ∀(TS:List TOb) (l:Nat),objAt TS l=TS[l]?
 | [],l=>by simp [objAt]
 | o::TS,0=>by simp [objAt]
 | o::TS,l+1=>by simp [objAt,objAt_eq TS l]
theorem setOb_eq: ∀(TS:List TOb) (l:Nat) (o:TOb),setOb TS l o=TS.set l o
 | [],l,o=>by simp [setOb]
 | a::TS,0,o=>by simp [setOb]
 | a::TS,l+1,o=>by simp [setOb,setOb_eq TS l o]
theorem lenT_eq: ∀(TS:List TOb),lenT TS=TS.length
 | []=>rfl
 | _::TS=>by simp [lenT,lenT_eq TS]
theorem pushO_eq: ∀(TS:List TOb) (o:TOb),pushO TS o=TS++[o]
 | [],o=>rfl
 | a::TS,o=>by simp [pushO,pushO_eq TS o]
theorem pushL_eq: ∀(TS S:List TOb),pushL TS S=TS++S
 | [],S=>rfl
 | a::TS,S=>by simp [pushL,pushL_eq TS S]
def RowAt (S:Store) (t:Ty) (ls:List (T t)):Option (Nat×Nat)→Prop
 | none=>ls=[]
 | some (p,v)=>S[p]?=some (.row v (szT t) (ls.flatMap (encT t)))
def subA (q:Option (Nat×Nat)×Nat):AVal:=slA q.1 0 q.2
structure SubsAt (S:Store) (t:Ty) (ls:List (List (T t))) (sub:List (Option (Nat×Nat)×Nat)):Prop where
 len:sub.length=ls.length
 at_: ∀(i:Nat) l q,ls[i]?=some l→sub[i]?=some q→q.2=l.length∧RowAt S t l q.1
def ObS (H:HF) (S:Store) (l:Nat):TOb→Prop
 | .dead=>H l=none
 | .cells k cs=> ∃p v xs,H l=some ⟨some (p,v),k,cs.length,[]⟩∧S[p]?=some (.row v k xs)∧SimL H cs xs
 | .row t ls=> ∃loc,H l=some ⟨loc,szT t,ls.length,[]⟩∧RowAt S t ls loc
 | .drow t ls=> ∃p v sub,H l=some ⟨some (p,v),1,ls.length,sub⟩∧S[p]?=some (.row v 1 (sub.map subA))∧SubsAt S t ls sub
structure St3 (H:HF) (TS:List TOb) (S:Store):Prop where
 ob: ∀(l:Nat) o,TS[l]?=some o→ObS H S l o
 out: ∀l,TS.length≤l→H l=none
 inj: ∀l l' h h' p v v',H l=some h→H l'=some h'→h.loc=some (p,v)→h'.loc=some (p,v')→l=l'
 sub: ∀(l i:Nat) (h:Hd) (p v n:Nat),H l=some h→h.sub[i]?=some (some (p,v),n)→p<S.length∧(∀l' h' v',H l'=some h'→h'.loc≠some (p,v'))∧
  (∀(l' i':Nat) (h':Hd) (v' n':Nat),H l'=some h'→h'.sub[i']?=some (some (p,v'),n')→l'=l∧i'=i)
theorem St3.lt {H:HF} {TS:List TOb} {S:Store} (st:St3 H TS S) {l:Nat} {h:Hd} {p v:Nat} (hl:H l=some h) (hp:h.loc=some (p,v)):p<S.length:=by
 have hlt:l<TS.length:=by
  rcases Nat.lt_or_ge l TS.length with q | q
  ·exact q
  ·rw [st.out l q] at hl;cases hl
 have:=st.ob l _ (List.getElem?_eq_getElem hlt)
 generalize TS[l]=o at this
 cases o with
 | dead=>simp only [ObS] at this;rw [this] at hl;cases hl
 | cells k cs=>
  obtain ⟨p',v',xs,h1,h2,_⟩:=this
  rw [h1] at hl;cases hl;cases hp
  exact (List.getElem?_eq_some_iff.1 h2).1
 | row t ls=>
  obtain ⟨loc,h1,h2⟩:=this
  rw [h1] at hl;cases hl
  simp only at hp;subst hp
  exact (List.getElem?_eq_some_iff.1 h2).1
 | drow t ls=>
  obtain ⟨p',v',sub,h1,h2,_⟩:=this
  rw [h1] at hl;cases hl;cases hp
  exact (List.getElem?_eq_some_iff.1 h2).1
theorem SubsAt.ext {S S':Store} {t:Ty} {ls:List (List (T t))} {sub:List (Option (Nat×Nat)×Nat)} (h:SubsAt S t ls sub) (hS: ∀(p:Nat) x,(∃(i v n:Nat),sub[i]?=some (some (p,v),n))→S[p]?=some x→S'[p]?=some x):SubsAt S' t ls sub:=
 ⟨h.len,fun i l q h1 h2=>by
  obtain ⟨g1,g2⟩:=h.at_ i l q h1 h2
  refine ⟨g1,?_⟩
  obtain ⟨loc,n⟩:=q
  cases loc with
  | none=>exact g2
  | some pv=>exact hS _ _ ⟨i,pv.2,n,h2⟩ g2⟩
theorem ObS.ext {H H':HF} {S S':Store} {l:Nat} {o:TOb} (h:ObS H S l o) (hl:HLe H H') (hS: ∀(p:Nat) x,S[p]?=some x→S'[p]?=some x) (hd:H l=none→H' l=none):ObS H' S' l o:=by
 cases o with
 | dead=>exact hd h
 | cells k cs=>
  obtain ⟨p,v,xs,h1,h2,h3⟩:=h
  exact ⟨p,v,xs,hl _ _ h1,hS _ _ h2,h3.ext hl⟩
 | row t ls=>
  obtain ⟨loc,h1,h2⟩:=h
  refine ⟨loc,hl _ _ h1,?_⟩
  cases loc with
  | none=>exact h2
  | some q=>exact hS _ _ h2
 | drow t ls=>
  obtain ⟨p,v,sub,h1,h2,h3⟩:=h
  exact ⟨p,v,sub,hl _ _ h1,hS _ _ h2,h3.ext fun p x _ hp=>hS p x hp⟩
theorem St3.nil {S:Store}:St3 (fun _=>none) [] S:=⟨fun l o h=>by simp at h,fun _ _=>rfl,fun l l' h h' p v v' e=>(by cases e),fun l i h p v n e=>(by cases e)⟩
theorem St3.push {H:HF} {TS:List TOb} {S S':Store} (st:St3 H TS S) {o:TOb} {hd:Hd} (ho: ∀H',HLe H H'→H' TS.length=some hd→ObS H' S' TS.length o) (hS: ∀(p:Nat) x,S[p]?=some x→S'[p]?=some x)
  (hn: ∀p v,hd.loc=some (p,v)→S.length≤p) (hsub: ∀q∈hd.sub,q.1=none:=by simp): ∃H',HLe H H'∧St3 H' (TS++[o]) S'∧H' TS.length=some hd:=by
 have hl:HLe H (fun l=>if l=TS.length then some hd else H l):=fun l h e=>by
  have:l≠TS.length:=fun q=>by rw [q,st.out _ (Nat.le_refl _)] at e;cases e
  simp [this,e]
 refine ⟨fun l=>if l=TS.length then some hd else H l,hl,⟨fun l o' h=>?_,fun l h=>?_,fun l l' h h' p v v' e1 e2 e3 e4=>?_,fun l i h p v n e1 e2=>?_⟩,by simp⟩
 ·rcases Nat.lt_or_ge l TS.length with q | q
  ·rw [List.getElem?_append_left q] at h
   exact (st.ob l o' h).ext hl hS fun e=>by simp [e];omega
  ·rw [List.getElem?_append_right q] at h
   have:l=TS.length:=by
    rcases Nat.lt_or_ge (l-TS.length) 1 with q | q
    ·omega
    ·rw [List.getElem?_eq_none (by simpa using q)] at h;cases h
   subst this
   simp at h
   subst h
   exact ho _ hl (by simp)
 ·simp at h
  rw [if_neg (by omega)]
  exact st.out l (by omega)
 ·split at e1<;>split at e2
  ·rename_i a b;rw [a,b]
  ·cases e1
   have:=hn _ _ e3
   have:=st.lt e2 e4
   omega
  ·cases e2
   have:=hn _ _ e4
   have:=st.lt e1 e3
   omega
  ·exact st.inj _ _ _ _ _ _ _ e1 e2 e3 e4
 ·have no: ∀(i:Nat) (p v n:Nat),¬hd.sub[i]?=some (some (p,v),n):=fun i p v n e=>by
   have:=hsub _ (List.mem_of_getElem? e)
   cases this
  split at e1
  ·cases e1;exact absurd e2 (no _ _ _ _)
  ·obtain ⟨g1,g2,g3⟩:=st.sub l i h p v n e1 e2
   refine ⟨?_,fun l' h' v' q1 q2=>?_,fun l' i' h' v' n' q1 q2=>?_⟩
   ·exact (List.getElem?_eq_some_iff.1 (hS p _ (List.getElem?_eq_getElem g1))).1
   ·split at q1
    ·cases q1;have:=hn _ _ q2;omega
    ·exact g2 _ _ _ q1 q2
   ·split at q1
    ·cases q1;exact absurd q2 (no _ _ _ _)
    ·exact g3 _ _ _ _ _ q1 q2
theorem get_push {S:Store} {o:Ob}: ∀(p:Nat) x,S[p]?=some x→(S++[o])[p]?=some x:=fun p x h=>by
 rw [List.getElem?_append_left (List.getElem?_eq_some_iff.1 h).1];exact h
theorem St3.pushRow {H:HF} {TS:List TOb} {S:Store} (st:St3 H TS S) (t:Ty) (ls:List (T t)) (v:Nat):
  ∃H',HLe H H'∧St3 H' (TS++[.row t ls]) (S++[.row v (szT t) (ls.flatMap (encT t))])∧H' TS.length=some ⟨some (S.length,v),szT t,ls.length,[]⟩:=
 st.push (fun H' _ h=>⟨_,h,by simp [RowAt]⟩) get_push (fun p v' e=>by cases e;exact Nat.le_refl _)
theorem St3.pushNil {H:HF} {TS:List TOb} {S:Store} (st:St3 H TS S) (t:Ty):
  ∃H',HLe H H'∧St3 H' (TS++[.row t []]) S∧H' TS.length=some ⟨none,szT t,0,[]⟩:=
 st.push (fun H' _ h=>⟨_,h,by simp [RowAt]⟩) (fun _ _ h=>h) (fun p v' e=>by cases e)
theorem St3.pushCells {H:HF} {TS:List TOb} {S:Store} (st:St3 H TS S) (k:Nat) {cs:List TV} {xs:List AVal} (hs:SimL H cs xs) (v:Nat):
  ∃H',HLe H H'∧St3 H' (TS++[.cells k cs]) (S++[.row v k xs])∧H' TS.length=some ⟨some (S.length,v),k,cs.length,[]⟩:=
 st.push (fun H' hl h=>⟨_,_,_,h,by simp,hs.ext hl⟩) get_push (fun p v' e=>by cases e;exact Nat.le_refl _)
theorem St3.pushDeep {H:HF} {TS:List TOb} {S:Store} (st:St3 H TS S) (t:Ty) (n v:Nat):
  ∃H',HLe H H'∧St3 H' (TS++[.drow t (List.replicate n [])]) (S++[.row v 1 (List.replicate n .nils)])∧H' TS.length=some ⟨some (S.length,v),1,n,List.replicate n (none,0)⟩:=
 st.push (fun H' _ h=>⟨_,v,List.replicate n (none,0),by simpa using h,by simp [subA,slA],by simp,fun i l q h1 h2=>by
  rw [List.getElem?_replicate] at h1 h2
  split at h1<;>cases h1
  split at h2
  ·cases h2;exact ⟨rfl,rfl⟩
  ·omega⟩) get_push (fun p v' e=>by cases e;exact Nat.le_refl _) fun q hq=>by rw [(List.mem_replicate.1 hq).2]
def hdR:(r:RTy)→(rs:List RTy)→RTs (r::rs)→RT r
 | _,[],x=>x
 | _,_::_,x=>x.1
def tlR:(r:RTy)→(rs:List RTy)→RTs (r::rs)→RTs rs
 | _,[],_=>()
 | _,_::_,x=>x.2
def resA:(rs:List RTy)→RTs rs→Nat→List AVal→Store→Prop
 | [],_,_,ys,S=>ys=[]∧S=[]
 | .val t::rs,x,n,ys,S=> ∃ys',ys=encA t (hdR (.val t) rs x)::ys'∧resA rs (tlR (.val t) rs x) n ys' S
 | .own t::rs,x,n,ys,S=>(∃v ys' S',ys= .sl n v 0 (hdR (.own t) rs x).length::ys'∧S= .row v (szT t) ((hdR (.own t) rs x).flatMap (encT t))::S'∧resA rs (tlR (.own t) rs x) (n+1) ys' S')∨
   (hdR (.own t) rs x=[]∧ ∃ys',ys= .nils::ys'∧resA rs (tlR (.own t) rs x) n ys' S)
def retA (xs:List AVal):AVal:=match xs with | [x]=>x | xs=>.tup xs
def resR (rs:List RTy) (x:RTs rs) (r:AVal) (S:Store):Prop:= ∃ys,resA rs x 0 ys S∧r=retA ys
def Con (P:Program) (f:FuncId) (ct:Ct):Prop:=callable P f=true∧ ∀x:Ts ct.args,ct.pre x→ACalls P f (encAs ct.args x) [] (resR ct.res (ct.fn x))
def Cons (P:Program):List (Nat×Ct)→Prop
 | []=>True
 | (f,ct)::L=>Con P f ct∧Cons P L
theorem Cons.look {P:Program}: ∀ {L:List (Nat×Ct)} {f:Nat} {ct:Ct},Cons P L→lookN L f=some ct→Con P f ct
 | [],_,_,_,h=>by simp [lookN] at h
 | (g,c)::L,f,ct,hc,h=>by
  simp only [lookN] at h
  split at h
  ·rename_i hb;cases h;rw [←beq_eq hb];exact hc.1
  ·exact Cons.look hc.2 h
theorem resTV_val (t:Ty): ∀(rs:List RTy) (x:RTs (.val t::rs)) (n:Nat),resTV (.val t::rs) x n=(tvA t (hdR (.val t) rs x)::(resTV rs (tlR (.val t) rs x) n).1,(resTV rs (tlR (.val t) rs x) n).2)
 | [],x,n=>rfl
 | _::_,x,n=>rfl
theorem resTV_own (t:Ty): ∀(rs:List RTy) (x:RTs (.own t::rs)) (n:Nat),resTV (.own t::rs) x n=(.slf n::(resTV rs (tlR (.own t) rs x) (n+1)).1,.row t (hdR (.own t) rs x)::(resTV rs (tlR (.own t) rs x) (n+1)).2)
 | [],x,n=>rfl
 | _::_,x,n=>rfl
theorem res_push: ∀(rs:List RTy) (x:RTs rs) {H:HF} {TS:List TOb} {S S':Store} {ys:List AVal},St3 H TS S→resA rs x S.length ys S'→
  ∃H',HLe H H'∧St3 H' (TS++(resTV rs x TS.length).2) (S++S')∧SimL H' (resTV rs x TS.length).1 ys
 | [],_,H,TS,S,S',ys,st,h=>by
  simp only [resA] at h
  obtain ⟨rfl,rfl⟩:=h
  exact ⟨H,fun _ _ h=>h,by simpa [resTV] using st,by simp [resTV,SimL]⟩
 | .val t::rs,x,H,TS,S,S',ys,st,h=>by
  simp only [resA] at h
  obtain ⟨ys',rfl,h⟩:=h
  obtain ⟨H',g1,g2,g3⟩:=res_push rs _ st h
  rw [resTV_val]
  exact ⟨H',g1,g2,by simp only [SimL];exact ⟨_,_,rfl,tvA_sim _ _,g3⟩⟩
 | .own t::rs,x,H,TS,S,S',ys,st,h=>by
  simp only [resA] at h
  rw [resTV_own]
  rcases h with ⟨v,ys',S1,rfl,rfl,h⟩ | ⟨h0,ys',rfl,h⟩
  ·obtain ⟨H1,p1,p2,p3⟩:=st.pushRow t (hdR (.own t) rs x) v
   obtain ⟨H',g1,g2,g3⟩:=res_push rs _ p2 (by simpa using h)
   simp only [List.length_append,List.length_singleton] at g2 g3
   refine ⟨H',fun l h e=>g1 _ _ (p1 _ _ e),by simpa using g2,?_⟩
   simp only [SimL,SimV]
   exact ⟨_,_,rfl,⟨_,g1 _ _ p3,rfl⟩,g3⟩
  ·obtain ⟨H1,p1,p2,p3⟩:=st.pushNil t
   obtain ⟨H',g1,g2,g3⟩:=res_push rs _ p2 h
   simp only [List.length_append,List.length_singleton] at g2 g3
   refine ⟨H',fun l h e=>g1 _ _ (p1 _ _ e),by rw [h0];simpa using g2,?_⟩
   simp only [SimL,SimV]
   exact ⟨_,_,rfl,⟨_,g1 _ _ p3,rfl⟩,g3⟩
def shA (n:Nat):AVal→AVal
 | .sl l v o k=>.sl (l+n) v o k
 | x=>x
theorem encA_sh (n:Nat): ∀(t:Ty) (x:T t),shA n (encA t x)=encA t x
 | .int _,_=>rfl
 | .str,_=>rfl
 | .bool,_=>rfl
 | .st _,_=>rfl
 | .sl _,_=>rfl
theorem resA_sh (m:Nat): ∀(rs:List RTy) (x:RTs rs) (n:Nat) {ys:List AVal} {S:Store},resA rs x n ys S→resA rs x (n+m) (ys.map (shA m)) S
 | [],_,n,ys,S,h=>by
  simp only [resA] at*
  obtain ⟨rfl,rfl⟩:=h
  simp
 | .val t::rs,x,n,ys,S,h=>by
  simp only [resA] at*
  obtain ⟨ys',rfl,h⟩:=h
  exact ⟨_,by simp [encA_sh],resA_sh m rs _ n h⟩
 | .own t::rs,x,n,ys,S,h=>by
  simp only [resA] at*
  rcases h with ⟨v,ys',S1,rfl,rfl,h⟩ | ⟨h0,ys',rfl,h⟩
  ·refine .inl ⟨v,ys'.map (shA m),S1,rfl,rfl,?_⟩
   have:=resA_sh m rs _ (n+1) h
   rwa [show n+1+m=n+m+1 by omega] at this
  ·exact .inr ⟨h0,ys'.map (shA m),rfl,resA_sh m rs _ n h⟩
theorem sh_le (m:Nat) (x:AVal):LeV x (shA m x):=by
 cases x<;>first | exact .sl | exact .refl _
theorem sh_leL (m:Nat): ∀xs:List AVal,LeL xs (xs.map (shA m))
 | []=>.nil
 | x::xs=>.cons (sh_le m x) (sh_leL m xs)
theorem ret_le (m:Nat): ∀xs:List AVal,LeV (retA xs) (retA (xs.map (shA m)))
 | []=>.tup .nil
 | [x]=>sh_le m x
 | x::y::xs=>.tup (sh_leL m (x::y::xs))
mutual
def plain:AVal→Bool
 | .ros n _=>Nat.beq n 0
 | .rop _=>false
 | .agg cs=>plainL cs
 | .tup cs=>plainL cs
 | .fn _ xs ys=>plainL xs && plainL ys
 | .iface _ x=>plain x
 | _=>true
def plainL:List AVal→Bool
 | []=>true
 | x::xs=>plain x && plainL xs
end
mutual
theorem plain_rel {E E':Env} {fz fz':Nat→Prop} {w w':World} (hE: ∀v x,E v=some x→E' v=some x): ∀(x:AVal) (v:Value),plain x=true→Rel E fz w x v→Rel E' fz' w' x v
 | .agg cs,v,h,hr=>by
  simp only [Rel] at*
  obtain ⟨vs,h1,h2,h3⟩:=hr
  exact ⟨vs,h1,plainL_rel hE cs vs (by simpa [plain] using h) h2,h3⟩
 | .tup cs,v,h,hr=>by
  simp only [Rel] at*
  obtain ⟨vs,h1,h2⟩:=hr
  exact ⟨vs,h1,plainL_rel hE cs vs (by simpa [plain] using h) h2⟩
 | .fn f xs ys,v,h,hr=>by
  simp only [Rel] at*
  obtain ⟨vs,us,h1,h2,h3⟩:=hr
  simp only [plain,Bool.and_eq_true] at h
  exact ⟨vs,us,h1,plainL_rel hE xs vs h.1 h2,plainL_rel hE ys us h.2 h3⟩
 | .iface t x,v,h,hr=>by
  simp only [Rel] at*
  obtain ⟨u,h1,h2⟩:=hr
  exact ⟨u,h1,plain_rel hE x u (by simpa [plain] using h) h2⟩
 | .ros n cs,v,h,hr=>by
  have hn:n=0:=by simpa [plain] using h
  subst hn
  simp only [Rel] at*
  rcases hr with hr | ⟨b,off,c,g1,g2,g3,g4⟩
  ·exact .inl hr
  ·exact .inl ⟨trivial,_,_,g3⟩
 | .rop _,_,h,_=>by simp [plain] at h
 | .ptr _ _ _,_,_,hr=>by
  simp only [Rel] at*
  obtain ⟨b,base,cap,k,h1,h2⟩:=hr
  exact ⟨b,base,cap,k,hE _ _ h1,h2⟩
 | .sl _ _ _ _,_,_,hr=>by
  simp only [Rel] at*
  rcases hr with h | ⟨b,base,cap,k,c,h1,h2⟩
  ·exact .inl h
  ·exact .inr ⟨b,base,cap,k,c,hE _ _ h1,h2⟩
 | .map _ _,_,_,hr=>by
  simp only [Rel] at*
  obtain ⟨b,h1,h2⟩:=hr
  exact ⟨b,hE _ _ h1,h2⟩
 | .int _ _,_,_,hr=>by simpa [Rel] using hr
 | .str _,_,_,hr=>by simpa [Rel] using hr
 | .bool _,_,_,hr=>by simpa [Rel] using hr
 | .tt,_,_,hr=>by simpa [Rel] using hr
 | .ff,_,_,hr=>by simpa [Rel] using hr
 | .junk,_,_,hr=>by simp [Rel]
 | .nilp,_,_,hr=>by simpa [Rel] using hr
 | .nils,_,_,hr=>by simpa [Rel] using hr
 | .nilf,_,_,hr=>by simpa [Rel] using hr
 | .nilm,_,_,hr=>by simpa [Rel] using hr
 | .nili,_,_,hr=>by simpa [Rel] using hr
 | .cst _,_,_,hr=>by simpa [Rel] using hr
theorem plainL_rel {E E':Env} {fz fz':Nat→Prop} {w w':World} (hE: ∀v x,E v=some x→E' v=some x): ∀(xs:List AVal) (vs:List Value),plainL xs=true→RelL E fz w xs vs→RelL E' fz' w' xs vs
 | [],_,_,hr=>by simpa [RelL] using hr
 | x::xs,_,h,hr=>by
  simp only [RelL] at*
  obtain ⟨v,us,h0,h1,h2⟩:=hr
  simp only [plainL,Bool.and_eq_true] at h
  exact ⟨v,us,h0,plain_rel hE x v h.1 h1,plainL_rel hE xs us h.2 h2⟩
end
theorem plainL_mem: ∀ {xs:List AVal},plainL xs=true→ ∀x∈xs,plain x=true
 | [],_,x,h=>by cases h
 | y::ys,hp,x,h=>by
  simp only [plainL,Bool.and_eq_true] at hp
  rcases List.mem_cons.1 h with rfl | h
  ·exact hp.1
  ·exact plainL_mem hp.2 x h
theorem plainL_append: ∀ {xs ys:List AVal},plainL xs=true→plainL ys=true→plainL (xs++ys)=true
 | [],_,_,h=>h
 | x::xs,ys,h,h'=>by
  simp only [plainL,Bool.and_eq_true,List.cons_append] at*
  exact ⟨h.1,plainL_append h.2 h'⟩
def plainO:Ob→Prop
 | .row _ _ cs=>plainL cs=true
 | .dead=>True
 | .mapo _ _=>False
 | .loopo _ _ _=>False
 | .itero _ _ _ _ _=>False
mutual
theorem flat_plain: ∀(t:Ty) (x:T t),flatT t=true→plainL (encT t x)=true
 | .int _,_,_=>rfl
 | .str,_,_=>rfl
 | .bool,_,_=>rfl
 | .st fs,x,h=>by simp only [flatT] at h;simp only [encT];exact flats_plain fs x h
 | .sl _,_,h=>by simp [flatT] at h
theorem flats_plain: ∀(ts:Tys) (x:Ts ts),flatTs ts=true→plainL (encTs ts x)=true
 | .nil,_,_=>rfl
 | .cons t .nil,x,h=>by
  simp only [flatTs,Bool.and_eq_true] at h
  simp only [encTs];exact flat_plain t x h.1
 | .cons t (.cons u ts),(x,y),h=>by
  rw [flatTs,Bool.and_eq_true] at h
  simp only [encTs]
  exact plainL_append (flat_plain t x h.1) (flats_plain (.cons u ts) y h.2)
end
theorem flat_plainA: ∀(t:Ty) (x:T t),flatT t=true→plain (encA t x)=true
 | .int _,_,_=>rfl
 | .str,_,_=>rfl
 | .bool,_,_=>rfl
 | .st fs,x,h=>by simp only [flatT] at h;simp only [encA,plain];exact flats_plain fs x h
 | .sl _,_,h=>by simp [flatT] at h
theorem flat_rows {t:Ty} (h:flatT t=true): ∀ls:List (T t),plainL (ls.flatMap (encT t))=true
 | []=>rfl
 | x::ls=>by rw [List.flatMap_cons];exact plainL_append (flat_plain t x h) (flat_rows h ls)
theorem res_plain: ∀(rs:List RTy) (x:RTs rs) (n:Nat) {ys:List AVal} {S:Store},flatR rs=true→resA rs x n ys S→plainL ys=true∧ ∀o∈S,plainO o
 | [],_,n,ys,S,_,h=>by
  simp only [resA] at h
  obtain ⟨rfl,rfl⟩:=h
  exact ⟨rfl,by simp⟩
 | .val t::rs,x,n,ys,S,hf,h=>by
  simp only [resA] at h
  obtain ⟨ys',rfl,h⟩:=h
  simp only [flatR,Bool.and_eq_true] at hf
  obtain ⟨g1,g2⟩:=res_plain rs _ n hf.2 h
  exact ⟨by simp [plainL,flat_plainA t _ hf.1,g1],g2⟩
 | .own t::rs,x,n,ys,S,hf,h=>by
  simp only [resA] at h
  simp only [flatR,Bool.and_eq_true] at hf
  rcases h with ⟨v,ys',S1,rfl,rfl,h⟩ | ⟨h0,ys',rfl,h⟩
  ·obtain ⟨g1,g2⟩:=res_plain rs _ _ hf.2 h
   refine ⟨by simp [plainL,plain,g1],fun o ho=>?_⟩
   rcases List.mem_cons.1 ho with rfl | ho
   ·exact flat_rows hf.1 _
   ·exact g2 o ho
  ·obtain ⟨g1,g2⟩:=res_plain rs _ _ hf.2 h
   exact ⟨by simp [plainL,plain,g1],g2⟩
section
variable {P : Program} {f : FuncId}
theorem ACalls.lendR {S:Store} {args args':List AVal} {R K:AVal→Store→Prop} (h:ACalls P f args' [] R)
  (hargs: ∀E fz w vals,St E fz S w→RelL E fz w args vals→RelL E (frozen E fz S) w args' vals)
  (hK: ∀r S',R r S'→ ∃r',LeV r r'∧plain r'=true∧(∀o∈S',plainO o)∧K r' (S++S')):ACalls P f args S K:=by
 refine ⟨fun E fz w vals st hrel=>?_⟩
 have no: ∀b,¬Own E [] b:=fun b ⟨l,o,h,_⟩=>by simp at h
 refine (h.out E _ w vals st.freeze (hargs E fz w vals st hrel)).mono fun e w' ⟨r,S',v,E',fz',h1,h2,h3,h4,h5⟩=>?_
 obtain ⟨r',g1,g2,g3,g4⟩:=hK r S' h5
 have hh: ∀b,b<w.heap.size→w'.heap[b]?=w.heap[b]?:=fun b hb=>h2.keep b hb (no b)
 have nf: ∀b,fz b→ ¬Own E S b:=fun b hb ⟨l,ho⟩=>(st.own_lt ho).2 hb
 have new: ∀l b,OwnAt E' S' l b→w.heap.size≤b:=fun l b ho=>by
  rcases h2.own b ⟨_,ho⟩ with q | q
  ·exact absurd q (no b)
  ·exact q
 have split: ∀l b,OwnAt E' (S++S') l b→(l<S.length∧OwnAt E S l b)∨(S.length≤l∧OwnAt E' S' (l-S.length) b):=fun l b ⟨o,q1,q2⟩=>by
  by_cases hl:l<S.length
  ·rw [List.getElem?_append_left hl] at q1
   exact .inl ⟨hl,o,q1,by rw [←(st.ok l o q1).block h2.env];exact q2⟩
  ·rw [List.getElem?_append_right (by omega)] at q1
   exact .inr ⟨by omega,o,q1,q2⟩
 refine ⟨r',S++S',v,E',fun b=>fz' b∧ ¬Own E S b,h1,⟨h2.env,fun b hb=>⟨h2.frz b (.inl hb),nf b hb⟩,fun b ⟨hb,hn⟩=>?_,fun b hb _=>hh b hb,fun b ⟨l,ho⟩=>?_,h2.size,h2.os,h2.output,h2.tape⟩,
  ⟨fun l o hl=>?_,fun l l' b q1 q2=>?_,fun b hb=>h3.fzlt b hb.1,h3.fresh⟩,plain_rel (fun _ _ h=>h) r' v g2 (g1 _ _ _ _ h4),g4⟩
 ·rcases h2.fznew b hb with (q | q) | q | q
  ·exact .inl q
  ·exact absurd q hn
  ·exact absurd q (no b)
  ·exact .inr (.inr q)
 ·rcases split l b ho with ⟨_,q⟩ | ⟨_,q⟩
  ·exact .inl ⟨l,q⟩
  ·exact .inr (new _ _ q)
 ·by_cases hlt:l<S.length
  ·rw [List.getElem?_append_left hlt] at hl
   exact (st.ok l o hl).mono h2.env (fun b hb=>⟨h2.frz b (.inl hb),nf b hb⟩) (fun b hb=>hh b (st.fzlt b hb)) fun b hb=>⟨hh b (st.own_lt ⟨o,hl,hb⟩).1,fun q=>q.2 ⟨l,o,hl,hb⟩⟩
  ·rw [List.getElem?_append_right (by omega)] at hl
   have ok:=h3.ok _ _ hl
   have pl:=g3 o (List.mem_of_getElem? hl)
   cases o with
   | dead=>trivial
   | mapo v es=>exact pl.elim
   | loopo b L F=>exact pl.elim
   | itero v mv since last seen=>exact pl.elim
   | row v k cs=>
    rcases ok with ⟨q1,q2⟩ | ⟨b,base,cap,arr,T,lo,hi,q1,q2,q3,q4,q5,q6,q7⟩
    ·exact .inl ⟨q1,q2⟩
    ·refine .inr ⟨b,base,cap,arr,T,lo,hi,q1,q2,q3,q4,q5,RelC.mk fun i x hx=>?_,fun hf=>q7 hf.1⟩
     obtain ⟨c,c1,c2,c3⟩:=q6.get hx
     exact ⟨c,c1,c2,plain_rel (fun _ _ h=>h) x c (plainL_mem pl x (List.mem_of_getElem? hx)) c3⟩
 ·rcases split l b q1 with ⟨a1,a2⟩ | ⟨a1,a2⟩<;>rcases split l' b q2 with ⟨b1,b2⟩ | ⟨b1,b2⟩
  ·exact st.sep _ _ _ a2 b2
  ·have:=(st.own_lt a2).1;have:=new _ _ b2;omega
  ·have:=(st.own_lt b2).1;have:=new _ _ a2;omega
  ·have:=h3.sep _ _ _ a2 b2;omega
end
end Go.Vc
end
section
namespace Go.Vc
section
variable {H : HF} {TS : List TOb} {S : Store}
theorem relC_pre {E:Env} {fz:Nat→Prop} {w:World} {b off:Nat} {xs ys:List AVal} (h:RelC E fz w b off (xs++ys)):RelC E fz w b off xs:=by
 have:=h.take xs.length
 rwa [List.take_left'] at this
 rfl
theorem row_get (st:St3 H TS S) {l:Nat} {t:Ty} {ls:List (T t)} (ho:objAt TS l=some (.row t ls)): ∃loc,H l=some ⟨loc,szT t,ls.length,[]⟩∧RowAt S t ls loc:=by
 rw [objAt_eq] at ho
 exact st.ob l _ ho
theorem cells_get (st:St3 H TS S) {l k:Nat} {cs:List TV} (ho:objAt TS l=some (.cells k cs)): ∃p v xs,H l=some ⟨some (p,v),k,cs.length,[]⟩∧S[p]?=some (.row v k xs)∧SimL H cs xs:=by
 rw [objAt_eq] at ho
 exact st.ob l _ ho
theorem drow_get (st:St3 H TS S) {l:Nat} {t:Ty} {ls:List (List (T t))} (ho:objAt TS l=some (.drow t ls)): ∃p v sub,H l=some ⟨some (p,v),1,ls.length,sub⟩∧S[p]?=some (.row v 1 (sub.map subA))∧SubsAt S t ls sub:=by
 rw [objAt_eq] at ho
 exact st.ob l _ ho
theorem flat_part {t:Ty} (ls:List (T t)) (a n:Nat):(ls.flatMap (encT t)).drop (a*szT t)=((ls.drop a).take n).flatMap (encT t)++((ls.drop a).drop n).flatMap (encT t):=by
 rw [drop_flat (encT_length t),←List.flatMap_append,List.take_append_drop]
theorem decS_rel (st3:St3 H TS S) {t:Ty} {x:TV} {a:List (T t)} {y:AVal} (h:decS TS t x=some a) (hs:SimV H x y) {E:Env} {fz fz':Nat→Prop} {w:World} {v:Value} (hfz: ∀b,fz b→fz' b)
  (hx:pureV x=true∨(fz'=frozen E fz S∧St E fz S w)) (hr:Rel E fz w y v):Rel E fz' w (.ros a.length (a.flatMap (encT t))) v:=by
 have nilc:Rel E fz w .nils v→Rel E fz' w (.ros 0 []) v:=fun h=>by
  simp only [Rel] at h ⊢
  exact .inl ⟨trivial,none,0,h⟩
 unfold decS at h
 split at h
 ·split at h<;>cases h
  rename_i hh _
  subst hh
  simp only [SimV] at hs
  subst hs
  exact hr.mono (fun _ _ h=>h) hfz (fun _ _=>rfl)
 ·cases h
  simp only [SimV] at hs
  subst hs
  exact nilc hr
 ·rename_i l
  split at h
  ·rename_i e ls ho
   split at h<;>cases h
   rename_i hh _
   subst hh
   obtain ⟨loc,h1,h2⟩:=row_get st3 ho
   simp only [SimV] at hs
   obtain ⟨hd,g1,rfl⟩:=hs
   rw [h1] at g1;cases g1
   rcases hx with hx | ⟨rfl,stE⟩
   ·simp [pureV] at hx
   cases loc with
   | none=>
    simp only [RowAt] at h2;subst h2
    exact nilc hr
   | some q=>
    obtain ⟨p,ver⟩:=q
    have:=deref_rel stE 1 _ _ hr
    simpa [deref,slA,show S[p]?=_ from h2] using this
  ·cases h
 ·rename_i l off len
  split at h
  ·rename_i e ls ho
   split at h<;>cases h
   rename_i hh _
   subst hh
   obtain ⟨loc,h1,h2⟩:=row_get st3 ho
   simp only [SimV] at hs
   obtain ⟨hd,g1,g2,g3,g4,rfl⟩:=hs
   rw [h1] at g1;cases g1
   simp only at g4
   have hlen:((ls.drop off.toNat).take len.toNat).length=len.toNat:=by simp;omega
   rw [hlen]
   rcases hx with hx | ⟨rfl,stE⟩
   ·simp [pureV] at hx
   cases loc with
   | none=>
    simp only [RowAt] at h2;subst h2
    simp only [List.length_nil] at g4
    have:len.toNat=0:=by omega
    rw [this]
    simpa using nilc hr
   | some q=>
    obtain ⟨p,ver⟩:=q
    have:=deref_rel stE 1 _ _ hr
    simp only [deref,slA,show S[p]?=_ from h2,if_pos,List.map_id'] at this
    rw [flat_part ls off.toNat len.toNat] at this
    simp only [Rel] at this ⊢
    rcases this with hz | ⟨b,o,c,q1,q2,q3,q4⟩
    ·exact .inl hz
    ·exact .inr ⟨b,o,c,q1,q2,q3,relC_pre q4⟩
  ·cases h
 ·cases h
theorem decA_rel (st3:St3 H TS S) {t:Ty} {x:TV} {a:T t} {y:AVal} (h:decA TS t x=some a) (hs:SimV H x y) {E:Env} {fz fz':Nat→Prop} {w:World} {v:Value} (hfz: ∀b,fz b→fz' b)
  (hx:pureV x=true∨(fz'=frozen E fz S∧St E fz S w)) (hr:Rel E fz w y v):Rel E fz' w (encA t a) v:=by
 have up:Rel E fz' w y v:=hr.mono (fun _ _ h=>h) hfz (fun _ _=>rfl)
 cases t with
 | int k=>
  simp only [decA,decAI] at h
  split at h
  ·rename_i k' n hi
   split at h<;>cases h
   rename_i hk
   have hk:=kEq_eq hk
   subst hk
   rw [asI_sim hi hs] at up
   exact up
  ·cases h
 | str=>
  simp only [decA] at h
  unfold decAS at h
  split at h<;>cases h
  simp only [SimV] at hs
  subst hs
  exact up
 | bool=>
  simp only [decA] at h
  rw [asB_sim h hs] at up
  exact up
 | st fs=>
  simp only [decA] at h
  unfold decAg at h
  split at h
  ·split at h<;>cases h
   rename_i hd
   simp only [SimV] at hs
   obtain ⟨xs,rfl,hs⟩:=hs
   obtain ⟨zs,rfl,hz⟩:=decCs_sim fs hd hs
   simp only [SimL] at hz
   subst hz
   rw [List.append_nil] at up
   exact up
  ·cases h
 | sl e=>
  simp only [decA] at h
  exact decS_rel st3 h hs hfz hx hr
theorem decAs_rel (st3:St3 H TS S) {E:Env} {fz fz':Nat→Prop} {w:World} (hfz: ∀b,fz b→fz' b): ∀(ts:Tys) {xs:List TV} {a:Ts ts} {ys:List AVal} {vs:List Value},decAs TS ts xs=some a→SimL H xs ys→
  (pureL xs=true∨(fz'=frozen E fz S∧St E fz S w))→RelL E fz w ys vs→RelL E fz' w (encAs ts a) vs
 | .nil,xs,a,ys,vs,h,hs,hx,hr=>by
  unfold decAs at h
  split at h<;>cases h
  simp only [SimL] at hs;subst hs
  simpa [encAs,RelL] using hr
 | .cons t .nil,xs,a,ys,vs,h,hs,hx,hr=>by
  have h:decA1 TS t xs=some a:=h
  unfold decA1 at h
  split at h
  ·simp only [SimL] at hs
   obtain ⟨y,zs,rfl,h1,rfl⟩:=hs
   simp only [RelL,encAs] at hr ⊢
   obtain ⟨v,us,rfl,r1,r2⟩:=hr
   exact ⟨v,us,rfl,decA_rel st3 h h1 hfz (hx.imp (fun q=>by simpa [pureL] using q) id) r1,r2⟩
  ·cases h
 | .cons t (.cons u ts),[],a,ys,vs,h,hs,hx,hr=>by rw [decAs] at h;cases h
 | .cons t (.cons u ts),x::xs,a,ys,vs,h,hs,hx,hr=>by
  rw [decAs] at h
  split at h<;>cases h
  rename_i p q h1 h2
  simp only [SimL] at hs
  obtain ⟨y,zs,rfl,s1,s2⟩:=hs
  simp only [RelL,encAs] at hr ⊢
  obtain ⟨v,us,rfl,r1,r2⟩:=hr
  refine ⟨v,us,rfl,decA_rel st3 h1 s1 hfz (hx.imp (fun q=>?_) id) r1,decAs_rel st3 hfz (.cons u ts) h2 s2 (hx.imp (fun q=>?_) id) r2⟩
  ·simp only [pureL,Bool.and_eq_true] at q;exact q.1
  ·simp only [pureL,Bool.and_eq_true] at q;exact q.2
theorem plain_ret: ∀ {ys:List AVal},plainL ys=true→plain (retA ys)=true
 | [],_=>rfl
 | [x],h=>by simpa [plainL,retA] using h
 | x::y::ys,h=>h
theorem plain_sh (m:Nat): ∀ {ys:List AVal},plainL ys=true→plainL (ys.map (shA m))=true
 | [],_=>rfl
 | x::ys,h=>by
  simp only [plainL,Bool.and_eq_true,List.map_cons] at*
  refine ⟨?_,plain_sh m h.2⟩
  cases x<;>first | rfl | exact h.1
theorem con_raw {P:Program} {f:FuncId} {ct:Ct} (hc:Con P f ct) (st3:St3 H TS S) {xs:List TV} {a:Ts ct.args} {ys:List AVal} (hd:decAs TS ct.args xs=some a) (hp:ct.pre a) (hs:SimL H xs ys) (hf:(flatR ct.res || pureL xs)=true)
  {K:AVal→Store→Prop} (hk: ∀rs S',resA ct.res (ct.fn a) S.length rs S'→K (retA rs) (S++S')):ACalls P f ys S K:=by
 have h:=hc.2 a hp
 rw [Bool.or_eq_true] at hf
 rcases hf with hf | hf
 ·refine h.lendR (fun E fz w vals stE hr=>decAs_rel st3 (fun b hb=>.inl hb) ct.args hd hs (.inr ⟨rfl,stE⟩) hr) fun r S' ⟨rs,hr,e⟩=>?_
  subst e
  have hr':=resA_sh S.length ct.res _ 0 hr
  obtain ⟨g1,g2⟩:=res_plain ct.res _ 0 hf hr
  rw [Nat.zero_add] at hr'
  exact ⟨_,ret_le S.length rs,plain_ret (plain_sh _ g1),g2,hk _ _ hr'⟩
 ·have h':ACalls P f ys [] (resR ct.res (ct.fn a)):=⟨fun E fz w vals stE hr=>h.out E fz w vals stE (decAs_rel st3 (fun _ h=>h) ct.args hd hs (.inl hf) hr)⟩
  refine h'.frame0 fun r S' ⟨rs,hr,e⟩=>?_
  subst e
  have hr':=resA_sh S.length ct.res _ 0 hr
  rw [Nat.zero_add] at hr'
  exact ⟨_,id,S',ret_le S.length rs,.refl,hk _ _ hr'⟩
theorem ret_sim {H:HF}: ∀ {xs:List TV} {ys:List AVal},SimL H xs ys→SimV H (retT xs) (retA ys)
 | [],_,h=>by simp only [SimL] at h;subst h;simp only [retT,retA,SimV];exact ⟨[],rfl,by simp [SimL]⟩
 | [x],_,h=>by
  simp only [SimL] at h
  obtain ⟨y,zs,rfl,h1,rfl⟩:=h
  exact h1
 | x::x'::xs,ys,h=>by
  have hl:=h.length
  match ys,hl,h with
  | y::y'::ys,_,h=>simp only [retT,retA,SimV];exact ⟨_,rfl,h⟩
theorem con_use {P:Program} {f:FuncId} {ct:Ct} (hc:Con P f ct) (st3:St3 H TS S) {xs:List TV} {a:Ts ct.args} {ys:List AVal} (hd:decAs TS ct.args xs=some a) (hp:ct.pre a) (hs:SimL H xs ys) (hf:(flatR ct.res || pureL xs)=true)
  {K:AVal→Store→Prop} (hk: ∀r S' H',HLe H H'→St3 H' (TS++(resTV ct.res (ct.fn a) TS.length).2) S'→SimV H' (retT (resTV ct.res (ct.fn a) TS.length).1) r→K r S'):ACalls P f ys S K:=
 con_raw hc st3 hd hp hs hf fun rs S' hr=>by
  obtain ⟨H',g1,g2,g3⟩:=res_push ct.res _ st3 hr
  exact hk _ _ H' g1 g2 (ret_sim g3)
def encsR:(rs:List RTy)→RTs rs→List AVal
 | [],_=>[]
 | .val t::rs,x=>encA t (hdR (.val t) rs x)::encsR rs (tlR (.val t) rs x)
 | .own t::rs,x=>encsR rs (tlR (.own t) rs x)
theorem val_det: ∀(rs:List RTy) (x:RTs rs) (n:Nat) {ys:List AVal} {S:Store},allVal rs=true→resA rs x n ys S→ys=encsR rs x∧S=[]
 | [],_,n,ys,S,_,h=>by simpa [resA,encsR] using h
 | .val t::rs,x,n,ys,S,ha,h=>by
  simp only [resA] at h
  obtain ⟨ys',rfl,h⟩:=h
  obtain ⟨e1,e2⟩:=val_det rs _ n (by simpa [allVal] using ha) h
  exact ⟨by rw [e1];rfl,e2⟩
 | .own t::rs,x,n,ys,S,ha,h=>by simp [allVal] at ha
theorem val_sim {H:HF}: ∀(rs:List RTy) (x:RTs rs) (n:Nat),allVal rs=true→SimL H (resTV rs x n).1 (encsR rs x)
 | [],_,n,_=>by simp [resTV,encsR,SimL]
 | .val t::rs,x,n,ha=>by
  rw [resTV_val]
  simp only [encsR,SimL]
  exact ⟨_,_,rfl,tvA_sim _ _,val_sim rs _ n (by simpa [allVal] using ha)⟩
 | .own t::rs,x,n,ha=>by simp [allVal] at ha
theorem con_det {P:Program} {f:FuncId} {ct:Ct} (hc:Con P f ct) (st3:St3 H TS S) {xs:List TV} {a:Ts ct.args} {ys:List AVal} (hd:decAs TS ct.args xs=some a) (hp:ct.pre a) (hs:SimL H xs ys) (hf:(flatR ct.res || pureL xs)=true)
  (hv:allVal ct.res=true): ∃r0,SimV H (retT (resTV ct.res (ct.fn a) 0).1) r0∧ACalls P f ys S (fun r S'=>r=r0∧S'=S):=
 ⟨retA (encsR ct.res (ct.fn a)),ret_sim (val_sim _ _ _ hv),con_raw hc st3 hd hp hs hf fun rs S' hr=>by
  obtain ⟨e1,e2⟩:=val_det _ _ _ hv hr
  subst e1;subst e2
  exact ⟨rfl,by simp⟩⟩
end
end Go.Vc
end
section
namespace Go.Vc
def AllP (ps:List Prop):Prop:= ∀p∈ps,p
theorem conj_iff {q:Prop}: ∀ {ps:List Prop},conj ps q↔AllP ps∧q
 | []=>by simp [conj,AllP]
 | p::ps=>by simp only [conj,conj_iff,AllP,List.mem_cons,forall_eq_or_imp,and_assoc]
theorem AllP.cons {p:Prop} {ps:List Prop} (h:AllP (p::ps)):p∧AllP ps:=⟨h p (by simp),fun q hq=>h q (by simp [hq])⟩
theorem under_iff {c:Prop}: ∀ {ps:List Prop},AllP (underP c ps)↔(c→AllP ps)
 | []=>by simp [underP,AllP]
 | p::ps=>by
  have:= @under_iff c ps
  simp only [AllP,underP,List.mem_cons,forall_eq_or_imp] at*
  rw [this]
  exact ⟨fun h hc=>⟨h.1 hc,h.2 hc⟩,fun h=>⟨fun hc=>(h hc).1,fun hc=>(h hc).2⟩⟩
section
variable {H : HF} {K : AVal → Prop}
theorem mkI_sound {k:IntKind} {n:Int} (hp:AllP (mkI k n).1) (hk: ∀z,SimV H (mkI k n).2 z→K z):wMk k n K:=by
 cases k<;>simp only [mkI] at hp hk<;>simp only [wMk]
 case i64=>exact ⟨hp.cons.1,hk _ (by simp [SimV])⟩
 all_goals exact hk _ (by simp [SimV])
theorem pr_sim {p:Prop} [Decidable p] (hk: ∀z,SimV H (.pr p) z→K z):K (.bool (decide p)):=hk _ (by simp only [SimV];exact ⟨_,rfl,by simp⟩)
theorem pr_sim' {p:Prop} {b:Bool} (hb:b=true↔p) (hk: ∀z,SimV H (.pr p) z→K z):K (.bool b):=hk _ (by simp only [SimV];exact ⟨_,rfl,hb⟩)
theorem intBinV_sound {op:BinOp} {k:IntKind} {a b:Int} {ps:List Prop} {y:TV} (h:intBinV op k a b=some (ps,y)) (hp:AllP ps) (hk: ∀z,SimV H y z→K z):intBin op k a b K:=by
 cases op<;>simp only [intBinV,Option.some.injEq] at h<;>first | (cases h;done) | skip
 all_goals simp only [intBin]
 case add=>have e1:=congrArg Prod.fst h;have e2:=congrArg Prod.snd h;simp only at e1 e2;subst e1;subst e2;exact mkI_sound hp hk
 case sub=>have e1:=congrArg Prod.fst h;have e2:=congrArg Prod.snd h;simp only at e1 e2;subst e1;subst e2;exact mkI_sound hp hk
 case mul=>have e1:=congrArg Prod.fst h;have e2:=congrArg Prod.snd h;simp only at e1 e2;subst e1;subst e2;exact mkI_sound hp hk
 case quo=>cases h;exact ⟨hp.cons.1,mkI_sound hp.cons.2 hk⟩
 case rem=>cases h;exact ⟨hp.cons.1,hk _ (by simp [SimV])⟩
 all_goals cases h
 all_goals first
  | exact pr_sim hk
  | exact pr_sim' (by simp) hk
  | exact hk _ (by simp [SimV])
theorem strBinV_sound {op:BinOp} {a b:List UInt8} {ps:List Prop} {y:TV} (h:strBinV op a b=some (ps,y)) (hp:AllP ps) (hk: ∀z,SimV H y z→K z):strBin op a b K:=by
 cases op<;>simp only [strBinV] at h<;>cases h<;>simp only [strBin]
 case add=>exact ⟨hp.cons.1,hk _ (by simp [SimV])⟩
 all_goals exact pr_sim' (by simp) hk
theorem asP_wBool {x:TV} {p:Prop} {y:AVal} (h:asP x=some p) (hs:SimV H x y) {K:Bool→Prop} (hk: ∀b,(b=true↔p)→K b):wBool y K:=by
 cases x<;>simp only [asP] at h<;>cases h<;>simp only [SimV] at hs
 case tt=>subst hs;exact hk true (by simp)
 case ff=>subst hs;exact hk false (by simp)
 case bb=>subst hs;exact hk _ Iff.rfl
 case pr=>obtain ⟨b,rfl,hb⟩:=hs;exact hk b hb
 case gd=>
  rcases hs with ⟨rfl,hp⟩ | ⟨rfl,hp⟩
  ·exact hk true (by simp [hp])
  ·exact hk false (by simp [hp])
theorem asQ_sim {x:TV} {p:Prop} {y:AVal} (h:asQ x=some p) (hs:SimV H x y): ∃b,y= .bool b∧(b=true↔p):=by
 cases x<;>simp only [asQ] at h<;>cases h<;>simp only [SimV] at hs
 case tt=>subst hs;exact ⟨true,rfl,by simp⟩
 case ff=>subst hs;exact ⟨false,rfl,by simp⟩
 case bb=>subst hs;exact ⟨_,rfl,Iff.rfl⟩
 case pr=>exact hs
theorem eqV_sound {op:BinOp} {p:Prop} {ps:List Prop} {y:TV} {r:Bool} (h:eqV op p=some (ps,y)) (hr:r=true↔p) (hk: ∀z,SimV H y z→K z):eqK op r K:=by
 cases op<;>simp only [eqV] at h<;>cases h<;>simp only [eqK]
 ·exact pr_sim' hr hk
 ·exact pr_sim' (by simp [←hr]) hk
theorem cellsEqV_sound: ∀ {ks:List FK} {xs ys:List TV} {p:Prop} {X Y:List AVal} {K:Bool→Prop},cellsEqV ks xs ys=some p→SimL H xs X→SimL H ys Y→(∀r:Bool,(r=true↔p)→K r)→cellsEq ks X Y K:=by
 have one: ∀ {k:FK} {x y:TV} {p:Prop} {X Y:AVal} {ks:List FK} {XS YS:List AVal} {K:Bool→Prop},cellEqV k x y=some p→SimV H x X→SimV H y Y→
   (∀K':Bool→Prop,(∀r,K' r↔ ∀b:Bool,(b=true↔p)→K (b && r))→cellsEq ks XS YS K')→cellsEq (k::ks) (X::XS) (Y::YS) K:=by
  intro k x y p X Y ks XS YS K h hx hy hc
  have key: ∀b:Bool,(b=true↔p)→cellsEq ks XS YS fun r=>K (b && r):=fun b hb=>hc _ fun r=>⟨fun h b' hb'=>by
   have:b'=b:=by rw [Bool.eq_iff_iff,hb,hb']
   rw [this];exact h,fun h=>h b hb⟩
  cases k<;>simp only [cellEqV] at h
  ·split at h
   ·rename_i k1 a k2 b h1 h2
    split at h<;>cases h
    rename_i hk
    have hk:=kEq_eq hk
    subst hk
    rw [asI_sim h1 hx,asI_sim h2 hy]
    simp only [cellsEq]
    exact ⟨trivial,key _ (by simp)⟩
   ·cases h
  ·split at h
   ·rename_i a b h1 h2
    cases h
    unfold cellEqV.decAS0 at h1 h2
    split at h1<;>cases h1
    split at h2<;>cases h2
    simp only [SimV] at hx hy
    subst hx;subst hy
    simp only [cellsEq]
    exact key _ (by simp)
   ·cases h
  ·split at h
   ·rename_i a b h1 h2
    cases h
    obtain ⟨u,rfl,hu⟩:=asQ_sim h1 hx
    obtain ⟨v,rfl,hv⟩:=asQ_sim h2 hy
    simp only [cellsEq]
    exact key _ (by rw [decide_eq_true_eq,Bool.eq_iff_iff,hu,hv])
   ·cases h
 intro ks
 induction ks with
 | nil=>
  intro xs ys p X Y K h hx hy hk
  cases xs<;>cases ys<;>simp only [cellsEqV] at h<;>cases h
  simp only [SimL] at hx hy
  subst hx;subst hy
  exact hk true (by simp)
 | cons k ks ih=>
  intro xs ys p X Y K h hx hy hk
  have gen: ∀ {x:TV} {xs:List TV} {y:TV} {ys:List TV},SimL H (x::xs) X→SimL H (y::ys) Y→ ∀p1 p2,cellEqV k x y=some p1→cellsEqV ks xs ys=some p2→((p1∧p2)↔p)→cellsEq (k::ks) X Y K:=by
   intro x xs y ys hx hy p1 p2 h1 h2 hp
   simp only [SimL] at hx hy
   obtain ⟨a,asx,rfl,hx1,hx2⟩:=hx
   obtain ⟨b,bs,rfl,hy1,hy2⟩:=hy
   exact one h1 hx1 hy1 fun K' hK'=>ih h2 hx2 hy2 fun r hr=>(hK' r).2 fun b hb=>hk _ (by rw [Bool.and_eq_true,hb,hr,hp])
  cases xs with
  | nil=>cases ys<;>simp [cellsEqV] at h
  | cons x xs=>cases ys with
   | nil=>cases ks<;>cases xs<;>simp [cellsEqV] at h
   | cons y ys=>
    cases ks with
    | nil=>
     cases xs with
     | nil=>
      cases ys with
      | nil=>
       simp only [cellsEqV] at h
       exact gen hx hy p True h rfl (by simp)
      | cons=>simp [cellsEqV] at h
     | cons=>cases ys<;>simp [cellsEqV] at h
    | cons k2 ks=>
     rw [cellsEqV] at h
     split at h<;>cases h
     rename_i p1 p2 h1 h2
     exact gen hx hy _ _ h1 h2 Iff.rfl
     all_goals (intro a b c;cases a)
theorem binI_sound {q:EqQ} {op:BinOp} {k k':IntKind} {a b:Int} {ps:List Prop} {y:TV} (h:binI op k a k' b=some (ps,y)) (hp:AllP ps) (hk: ∀z,SimV H y z→K z):vcBin q op (.int k a) (.int k' b) K:=by
 have rest:(∀op',op=op'→op'≠ .shl∧op'≠ .shr)→(match kEq k k' with | some _=>intBinV op k a b | none=>none)=some (ps,y)→k=k'∧intBin op k a b K:=fun _ h=>by
  split at h
  ·rename_i hkk
   exact ⟨kEq_eq hkk,intBinV_sound h hp hk⟩
  ·cases h
 cases op<;>simp only [binI] at h<;>simp only [vcBin]
 case shl=>cases h;exact ⟨hp.cons.1,mkI_sound hp.cons.2 hk⟩
 case shr=>cases h;exact ⟨hp.cons.1,hk _ (by simp [SimV])⟩
 all_goals exact rest (fun _ e=>by subst e;simp) h
theorem binV_sound {q:EqQ} {op:BinOp} {x y:TV} {X Y:AVal} {ps:List Prop} {z:TV} (h:binV q op x y=some (ps,z)) (hx:SimV H x X) (hy:SimV H y Y) (hp:AllP ps) (hk: ∀u,SimV H z u→K u):vcBin q op X Y K:=by
 unfold binV at h
 split at h
 ·rename_i a b
  simp only [SimV] at hx hy
  subst hx;subst hy
  split at h
  ·cases h
   simp only [vcBin,intBin]
   exact ⟨trivial,pr_sim' (by rw [decide_eq_true_eq];exact ⟨fun e=>UInt8.toNat_inj.1 (by omega),fun e=>by rw [e]⟩) hk⟩
  ·cases h
   simp only [vcBin,intBin]
   exact ⟨trivial,pr_sim' (by
    rw [Bool.not_eq_true',decide_eq_false_iff_not]
    exact ⟨fun e g=>e (by rw [g]),fun e g=>e (UInt8.toNat_inj.1 (by omega))⟩) hk⟩
  ·exact binI_sound h hp hk
 ·simp only [SimV] at hx hy;subst hx;subst hy;exact binI_sound h hp hk
 ·simp only [SimV] at hx hy;subst hx;subst hy;exact binI_sound h hp hk
 ·simp only [SimV] at hx hy;subst hx;subst hy;exact binI_sound h hp hk
 ·simp only [SimV] at hx hy;subst hx;subst hy;simp only [vcBin];exact strBinV_sound h hp hk
 ·simp only [SimV] at hx hy
  obtain ⟨xs,rfl,hx⟩:=hx
  obtain ⟨ys,rfl,hy⟩:=hy
  split at h
  ·split at h
   ·rename_i p hc
    simp only [vcBin]
    exact cellsEqV_sound hc hx hy fun r hr=>eqV_sound h hr hk
   ·cases h
  ·cases h
 ·simp only [SimV] at hx hy;subst hx;subst hy
  split at h
  ·simp only [vcBin];exact eqV_sound h (by simp) hk
  ·cases h
 ·simp only [SimV] at hx hy;subst hx;obtain ⟨_,_,_,_,_,rfl⟩:=hy
  split at h
  ·simp only [vcBin];exact eqV_sound h (by simp) hk
  ·cases h
 ·simp only [SimV] at hx hy;subst hx;obtain ⟨_,_,_,_,_,_,_,rfl⟩:=hy
  split at h
  ·simp only [vcBin];exact eqV_sound h (by simp) hk
  ·cases h
 ·simp only [SimV] at hx hy;subst hx;obtain ⟨_,rfl,_⟩:=hy
  split at h
  ·simp only [vcBin];exact eqV_sound h (by simp) hk
  ·cases h
 ·simp only [SimV] at hx hy;subst hy;obtain ⟨_,_,_,_,_,rfl⟩:=hx
  split at h
  ·simp only [vcBin];exact eqV_sound h (by simp) hk
  ·cases h
 ·simp only [SimV] at hx hy;subst hy;obtain ⟨_,_,_,_,_,_,_,rfl⟩:=hx
  split at h
  ·simp only [vcBin];exact eqV_sound h (by simp) hk
  ·cases h
 ·simp only [SimV] at hx hy;subst hy;obtain ⟨_,rfl,_⟩:=hx
  split at h
  ·simp only [vcBin];exact eqV_sound h (by simp) hk
  ·cases h
 ·simp only [SimV] at hx hy;subst hx;subst hy
  split at h
  ·simp only [vcBin];exact eqV_sound h (by simp) hk
  ·cases h
 ·simp only [SimV] at hx hy;subst hy;obtain ⟨_,rfl,_⟩:=hx
  split at h
  ·simp only [vcBin];exact eqV_sound h (by simp) hk
  ·cases h
 ·split at h
  ·split at h
   ·rename_i a b h1 h2
    obtain ⟨u,rfl,hu⟩:=asQ_sim h1 hx
    obtain ⟨v,rfl,hv⟩:=asQ_sim h2 hy
    simp only [vcBin]
    exact eqV_sound h (by rw [decide_eq_true_eq,Bool.eq_iff_iff,hu,hv]) hk
   ·cases h
  ·cases h
theorem iteP_pos {α:Type} {p:Prop} {a b:α} (h:p):iteP p a b=a:=by unfold iteP;exact if_pos h
theorem iteP_neg {α:Type} {p:Prop} {a b:α} (h: ¬p):iteP p a b=b:=by unfold iteP;exact if_neg h
theorem sameC_eq {v u:Value} (h:sameC v u=true):v=u:=by
 unfold sameC at h
 split at h
 ·rw [Bool.and_eq_true] at h;rw [beq_eq h.1,beq_eq h.2]
 ·cases h
mutual
theorem sameV_eq: ∀ {x y:TV},sameV x y=true→x=y
 | x,y,h=>by
  unfold sameV at h
  split at h<;>first | (cases h;done) | rfl | skip
  ·rw [beq_eq h]
  ·rw [Bool.and_eq_true] at h;rw [beq_eq h.1,beq_eq h.2]
  ·rw [Bool.and_eq_true] at h;rw [beq_eq h.1,sameL_eq h.2]
  ·rw [sameL_eq h]
  ·rw [sameL_eq h]
  ·rw [sameL_eq h]
  ·rw [sameC_eq h]
theorem sameL_eq: ∀ {xs ys:List TV},sameL xs ys=true→xs=ys
 | [],[],_=>rfl
 | [],_::_,h=>by simp [sameL] at h
 | _::_,[],h=>by simp [sameL] at h
 | x::xs,y::ys,h=>by
  simp only [sameL,Bool.and_eq_true] at h
  rw [sameV_eq h.1,sameL_eq h.2]
end
theorem pickS_sound {p:Prop} {x y z:TV} (h:pickS p x y=some z):(p→ ∀u,SimV H x u→SimV H z u)∧(¬p→ ∀u,SimV H y u→SimV H z u):=by
 unfold pickS at h
 split at h
 case h_1=>cases h;exact ⟨fun hp u hu=>by simp only [SimV] at*;exact ⟨true,hu,by simp [hp]⟩,fun hp u hu=>by simp only [SimV] at*;exact ⟨false,hu,by simp [hp]⟩⟩
 case h_2=>cases h;exact ⟨fun hp u hu=>by simp only [SimV] at*;exact ⟨false,hu,by simp [hp]⟩,fun hp u hu=>by simp only [SimV] at*;exact ⟨true,hu,by simp [hp]⟩⟩
 case h_3=>cases h;exact ⟨fun _ _ h=>h,fun _ _ h=>h⟩
 case h_4=>cases h;exact ⟨fun _ _ h=>h,fun _ _ h=>h⟩
 case h_5=>
  split at h<;>cases h
  rename_i hk
  have hk:=kEq_eq hk
  subst hk
  exact ⟨fun hp u hu=>by simp only [SimV,iteP_pos hp] at*;exact hu,fun hp u hu=>by simp only [SimV,iteP_neg hp] at*;exact hu⟩
 case h_6=>cases h;exact ⟨fun hp u hu=>by simp only [SimV,iteP_pos hp] at*;exact hu,fun hp u hu=>by simp only [SimV,iteP_neg hp] at*;exact hu⟩
 case h_7=>cases h;exact ⟨fun hp u hu=>by simp only [SimV,iteP_pos hp] at*;exact hu,fun hp u hu=>by simp only [SimV,iteP_neg hp] at*;exact hu⟩
 case h_8=>cases h;exact ⟨fun hp u hu=>by simp only [SimV,iteP_pos hp] at*;exact hu,fun hp u hu=>by simp only [SimV,iteP_neg hp] at*;exact hu⟩
 case h_9=>cases h;exact ⟨fun hp u hu=>by simp only [SimV,iteP_pos hp] at*;exact hu,fun hp u hu=>by simp only [SimV,iteP_neg hp] at*;exact hu⟩
 case h_10=>
  split at h<;>cases h
  rename_i b hb
  refine ⟨fun hp u hu=>?_,fun hp u hu=>?_⟩
  ·simp only [SimV] at*;exact ⟨true,hu,by simp [hp]⟩
  ·obtain ⟨c,rfl,hc⟩:=asQ_sim hb hu
   simp only [SimV];exact ⟨c,rfl,by simp [hc,hp]⟩
 case h_11=>
  split at h<;>cases h
  rename_i b hb
  refine ⟨fun hp u hu=>?_,fun hp u hu=>?_⟩
  ·obtain ⟨c,rfl,hc⟩:=asQ_sim hb hu
   simp only [SimV];exact ⟨c,rfl,by simp [hc,hp]⟩
  ·simp only [SimV] at*;exact ⟨false,hu,by simp [hp]⟩
 case h_12=>
  split at h<;>cases h
  rename_i b hb
  refine ⟨fun hp u hu=>?_,fun hp u hu=>?_⟩
  ·simp only [SimV] at*;exact ⟨false,hu,by simp [hp]⟩
  ·obtain ⟨c,rfl,hc⟩:=asQ_sim hb hu
   simp only [SimV];exact ⟨c,rfl,by simp [hc,hp]⟩
 case h_13=>
  split at h
  ·cases h
   rename_i a b ha hb
   refine ⟨fun hp u hu=>?_,fun hp u hu=>?_⟩
   ·obtain ⟨c,rfl,hc⟩:=asQ_sim ha hu
    simp only [SimV];exact ⟨c,rfl,by simp [hc,hp]⟩
   ·obtain ⟨c,rfl,hc⟩:=asQ_sim hb hu
    simp only [SimV];exact ⟨c,rfl,by simp [hc,hp]⟩
  ·split at h<;>cases h
   rename_i hs
   have:=sameV_eq hs
   subst this
   exact ⟨fun _ _ h=>h,fun _ _ h=>h⟩
theorem pickL_sound {p:Prop}: ∀ {xs ys zs:List TV},pickL p xs ys=some zs→(p→ ∀u,SimL H xs u→SimL H zs u)∧(¬p→ ∀u,SimL H ys u→SimL H zs u)
 | [],[],_,h=>by simp only [pickL,Option.some.injEq] at h;subst h;exact ⟨fun _ _ h=>h,fun _ _ h=>h⟩
 | [],_::_,_,h=>by simp [pickL] at h
 | _::_,[],_,h=>by simp [pickL] at h
 | x::xs,y::ys,zs,h=>by
  simp only [pickL] at h
  split at h<;>cases h
  rename_i h1 h2
  have g1:=pickS_sound (H:=H) h1
  have g2:=pickL_sound h2
  refine ⟨fun hp u hu=>?_,fun hp u hu=>?_⟩<;>simp only [SimL] at hu ⊢ <;>obtain ⟨a,asx,rfl,e1,e2⟩:=hu
  ·exact ⟨a,asx,rfl,g1.1 hp _ e1,g2.1 hp _ e2⟩
  ·exact ⟨a,asx,rfl,g1.2 hp _ e1,g2.2 hp _ e2⟩
theorem pickV_sound {p:Prop} {x y z:TV} (h:pickV p x y=some z):(p→ ∀u,SimV H x u→SimV H z u)∧(¬p→ ∀u,SimV H y u→SimV H z u):=by
 unfold pickV at h
 split at h
 ·split at h
  ·cases h
   rename_i hs
   rw [←sameV_eq hs]
   exact ⟨fun _ _ h=>h,fun _ _ h=>h⟩
  ·split at h<;>cases h
   rename_i hl
   have g:=pickL_sound (H:=H) hl
   refine ⟨fun hp u hu=>?_,fun hp u hu=>?_⟩<;>simp only [SimV] at hu ⊢ <;>obtain ⟨a,rfl,e1⟩:=hu
   ·exact ⟨a,rfl,g.1 hp _ e1⟩
   ·exact ⟨a,rfl,g.2 hp _ e1⟩
 ·exact pickS_sound h
end
end Go.Vc
end
