/- Part of the proof of topEngine_holds: the whole is true of every input. Conditions: none. -/
import Derived.Test.YtlibocgedgdmlaaGreatQ4
set_option linter.all false
section
namespace Go.Vc
def FW (ps:List Prop):Prop:= ∀p∈ps,p
theorem EC {q:Prop}: ∀ {ps:List Prop},Of ps q↔FW ps/\q
 | []=>by simp [Of,FW]
 | p::ps=>by simp only [Of,EC,FW,List.mem_cons,forall_eq_or_imp,and_assoc]
theorem FW.cons {p:Prop} {ps:List Prop} (h:FW (p::ps)):p/\FW ps:=⟨h p (by simp),fun q hq=>h q (by simp [hq])⟩
theorem Od {c:Prop}: ∀ {ps:List Prop},FW (N6 c ps)↔(c->FW ps)
 | []=>by simp [N6,FW]
 | p::ps=>by
  have:= @Od c ps;simp only [FW,N6,List.mem_cons,forall_eq_or_imp] at*;rw [this];exact ⟨fun h hc=>⟨h.1 hc,h.2 hc⟩,fun h=>⟨fun hc=>(h hc).1,fun hc=>(h hc).2⟩⟩
section
variable {H : HF} {K : AA -> Prop}
theorem HP {k:IntKind} {n:Int} (hp:FW (lD k n).1) (hk: ∀z,AE H (lD k n).2 z->K z):dx k n K:=by
 cases k<;>simp only [lD] at hp hk<;>simp only [dx]
 case i64=>exact ⟨hp.cons.1,hk _ (by simp [AE])⟩
 all_goals exact hk _ (by simp [AE])
theorem uM {p:Prop} [Decidable p] (hk: ∀z,AE H (.pr p) z->K z):K (.bool (decide p)):=hk _ (by simp only [AE];exact ⟨_,rfl,by simp⟩)
theorem MR {p:Prop} {b:Bool} (hb:b=true↔p) (hk: ∀z,AE H (.pr p) z->K z):K (.bool b):=hk _ (by simp only [AE];exact ⟨_,rfl,hb⟩)
theorem WM {op:BinOp} {k:IntKind} {a b:Int} {ps:List Prop} {y:TV} (h:T8 op k a b=some (ps,y)) (hp:FW ps) (hk: ∀z,AE H y z->K z):IJ op k a b K:=by
 cases op<;>simp only [T8,Option.some.injEq] at h<;>first | (cases h;done) | skip
 all_goals simp only [IJ]
 case add=>have e1:=congrArg Prod.fst h;have e2:=congrArg Prod.snd h;simp only at e1 e2;subst e1;subst e2;exact HP hp hk
 case sub=>have e1:=congrArg Prod.fst h;have e2:=congrArg Prod.snd h;simp only at e1 e2;subst e1;subst e2;exact HP hp hk
 case mul=>have e1:=congrArg Prod.fst h;have e2:=congrArg Prod.snd h;simp only at e1 e2;subst e1;subst e2;exact HP hp hk
 case quo=>cases h;exact ⟨hp.cons.1,HP hp.cons.2 hk⟩
 case rem=>cases h;exact ⟨hp.cons.1,hk _ (by simp [AE])⟩
 all_goals cases h
 all_goals first
  | exact uM hk
  | exact MR (by simp) hk
  | exact hk _ (by simp [AE])
theorem Wi {op:BinOp} {a b:List UInt8} {ps:List Prop} {y:TV} (h:Zc op a b=some (ps,y)) (hp:FW ps) (hk: ∀z,AE H y z->K z):Me op a b K:=by
 cases op<;>simp only [Zc] at h<;>cases h<;>simp only [Me]
 case add=>exact ⟨hp.cons.1,hk _ (by simp [AE])⟩
 all_goals exact MR (by simp) hk
theorem jx {x:TV} {p:Prop} {y:AA} (h:mS x=some p) (hs:AE H x y) {K:Bool->Prop} (hk: ∀b,(b=true↔p)->K b):jh y K:=by
 cases x<;>simp only [mS] at h<;>cases h<;>simp only [AE] at hs
 case tt=>subst hs;exact hk true (by simp)
 case ff=>subst hs;exact hk false (by simp)
 case bb=>subst hs;exact hk _ Iff.rfl
 case pr=>obtain ⟨b,rfl,hb⟩:=hs;exact hk b hb
 case gd=>
  rcases hs with ⟨rfl,hp⟩ | ⟨rfl,hp⟩
  ·exact hk true (by simp [hp])
  ·exact hk false (by simp [hp])
theorem Ib {x:TV} {p:Prop} {y:AA} (h:jy x=some p) (hs:AE H x y): ∃b,y= .bool b/\(b=true↔p):=by
 cases x<;>simp only [jy] at h<;>cases h<;>simp only [AE] at hs
 case tt=>subst hs;exact ⟨true,rfl,by simp⟩
 case ff=>subst hs;exact ⟨false,rfl,by simp⟩
 case bb=>subst hs;exact ⟨_,rfl,Iff.rfl⟩
 case pr=>exact hs
theorem Et {op:BinOp} {p:Prop} {ps:List Prop} {y:TV} {r:Bool} (h:kM op p=some (ps,y)) (hr:r=true↔p) (hk: ∀z,AE H y z->K z):W6 op r K:=by
 cases op<;>simp only [kM] at h<;>cases h<;>simp only [W6]
 ·exact MR hr hk
 ·exact MR (by simp [<-hr]) hk
theorem UK: ∀ {ks:List FK} {xs ys:List TV} {p:Prop} {X Y:List AA} {K:Bool->Prop},Fp ks xs ys=some p->AJ H xs X->AJ H ys Y->(∀r:Bool,(r=true↔p)->K r)->A8 ks X Y K:=by
 have one: ∀ {k:FK} {x y:TV} {p:Prop} {X Y:AA} {ks:List FK} {XS YS:List AA} {K:Bool->Prop},N_ k x y=some p->AE H x X->AE H y Y->
   (∀K':Bool->Prop,(∀r,K' r↔ ∀b:Bool,(b=true↔p)->K (b && r))->A8 ks XS YS K')->A8 (k::ks) (X::XS) (Y::YS) K:=by
  intro k x y p X Y ks XS YS K h hx hy hc;have key: ∀b:Bool,(b=true↔p)->A8 ks XS YS fun r=>K (b && r):=fun b hb=>hc _ fun r=>⟨fun h b' hb'=>by
   have:b'=b:=by rw [Bool.eq_iff_iff,hb,hb']
   rw [this];exact h,fun h=>h b hb⟩
  cases k<;>simp only [N_] at h
  ·split at h
   ·rename_i k1 a k2 b h1 h2;split at h<;>cases h;rename_i hk;have hk:=G_ hk;subst hk;rw [Eb h1 hx,Eb h2 hy];simp only [A8];exact ⟨trivial,key _ (by simp)⟩
   ·cases h
  ·split at h
   ·rename_i a b h1 h2;cases h;unfold N_.decAS0 at h1 h2;split at h1<;>cases h1;split at h2<;>cases h2;simp only [AE] at hx hy;subst hx;subst hy;simp only [A8];exact key _ (by simp)
   ·cases h
  ·split at h
   ·rename_i a b h1 h2;cases h;obtain ⟨u,rfl,hu⟩:=Ib h1 hx;obtain ⟨v,rfl,hv⟩:=Ib h2 hy;simp only [A8];exact key _ (by rw [decide_eq_true_eq,Bool.eq_iff_iff,hu,hv])
   ·cases h
 intro ks
 induction ks with
 | nil=>
  intro xs ys p X Y K h hx hy hk;cases xs<;>cases ys<;>simp only [Fp] at h<;>cases h;simp only [AJ] at hx hy;subst hx;subst hy;exact hk true (by simp)
 | cons k ks ih=>
  intro xs ys p X Y K h hx hy hk;have gen: ∀ {x:TV} {xs:List TV} {y:TV} {ys:List TV},AJ H (x::xs) X->AJ H (y::ys) Y-> ∀p1 p2,N_ k x y=some p1->Fp ks xs ys=some p2->((p1/\p2)↔p)->A8 (k::ks) X Y K:=by
   intro x xs y ys hx hy p1 p2 h1 h2 hp;simp only [AJ] at hx hy;obtain ⟨a,xP,rfl,hx1,hx2⟩:=hx;obtain ⟨b,bs,rfl,hy1,hy2⟩:=hy;exact one h1 hx1 hy1 fun K' hK'=>ih h2 hx2 hy2 fun r hr=>(hK' r).2 fun b hb=>hk _ (by rw [Bool.and_eq_true,hb,hr,hp])
  cases xs with
  | nil=>cases ys<;>simp [Fp] at h
  | cons x xs=>cases ys with
   | nil=>cases ks<;>cases xs<;>simp [Fp] at h
   | cons y ys=>
    cases ks with
    | nil=>
     cases xs with
     | nil=>
      cases ys with
      | nil=>
       simp only [Fp] at h;exact gen hx hy p True h rfl (by simp)
      | cons=>simp [Fp] at h
     | cons=>cases ys<;>simp [Fp] at h
    | cons k2 ks=>
     rw [Fp] at h;split at h<;>cases h;rename_i p1 p2 h1 h2;exact gen hx hy _ _ h1 h2 Iff.rfl;all_goals (intro a b c;cases a)
theorem L9 {q:jm} {op:BinOp} {k k':IntKind} {a b:Int} {ps:List Prop} {y:TV} (h:j5 op k a k' b=some (ps,y)) (hp:FW ps) (hk: ∀z,AE H y z->K z):GS q op (.int k a) (.int k' b) K:=by
 have rest:(∀op',op=op'->op'≠ .shl/\op'≠ .shr)->(match fQ k k' with | some _=>T8 op k a b | none=>none)=some (ps,y)->k=k'/\IJ op k a b K:=fun _ h=>by
  split at h
  ·rename_i hkk;exact ⟨G_ hkk,WM h hp hk⟩
  ·cases h
 cases op<;>simp only [j5] at h<;>simp only [GS]
 case shl=>cases h;exact ⟨hp.cons.1,HP hp.cons.2 hk⟩
 case shr=>cases h;exact ⟨hp.cons.1,hk _ (by simp [AE])⟩
 all_goals exact rest (fun _ e=>by subst e;simp) h
theorem eI {q:jm} {op:BinOp} {x y:TV} {X Y:AA} {ps:List Prop} {z:TV} (h:tc q op x y=some (ps,z)) (hx:AE H x X) (hy:AE H y Y) (hp:FW ps) (hk: ∀u,AE H z u->K u):GS q op X Y K:=by
 unfold tc at h;split at h
 ·rename_i a b;simp only [AE] at hx hy;subst hx;subst hy;split at h
  ·cases h;simp only [GS,IJ];exact ⟨trivial,MR (by rw [decide_eq_true_eq];exact ⟨fun e=>UInt8.toNat_inj.1 (by omega),fun e=>by rw [e]⟩) hk⟩
  ·cases h;simp only [GS,IJ];exact ⟨trivial,MR (by
    rw [Bool.not_eq_true',decide_eq_false_iff_not];exact ⟨fun e g=>e (by rw [g]),fun e g=>e (UInt8.toNat_inj.1 (by omega))⟩) hk⟩
  ·exact L9 h hp hk
 ·simp only [AE] at hx hy;subst hx;subst hy;exact L9 h hp hk
 ·simp only [AE] at hx hy;subst hx;subst hy;exact L9 h hp hk
 ·simp only [AE] at hx hy;subst hx;subst hy;exact L9 h hp hk
 ·simp only [AE] at hx hy;subst hx;subst hy;simp only [GS];exact Wi h hp hk
 ·simp only [AE] at hx hy;obtain ⟨xs,rfl,hx⟩:=hx;obtain ⟨ys,rfl,hy⟩:=hy;split at h
  ·split at h
   ·rename_i p hc;simp only [GS];exact UK hc hx hy fun r hr=>Et h hr hk
   ·cases h
  ·cases h
 ·simp only [AE] at hx hy;subst hx;subst hy;split at h
  ·simp only [GS];exact Et h (by simp) hk
  ·cases h
 ·simp only [AE] at hx hy;subst hx;obtain ⟨_,_,_,_,_,rfl⟩:=hy;split at h
  ·simp only [GS];exact Et h (by simp) hk
  ·cases h
 ·simp only [AE] at hx hy;subst hx;obtain ⟨_,_,_,_,_,_,_,rfl⟩:=hy;split at h
  ·simp only [GS];exact Et h (by simp) hk
  ·cases h
 ·simp only [AE] at hx hy;subst hx;obtain ⟨_,rfl,_⟩:=hy;split at h
  ·simp only [GS];exact Et h (by simp) hk
  ·cases h
 ·simp only [AE] at hx hy;subst hy;obtain ⟨_,_,_,_,_,rfl⟩:=hx;split at h
  ·simp only [GS];exact Et h (by simp) hk
  ·cases h
 ·simp only [AE] at hx hy;subst hy;obtain ⟨_,_,_,_,_,_,_,rfl⟩:=hx;split at h
  ·simp only [GS];exact Et h (by simp) hk
  ·cases h
 ·simp only [AE] at hx hy;subst hy;obtain ⟨_,rfl,_⟩:=hx;split at h
  ·simp only [GS];exact Et h (by simp) hk
  ·cases h
 ·simp only [AE] at hx hy;subst hx;subst hy;split at h
  ·simp only [GS];exact Et h (by simp) hk
  ·cases h
 ·simp only [AE] at hx hy;subst hy;obtain ⟨_,rfl,_⟩:=hx;split at h
  ·simp only [GS];exact Et h (by simp) hk
  ·cases h
 ·split at h
  ·split at h
   ·rename_i a b h1 h2;obtain ⟨u,rfl,hu⟩:=Ib h1 hx;obtain ⟨v,rfl,hv⟩:=Ib h2 hy;simp only [GS];exact Et h (by rw [decide_eq_true_eq,Bool.eq_iff_iff,hu,hv]) hk
   ·cases h
  ·cases h
theorem LS {α:Type} {p:Prop} {a b:α} (h:p):K0 p a b=a:=by unfold K0;exact if_pos h
theorem LR {α:Type} {p:Prop} {a b:α} (h: ¬p):K0 p a b=b:=by unfold K0;exact if_neg h
theorem pY {v u:Value} (h:pX v u=true):v=u:=by
 unfold pX at h;split at h
 ·rw [Bool.and_eq_true] at h;rw [beq_eq h.1,beq_eq h.2]
 ·cases h
mutual
theorem Lh: ∀ {x y:TV},TF x y=true->x=y
 | x,y,h=>by
  unfold TF at h;split at h<;>first | (cases h;done) | rfl | skip
  ·rw [beq_eq h]
  ·rw [Bool.and_eq_true] at h;rw [beq_eq h.1,beq_eq h.2]
  ·rw [Bool.and_eq_true] at h;rw [beq_eq h.1,Nq h.2]
  ·rw [Nq h]
  ·rw [Nq h]
  ·rw [Nq h]
  ·rw [pY h]
theorem Nq: ∀ {xs ys:List TV},Q7 xs ys=true->xs=ys
 | [],[],_=>rfl
 | [],_::_,h=>by simp [Q7] at h
 | _::_,[],h=>by simp [Q7] at h
 | x::xs,y::ys,h=>by
  simp only [Q7,Bool.and_eq_true] at h;rw [Lh h.1,Nq h.2]
end
theorem TC {p:Prop} {x y z:TV} (h:jJ p x y=some z):(p-> ∀u,AE H x u->AE H z u)/\(¬p-> ∀u,AE H y u->AE H z u):=by
 unfold jJ at h;split at h
 case h_1=>cases h;exact ⟨fun hp u hu=>by simp only [AE] at*;exact ⟨true,hu,by simp [hp]⟩,fun hp u hu=>by simp only [AE] at*;exact ⟨false,hu,by simp [hp]⟩⟩
 case h_2=>cases h;exact ⟨fun hp u hu=>by simp only [AE] at*;exact ⟨false,hu,by simp [hp]⟩,fun hp u hu=>by simp only [AE] at*;exact ⟨true,hu,by simp [hp]⟩⟩
 case h_3=>cases h;exact ⟨fun _ _ h=>h,fun _ _ h=>h⟩
 case h_4=>cases h;exact ⟨fun _ _ h=>h,fun _ _ h=>h⟩
 case h_5=>
  split at h<;>cases h;rename_i hk;have hk:=G_ hk;subst hk;exact ⟨fun hp u hu=>by simp only [AE,LS hp] at*;exact hu,fun hp u hu=>by simp only [AE,LR hp] at*;exact hu⟩
 case h_6=>cases h;exact ⟨fun hp u hu=>by simp only [AE,LS hp] at*;exact hu,fun hp u hu=>by simp only [AE,LR hp] at*;exact hu⟩
 case h_7=>cases h;exact ⟨fun hp u hu=>by simp only [AE,LS hp] at*;exact hu,fun hp u hu=>by simp only [AE,LR hp] at*;exact hu⟩
 case h_8=>cases h;exact ⟨fun hp u hu=>by simp only [AE,LS hp] at*;exact hu,fun hp u hu=>by simp only [AE,LR hp] at*;exact hu⟩
 case h_9=>cases h;exact ⟨fun hp u hu=>by simp only [AE,LS hp] at*;exact hu,fun hp u hu=>by simp only [AE,LR hp] at*;exact hu⟩
 case h_10=>
  split at h<;>cases h;rename_i b hb;refine ⟨fun hp u hu=>?_,fun hp u hu=>?_⟩
  ·simp only [AE] at*;exact ⟨true,hu,by simp [hp]⟩
  ·obtain ⟨c,rfl,hc⟩:=Ib hb hu;simp only [AE];exact ⟨c,rfl,by simp [hc,hp]⟩
 case h_11=>
  split at h<;>cases h;rename_i b hb;refine ⟨fun hp u hu=>?_,fun hp u hu=>?_⟩
  ·obtain ⟨c,rfl,hc⟩:=Ib hb hu;simp only [AE];exact ⟨c,rfl,by simp [hc,hp]⟩
  ·simp only [AE] at*;exact ⟨false,hu,by simp [hp]⟩
 case h_12=>
  split at h<;>cases h;rename_i b hb;refine ⟨fun hp u hu=>?_,fun hp u hu=>?_⟩
  ·simp only [AE] at*;exact ⟨false,hu,by simp [hp]⟩
  ·obtain ⟨c,rfl,hc⟩:=Ib hb hu;simp only [AE];exact ⟨c,rfl,by simp [hc,hp]⟩
 case h_13=>
  split at h
  ·cases h;rename_i a b ha hb;refine ⟨fun hp u hu=>?_,fun hp u hu=>?_⟩
   ·obtain ⟨c,rfl,hc⟩:=Ib ha hu;simp only [AE];exact ⟨c,rfl,by simp [hc,hp]⟩
   ·obtain ⟨c,rfl,hc⟩:=Ib hb hu;simp only [AE];exact ⟨c,rfl,by simp [hc,hp]⟩
  ·split at h<;>cases h;rename_i hs;have:=Lh hs;subst this;exact ⟨fun _ _ h=>h,fun _ _ h=>h⟩
theorem TA {p:Prop}: ∀ {xs ys zs:List TV},VS p xs ys=some zs->(p-> ∀u,AJ H xs u->AJ H zs u)/\(¬p-> ∀u,AJ H ys u->AJ H zs u)
 | [],[],_,h=>by simp only [VS,Option.some.injEq] at h;subst h;exact ⟨fun _ _ h=>h,fun _ _ h=>h⟩
 | [],_::_,_,h=>by simp [VS] at h
 | _::_,[],_,h=>by simp [VS] at h
 | x::xs,y::ys,zs,h=>by
  simp only [VS] at h;split at h<;>cases h;rename_i h1 h2;have g1:=TC (H:=H) h1;have g2:=TA h2;refine ⟨fun hp u hu=>?_,fun hp u hu=>?_⟩<;>simp only [AJ] at hu |- <;>obtain ⟨a,xP,rfl,e1,e2⟩:=hu
  ·exact ⟨a,xP,rfl,g1.1 hp _ e1,g2.1 hp _ e2⟩
  ·exact ⟨a,xP,rfl,g1.2 hp _ e1,g2.2 hp _ e2⟩
theorem Ix {p:Prop} {x y z:TV} (h:PC p x y=some z):(p-> ∀u,AE H x u->AE H z u)/\(¬p-> ∀u,AE H y u->AE H z u):=by
 unfold PC at h;split at h
 ·split at h
  ·cases h;rename_i hs;rw [<-Lh hs];exact ⟨fun _ _ h=>h,fun _ _ h=>h⟩
  ·split at h<;>cases h;rename_i hl;have g:=TA (H:=H) hl;refine ⟨fun hp u hu=>?_,fun hp u hu=>?_⟩<;>simp only [AE] at hu |- <;>obtain ⟨a,rfl,e1⟩:=hu
   ·exact ⟨a,rfl,g.1 hp _ e1⟩
   ·exact ⟨a,rfl,g.2 hp _ e1⟩
 ·exact TC h
end
end Go.Vc
end
