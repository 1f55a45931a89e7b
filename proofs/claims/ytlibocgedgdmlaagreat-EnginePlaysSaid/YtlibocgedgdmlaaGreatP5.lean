/- Part of the proof of enginePlays_holds: the whole is true of every input. Conditions: none. -/
import Derived.Test.YtlibocgedgdmlaaGreatP4
set_option linter.all false
section
namespace Go.Vc
def GI (ps:List Prop):Prop:= ∀p∈ps,p
theorem Ef {q:Prop}: ∀ {ps:List Prop},PJ ps q↔GI ps/\q
 | []=>by simp [PJ,GI]
 | p::ps=>by simp only [PJ,Ef,GI,List.mem_cons,forall_eq_or_imp,and_assoc]
theorem GI.cons {p:Prop} {ps:List Prop} (h:GI (p::ps)):p/\GI ps:=⟨h p (by simp),fun q hq=>h q (by simp [hq])⟩
theorem PH {c:Prop}: ∀ {ps:List Prop},GI (Oh c ps)↔(c->GI ps)
 | []=>by simp [Oh,GI]
 | p::ps=>by
  have:= @PH c ps;simp only [GI,Oh,List.mem_cons,forall_eq_or_imp] at*;rw [this];exact ⟨fun h hc=>⟨h.1 hc,h.2 hc⟩,fun h=>⟨fun hc=>(h hc).1,fun hc=>(h hc).2⟩⟩
section
variable {H : HF} {K : AA -> Prop}
theorem IH {k:IntKind} {n:Int} (hp:GI (nA k n).1) (hk: ∀z,AE H (nA k n).2 z->K z):f_ k n K:=by
 cases k<;>simp only [nA] at hp hk<;>simp only [f_]
 case i64=>exact ⟨hp.cons.1,hk _ (by simp [AE])⟩
 all_goals exact hk _ (by simp [AE])
theorem vL {p:Prop} [Decidable p] (hk: ∀z,AE H (.pr p) z->K z):K (.bool (decide p)):=hk _ (by simp only [AE];exact ⟨_,rfl,by simp⟩)
theorem NB {p:Prop} {b:Bool} (hb:b=true↔p) (hk: ∀z,AE H (.pr p) z->K z):K (.bool b):=hk _ (by simp only [AE];exact ⟨_,rfl,hb⟩)
theorem Xd {op:BinOp} {k:IntKind} {a b:Int} {ps:List Prop} {y:TV} (h:VN op k a b=some (ps,y)) (hp:GI ps) (hk: ∀z,AE H y z->K z):JE op k a b K:=by
 cases op<;>simp only [VN,Option.some.injEq] at h<;>first | (cases h;done) | skip
 all_goals simp only [JE]
 case add=>have e1:=congrArg Prod.fst h;have e2:=congrArg Prod.snd h;simp only at e1 e2;subst e1;subst e2;exact IH hp hk
 case sub=>have e1:=congrArg Prod.fst h;have e2:=congrArg Prod.snd h;simp only at e1 e2;subst e1;subst e2;exact IH hp hk
 case mul=>have e1:=congrArg Prod.fst h;have e2:=congrArg Prod.snd h;simp only at e1 e2;subst e1;subst e2;exact IH hp hk
 case quo=>cases h;exact ⟨hp.cons.1,IH hp.cons.2 hk⟩
 case rem=>cases h;exact ⟨hp.cons.1,hk _ (by simp [AE])⟩
 all_goals cases h
 all_goals first
  | exact vL hk
  | exact NB (by simp) hk
  | exact hk _ (by simp [AE])
theorem X5 {op:BinOp} {a b:List UInt8} {ps:List Prop} {y:TV} (h:bU op a b=some (ps,y)) (hp:GI ps) (hk: ∀z,AE H y z->K z):NJ op a b K:=by
 cases op<;>simp only [bU] at h<;>cases h<;>simp only [NJ]
 case add=>exact ⟨hp.cons.1,hk _ (by simp [AE])⟩
 all_goals exact NB (by simp) hk
theorem lU {x:TV} {p:Prop} {y:AA} (h:oY x=some p) (hs:AE H x y) {K:Bool->Prop} (hk: ∀b,(b=true↔p)->K b):lJ y K:=by
 cases x<;>simp only [oY] at h<;>cases h<;>simp only [AE] at hs
 case tt=>subst hs;exact hk true (by simp)
 case ff=>subst hs;exact hk false (by simp)
 case bb=>subst hs;exact hk _ Iff.rfl
 case pr=>obtain ⟨b,rfl,hb⟩:=hs;exact hk b hb
 case gd=>
  rcases hs with ⟨rfl,hp⟩ | ⟨rfl,hp⟩
  ·exact hk true (by simp [hp])
  ·exact hk false (by simp [hp])
theorem JR {x:TV} {p:Prop} {y:AA} (h:lV x=some p) (hs:AE H x y): ∃b,y= .bool b/\(b=true↔p):=by
 cases x<;>simp only [lV] at h<;>cases h<;>simp only [AE] at hs
 case tt=>subst hs;exact ⟨true,rfl,by simp⟩
 case ff=>subst hs;exact ⟨false,rfl,by simp⟩
 case bb=>subst hs;exact ⟨_,rfl,Iff.rfl⟩
 case pr=>exact hs
theorem FV {op:BinOp} {p:Prop} {ps:List Prop} {y:TV} {r:Bool} (h:mA op p=some (ps,y)) (hr:r=true↔p) (hk: ∀z,AE H y z->K z):YR op r K:=by
 cases op<;>simp only [mA] at h<;>cases h<;>simp only [YR]
 ·exact NB hr hk
 ·exact NB (by simp [<-hr]) hk
theorem Vf: ∀ {ks:List FK} {xs ys:List TV} {p:Prop} {X Y:List AA} {K:Bool->Prop},Ga ks xs ys=some p->AN H xs X->AN H ys Y->(∀r:Bool,(r=true↔p)->K r)->BC ks X Y K:=by
 have one: ∀ {k:FK} {x y:TV} {p:Prop} {X Y:AA} {ks:List FK} {XS YS:List AA} {K:Bool->Prop},On k x y=some p->AE H x X->AE H y Y->
   (∀K':Bool->Prop,(∀r,K' r↔ ∀b:Bool,(b=true↔p)->K (b && r))->BC ks XS YS K')->BC (k::ks) (X::XS) (Y::YS) K:=by
  intro k x y p X Y ks XS YS K h hx hy hc;have key: ∀b:Bool,(b=true↔p)->BC ks XS YS fun r=>K (b && r):=fun b hb=>hc _ fun r=>⟨fun h b' hb'=>by
   have:b'=b:=by rw [Bool.eq_iff_iff,hb,hb']
   rw [this];exact h,fun h=>h b hb⟩
  cases k<;>simp only [On] at h
  ·split at h
   ·rename_i k1 a k2 b h1 h2;split at h<;>cases h;rename_i hk;have hk:=H7 hk;subst hk;rw [E9 h1 hx,E9 h2 hy];simp only [BC];exact ⟨trivial,key _ (by simp)⟩
   ·cases h
  ·split at h
   ·rename_i a b h1 h2;cases h;unfold On.decAS0 at h1 h2;split at h1<;>cases h1;split at h2<;>cases h2;simp only [AE] at hx hy;subst hx;subst hy;simp only [BC];exact key _ (by simp)
   ·cases h
  ·split at h
   ·rename_i a b h1 h2;cases h;obtain ⟨u,rfl,hu⟩:=JR h1 hx;obtain ⟨v,rfl,hv⟩:=JR h2 hy;simp only [BC];exact key _ (by rw [decide_eq_true_eq,Bool.eq_iff_iff,hu,hv])
   ·cases h
 intro ks
 induction ks with
 | nil=>
  intro xs ys p X Y K h hx hy hk;cases xs<;>cases ys<;>simp only [Ga] at h<;>cases h;simp only [AN] at hx hy;subst hx;subst hy;exact hk true (by simp)
 | cons k ks ih=>
  intro xs ys p X Y K h hx hy hk;have gen: ∀ {x:TV} {xs:List TV} {y:TV} {ys:List TV},AN H (x::xs) X->AN H (y::ys) Y-> ∀p1 p2,On k x y=some p1->Ga ks xs ys=some p2->((p1/\p2)↔p)->BC (k::ks) X Y K:=by
   intro x xs y ys hx hy p1 p2 h1 h2 hp;simp only [AN] at hx hy;obtain ⟨a,yV,rfl,hx1,hx2⟩:=hx;obtain ⟨b,bs,rfl,hy1,hy2⟩:=hy;exact one h1 hx1 hy1 fun K' hK'=>ih h2 hx2 hy2 fun r hr=>(hK' r).2 fun b hb=>hk _ (by rw [Bool.and_eq_true,hb,hr,hp])
  cases xs with
  | nil=>cases ys<;>simp [Ga] at h
  | cons x xs=>cases ys with
   | nil=>cases ks<;>cases xs<;>simp [Ga] at h
   | cons y ys=>
    cases ks with
    | nil=>
     cases xs with
     | nil=>
      cases ys with
      | nil=>
       simp only [Ga] at h;exact gen hx hy p True h rfl (by simp)
      | cons=>simp [Ga] at h
     | cons=>cases ys<;>simp [Ga] at h
    | cons k2 ks=>
     rw [Ga] at h;split at h<;>cases h;rename_i p1 p2 h1 h2;exact gen hx hy _ _ h1 h2 Iff.rfl;all_goals (intro a b c;cases a)
theorem Mt {q:lN} {op:BinOp} {k k':IntKind} {a b:Int} {ps:List Prop} {y:TV} (h:lf op k a k' b=some (ps,y)) (hp:GI ps) (hk: ∀z,AE H y z->K z):HI q op (.int k a) (.int k' b) K:=by
 have rest:(∀op',op=op'->op'≠ .shl/\op'≠ .shr)->(match iZ k k' with | some _=>VN op k a b | none=>none)=some (ps,y)->k=k'/\JE op k a b K:=fun _ h=>by
  split at h
  ·rename_i hkk;exact ⟨H7 hkk,Xd h hp hk⟩
  ·cases h
 cases op<;>simp only [lf] at h<;>simp only [HI]
 case shl=>cases h;exact ⟨hp.cons.1,IH hp.cons.2 hk⟩
 case shr=>cases h;exact ⟨hp.cons.1,hk _ (by simp [AE])⟩
 all_goals exact rest (fun _ e=>by subst e;simp) h
theorem gN {q:lN} {op:BinOp} {x y:TV} {X Y:AA} {ps:List Prop} {z:TV} (h:uq q op x y=some (ps,z)) (hx:AE H x X) (hy:AE H y Y) (hp:GI ps) (hk: ∀u,AE H z u->K u):HI q op X Y K:=by
 unfold uq at h;split at h
 ·rename_i a b;simp only [AE] at hx hy;subst hx;subst hy;split at h
  ·cases h;simp only [HI,JE];exact ⟨trivial,NB (by rw [decide_eq_true_eq];exact ⟨fun e=>UInt8.toNat_inj.1 (by omega),fun e=>by rw [e]⟩) hk⟩
  ·cases h;simp only [HI,JE];exact ⟨trivial,NB (by
    rw [Bool.not_eq_true',decide_eq_false_iff_not];exact ⟨fun e g=>e (by rw [g]),fun e g=>e (UInt8.toNat_inj.1 (by omega))⟩) hk⟩
  ·exact Mt h hp hk
 ·simp only [AE] at hx hy;subst hx;subst hy;exact Mt h hp hk
 ·simp only [AE] at hx hy;subst hx;subst hy;exact Mt h hp hk
 ·simp only [AE] at hx hy;subst hx;subst hy;exact Mt h hp hk
 ·simp only [AE] at hx hy;subst hx;subst hy;simp only [HI];exact X5 h hp hk
 ·simp only [AE] at hx hy;obtain ⟨xs,rfl,hx⟩:=hx;obtain ⟨ys,rfl,hy⟩:=hy;split at h
  ·split at h
   ·rename_i p hc;simp only [HI];exact Vf hc hx hy fun r hr=>FV h hr hk
   ·cases h
  ·cases h
 ·simp only [AE] at hx hy;subst hx;subst hy;split at h
  ·simp only [HI];exact FV h (by simp) hk
  ·cases h
 ·simp only [AE] at hx hy;subst hx;obtain ⟨_,_,_,_,_,rfl⟩:=hy;split at h
  ·simp only [HI];exact FV h (by simp) hk
  ·cases h
 ·simp only [AE] at hx hy;subst hx;obtain ⟨_,_,_,_,_,_,_,rfl⟩:=hy;split at h
  ·simp only [HI];exact FV h (by simp) hk
  ·cases h
 ·simp only [AE] at hx hy;subst hx;obtain ⟨_,rfl,_⟩:=hy;split at h
  ·simp only [HI];exact FV h (by simp) hk
  ·cases h
 ·simp only [AE] at hx hy;subst hy;obtain ⟨_,_,_,_,_,rfl⟩:=hx;split at h
  ·simp only [HI];exact FV h (by simp) hk
  ·cases h
 ·simp only [AE] at hx hy;subst hy;obtain ⟨_,_,_,_,_,_,_,rfl⟩:=hx;split at h
  ·simp only [HI];exact FV h (by simp) hk
  ·cases h
 ·simp only [AE] at hx hy;subst hy;obtain ⟨_,rfl,_⟩:=hx;split at h
  ·simp only [HI];exact FV h (by simp) hk
  ·cases h
 ·simp only [AE] at hx hy;subst hx;subst hy;split at h
  ·simp only [HI];exact FV h (by simp) hk
  ·cases h
 ·simp only [AE] at hx hy;subst hy;obtain ⟨_,rfl,_⟩:=hx;split at h
  ·simp only [HI];exact FV h (by simp) hk
  ·cases h
 ·split at h
  ·split at h
   ·rename_i a b h1 h2;obtain ⟨u,rfl,hu⟩:=JR h1 hx;obtain ⟨v,rfl,hv⟩:=JR h2 hy;simp only [HI];exact FV h (by rw [decide_eq_true_eq,Bool.eq_iff_iff,hu,hv]) hk
   ·cases h
  ·cases h
theorem HX {α:Type} {p:Prop} {a b:α} (h:p):H6 p a b=a:=by unfold H6;exact if_pos h
theorem HW {α:Type} {p:Prop} {a b:α} (h: ¬p):H6 p a b=b:=by unfold H6;exact if_neg h
theorem q_ {v u:Value} (h:qz v u=true):v=u:=by
 unfold qz at h;split at h
 ·rw [Bool.and_eq_true] at h;rw [beq_eq h.1,beq_eq h.2]
 ·cases h
mutual
theorem MU: ∀ {x y:TV},UX x y=true->x=y
 | x,y,h=>by
  unfold UX at h;split at h<;>first | (cases h;done) | rfl | skip
  ·rw [beq_eq h]
  ·rw [Bool.and_eq_true] at h;rw [beq_eq h.1,beq_eq h.2]
  ·rw [Bool.and_eq_true] at h;rw [beq_eq h.1,OR h.2]
  ·rw [OR h]
  ·rw [OR h]
  ·rw [OR h]
  ·rw [q_ h]
theorem OR: ∀ {xs ys:List TV},Rz xs ys=true->xs=ys
 | [],[],_=>rfl
 | [],_::_,h=>by simp [Rz] at h
 | _::_,[],h=>by simp [Rz] at h
 | x::xs,y::ys,h=>by
  simp only [Rz,Bool.and_eq_true] at h;rw [MU h.1,OR h.2]
end
theorem US {p:Prop} {x y z:TV} (h:kh p x y=some z):(p-> ∀u,AE H x u->AE H z u)/\(¬p-> ∀u,AE H y u->AE H z u):=by
 unfold kh at h;split at h
 case h_1=>cases h;exact ⟨fun hp u hu=>by simp only [AE] at*;exact ⟨true,hu,by simp [hp]⟩,fun hp u hu=>by simp only [AE] at*;exact ⟨false,hu,by simp [hp]⟩⟩
 case h_2=>cases h;exact ⟨fun hp u hu=>by simp only [AE] at*;exact ⟨false,hu,by simp [hp]⟩,fun hp u hu=>by simp only [AE] at*;exact ⟨true,hu,by simp [hp]⟩⟩
 case h_3=>cases h;exact ⟨fun _ _ h=>h,fun _ _ h=>h⟩
 case h_4=>cases h;exact ⟨fun _ _ h=>h,fun _ _ h=>h⟩
 case h_5=>
  split at h<;>cases h;rename_i hk;have hk:=H7 hk;subst hk;exact ⟨fun hp u hu=>by simp only [AE,HX hp] at*;exact hu,fun hp u hu=>by simp only [AE,HW hp] at*;exact hu⟩
 case h_6=>cases h;exact ⟨fun hp u hu=>by simp only [AE,HX hp] at*;exact hu,fun hp u hu=>by simp only [AE,HW hp] at*;exact hu⟩
 case h_7=>cases h;exact ⟨fun hp u hu=>by simp only [AE,HX hp] at*;exact hu,fun hp u hu=>by simp only [AE,HW hp] at*;exact hu⟩
 case h_8=>cases h;exact ⟨fun hp u hu=>by simp only [AE,HX hp] at*;exact hu,fun hp u hu=>by simp only [AE,HW hp] at*;exact hu⟩
 case h_9=>cases h;exact ⟨fun hp u hu=>by simp only [AE,HX hp] at*;exact hu,fun hp u hu=>by simp only [AE,HW hp] at*;exact hu⟩
 case h_10=>
  split at h<;>cases h;rename_i b hb;refine ⟨fun hp u hu=>?_,fun hp u hu=>?_⟩
  ·simp only [AE] at*;exact ⟨true,hu,by simp [hp]⟩
  ·obtain ⟨c,rfl,hc⟩:=JR hb hu;simp only [AE];exact ⟨c,rfl,by simp [hc,hp]⟩
 case h_11=>
  split at h<;>cases h;rename_i b hb;refine ⟨fun hp u hu=>?_,fun hp u hu=>?_⟩
  ·obtain ⟨c,rfl,hc⟩:=JR hb hu;simp only [AE];exact ⟨c,rfl,by simp [hc,hp]⟩
  ·simp only [AE] at*;exact ⟨false,hu,by simp [hp]⟩
 case h_12=>
  split at h<;>cases h;rename_i b hb;refine ⟨fun hp u hu=>?_,fun hp u hu=>?_⟩
  ·simp only [AE] at*;exact ⟨false,hu,by simp [hp]⟩
  ·obtain ⟨c,rfl,hc⟩:=JR hb hu;simp only [AE];exact ⟨c,rfl,by simp [hc,hp]⟩
 case h_13=>
  split at h
  ·cases h;rename_i a b ha hb;refine ⟨fun hp u hu=>?_,fun hp u hu=>?_⟩
   ·obtain ⟨c,rfl,hc⟩:=JR ha hu;simp only [AE];exact ⟨c,rfl,by simp [hc,hp]⟩
   ·obtain ⟨c,rfl,hc⟩:=JR hb hu;simp only [AE];exact ⟨c,rfl,by simp [hc,hp]⟩
  ·split at h<;>cases h;rename_i hs;have:=MU hs;subst this;exact ⟨fun _ _ h=>h,fun _ _ h=>h⟩
theorem UQ {p:Prop}: ∀ {xs ys zs:List TV},Wd p xs ys=some zs->(p-> ∀u,AN H xs u->AN H zs u)/\(¬p-> ∀u,AN H ys u->AN H zs u)
 | [],[],_,h=>by simp only [Wd,Option.some.injEq] at h;subst h;exact ⟨fun _ _ h=>h,fun _ _ h=>h⟩
 | [],_::_,_,h=>by simp [Wd] at h
 | _::_,[],_,h=>by simp [Wd] at h
 | x::xs,y::ys,zs,h=>by
  simp only [Wd] at h;split at h<;>cases h;rename_i h1 h2;have g1:=US (H:=H) h1;have g2:=UQ h2;refine ⟨fun hp u hu=>?_,fun hp u hu=>?_⟩<;>simp only [AN] at hu |- <;>obtain ⟨a,yV,rfl,e1,e2⟩:=hu
  ·exact ⟨a,yV,rfl,g1.1 hp _ e1,g2.1 hp _ e2⟩
  ·exact ⟨a,yV,rfl,g1.2 hp _ e1,g2.2 hp _ e2⟩
theorem Jp {p:Prop} {x y z:TV} (h:Pq p x y=some z):(p-> ∀u,AE H x u->AE H z u)/\(¬p-> ∀u,AE H y u->AE H z u):=by
 unfold Pq at h;split at h
 ·split at h
  ·cases h;rename_i hs;rw [<-MU hs];exact ⟨fun _ _ h=>h,fun _ _ h=>h⟩
  ·split at h<;>cases h;rename_i hl;have g:=UQ (H:=H) hl;refine ⟨fun hp u hu=>?_,fun hp u hu=>?_⟩<;>simp only [AE] at hu |- <;>obtain ⟨a,rfl,e1⟩:=hu
   ·exact ⟨a,rfl,g.1 hp _ e1⟩
   ·exact ⟨a,rfl,g.2 hp _ e1⟩
 ·exact US h
end
end Go.Vc
end
