/- Part of the proof of topEngine_holds: the whole is true of every input. Conditions: none. -/
import Derived.Test.YtlibocgedgdmlaaGreatQ11
import Derived.Shelf.SlSortCmp.NoneTotal
import Derived.Shelf.SortM.Plain
import Derived.Shelf.SortM.SortNone
set_option linter.all false
section
namespace Go.Vc
open HM
theorem Has.iter {l v mv since last:Nat} {seen:List Nat} {S:AB} {m:HM} {o:Ob} {f:Ob->HM} [i:At m l o f] (h:Has S m) {K:Nat->Nat->Nat->List Nat->Prop} (ho:o= .Ep v mv since last seen) (hk:K mv since last seen):dg S l v K:=IY.2 ⟨mv,since,last,seen,by rw [h.here (l:=l),ho],hk⟩
section
variable {P : Program} {F : Frame} {S : AB} {K : AA -> AB -> Prop} {m : HM} {x y z : AL} {l v : Nat} {o : Ob} {f : Ob -> HM} {es : List (AA × AA)}
theorem o5 (hS:Has S m) (hx:rd F x= .map l v) [i:At m l o f] (ho:o= .Cw v es) (h: ∀v' l' S',Has S' (pt l' (.Ep v' v es.length es.length [])+m)->K (.ptr l' v' 0) S'):AF P F S K (.K6 x):=by
 refine AD.2 ?_;rw [hx];exact hS.map ho fun v'=>hS.TR fun l' S'=>h v' l' S'
theorem r7 {mv since last lm:Nat} {seen:List Nat} {o':Ob} {f':Ob->HM} (hS:Has S m) (hx:rd F x= .ptr l v 0) [i:At m l o f] (ho:o= .Ep v mv since last seen) [i':At m lm o' f'] (ho':o'= .Cw mv es) (hl:es.length=since)
  (h0:(∀i:Nat,i<es.length->i∈seen)->K (.DG [.bool false]) S) (h1: ∀(i:Nat) (e:AA×AA) S',es[i]?=some e->i ∉ seen->Has S' (f (.Ep v mv since es.length (seen++[i])))->K (.DG [.bool true,e.1,e.2]) S'):AF P F S K (.S5 x):=by
 refine AD.2 ?_;rw [hx];exact hS.iter ho ⟨lm,es,by rw [hS.here (l:=lm),ho'],hl,h0,fun i e q1 q2=>hS.sf fun S' hS'=>h1 i e S' q1 q2 hS'⟩
theorem oy {mv since lm j:Nat} {seen:List Nat} {o':Ob} {f':Ob->HM} {e:AA×AA} (hS:Has S m) (hx:rd F x= .ptr l v 0) [i:At m l o f] (ho:o= .Ep v mv since es.length (seen++[j])) [i':At m lm o' f'] (ho':o'= .Cw mv es) (he:es[j]?=some e)
  (h:K (.DG [e.1,e.2]) S):AF P F S K (.NZ x):=by
 refine AD.2 ?_;rw [hx];exact hS.iter ho ⟨lm,es,j,e,by rw [hS.here (l:=lm),ho'],rfl,by simp,he,h⟩
theorem uI {l v off:Nat} {neg:Bool} (hx:rd F x= .ptr l v off) (hy:rd F y= .Bp) (h:K (.bool neg) S):AF P F S K (.peq neg x y):=by
 refine AD.2 (AD.2 ?_);rw [hx,hy];exact h
theorem uH {l v off:Nat} {neg:Bool} (hx:rd F x= .Bp) (hy:rd F y= .ptr l v off) (h:K (.bool neg) S):AF P F S K (.peq neg x y):=by
 refine AD.2 (AD.2 ?_);rw [hx,hy];exact h
theorem uJ {neg:Bool} (hx:rd F x= .Bp) (hy:rd F y= .Bp) (h:K (.bool (!neg)) S):AF P F S K (.peq neg x y):=by
 refine AD.2 (AD.2 ?_);rw [hx,hy];exact h
theorem uG {t:TypeId} (h:K (.iface t (rd F x)) S):AF P F S K (.VJ t x):=AD.2 h
end
section
variable {P : Program} {N : Nat} {F : Frame} {S : AB} {Q : BU -> Frame -> AB -> Prop}
end
theorem Has.vC {S:AB} {m:HM} (h:Has S m):Has (S++List.replicate 3 .dead) (pt S.length .dead+(pt (S.length+1) .dead+(pt (S.length+2) .dead+m))):=by
 have h1:=h.more .dead;have h2:=h1.more .dead;have h3:=h2.more .dead;simp only [List.length_append,List.length_cons,List.length_nil,Nat.zero_add,List.append_assoc,List.cons_append,List.nil_append,Nat.add_assoc,Nat.reduceAdd] at h3;refine Has.eq h3 ?_
 ac_rfl
theorem qm {P:Program} {F:Frame} {S:AB} {Q:BU->Frame->AB->Prop} {l:List Cs} {m:HM} {j:Nat} {π ks:List Nat} (hS:Has S m) (h: ∀n S',S'.length=n+3->Has S' (pt n .dead+(pt (n+1) .dead+(pt (n+2) .dead+m)))->Ah P (fun F' S'=>J0 ks F' fun F''=>Q .normal F'' S') j l F S'):vc P (.ops l (some (j,3,π)) ks) Q F S:=
 eP (h S.length _ (by simp) hS.vC)
section
variable {P : Program} {F : Frame} {S : AB} {m : HM} {K : AA -> AB -> Prop} {l d k n : Nat} {f : Ob -> HM} {x y : AL}
theorem Has.dn {o o':Ob} [i:At m l o f] (h:Has S m):Has (S.set l o') (f o'):=by
 obtain ⟨R,hR⟩:=i.split;have h:=i.eq▸h;rw [hR] at h;rw [hR];exact h.put o'
theorem ow (hS:Has S m) (hL:S.length=l+d) (hd:0<d) [i:At m l .dead f] (h: ∀v S',Has S' (f (.Cw v []))->S'.length=l+d->K (.map l v) S'):AF P F S K (.JG d):=by
 have e:S.length-d=l:=by omega
 refine ⟨hd,by omega,by rw [e];exact hS.here,fun v=>?_⟩;rw [e];exact h v _ hS.dn (by rw [List.length_set];exact hL)
theorem oj {fid:FuncId} {xs zs:List AL} (hS:Has S m) (hL:S.length=l+d) (hd:0<d) [i:At m l .dead f] (hc:HC P fid (xs.map (rd F)) HM.nil (fun r m'=> ∃l v,r= .ptr l v 0/\m'=pt l (.row v k (zs.map (rd F)))))
  (h: ∀v S',Has S' (f (.row v k (zs.map (rd F))))->S'.length=l+d->K (.ptr l v 0) S'):AF P F S K (.Kw d k fid xs zs):=by
 have e:S.length-d=l:=by omega
 refine Ap.2 (Ap.2 ⟨?_,hd,by omega,by rw [e];exact hS.here,fun v=>?_⟩)
 ·refine (hc [] HM.nil (by rw [HM.nil_add];exact Has.nil)).Zm fun r S' ⟨m',⟨l,v,e1,e2⟩,h2⟩=>?_;subst e1;subst e2;rw [HM.add_nil] at h2;have hg:=Has.here (l:=l) h2;exact ⟨.ptr 0 v 0,fun _=>l,[.row v k (zs.map (rd F))],.ptr,⟨fun a b h1 h2 _=>by simp at h1 h2;omega,fun a o h=>by
   cases a with
   | zero=>simp at h;subst h;exact ⟨_,hg,.refl _⟩
   | succ a=>simp at h⟩,v,rfl,rfl⟩
 ·rw [e];exact h v _ hS.dn (by rw [List.length_set];exact hL)
theorem r6 {b:Nat} {z:List AA} {ik:IntKind} (hS:Has S m) (hL:S.length=l+d) (hd:0<d) [i:At m l .dead f] (hx:rd F x= .int ik (n:Int)) (hy:rd F y=rd F x) (hb:b*n<=140737488355328)
  (h: ∀v S',Has S' (f (.row v k (List.replicate n z).flatten))->S'.length=l+d->K (.sl l v 0 n) S'):AF P F S K (.Mr d k b z x y):=by
 have e:S.length-d=l:=by omega
 refine AD.2 (AD.2 ?_);rw [hy,hx];refine ⟨n,rfl,rfl,hb,hd,by omega,by rw [e];exact hS.here,fun v=>?_⟩;rw [e];exact h v _ hS.dn (by rw [List.length_set];exact hL)
end
end Go.Vc
end
section
namespace Go.Vc
open HM
def NW (Z:List Nat) (S:AB):AB:=S.mapIdx fun l o=>if l∈Z then .dead else o
def JL (Z:List Nat) (S:AB):AB:=S.mapIdx fun l o=>if l∈Z then o else .dead
theorem bZ {Z:List Nat} {S:AB} {l:Nat} {o:Ob} (h:(NW Z S)[l]?=some o):(l∈Z/\o= .dead)\/(l ∉ Z/\S[l]?=some o):=by
  unfold NW at h;rw [List.getElem?_mapIdx] at h;obtain ⟨o',h1,h2⟩:=Option.map_eq_some_iff.1 h;by_cases c:l∈Z
  · rw [if_pos c] at h2;exact .inl ⟨c,h2.symm⟩
  · rw [if_neg c] at h2;exact .inr ⟨c,by rw [<-h2];exact h1⟩
theorem bP {Z:List Nat} {S:AB} {l:Nat} {o:Ob} (h:(JL Z S)[l]?=some o):(l ∉ Z/\o= .dead)\/(l∈Z/\S[l]?=some o):=by
  unfold JL at h;rw [List.getElem?_mapIdx] at h;obtain ⟨o',h1,h2⟩:=Option.map_eq_some_iff.1 h;by_cases c:l∈Z
  · rw [if_pos c] at h2;exact .inr ⟨c,by rw [<-h2];exact h1⟩
  · rw [if_neg c] at h2;exact .inl ⟨c,h2.symm⟩
theorem Jc {Z:List Nat} {S:AB} {E:Env} {l b:Nat} (h:DH E (NW Z S) l b):l ∉ Z/\DH E S l b:=by
  obtain ⟨o,h1,h2⟩:=h;rcases bZ h1 with ⟨_,rfl⟩ | ⟨c,h3⟩
  · cases h2
  · exact ⟨c,o,h3,h2⟩
theorem Jb {Z:List Nat} {S:AB} {E:Env} {l b:Nat} (h:DH E (JL Z S) l b):l∈Z/\DH E S l b:=by
  obtain ⟨o,h1,h2⟩:=h;rcases bP h1 with ⟨_,rfl⟩ | ⟨c,h3⟩
  · cases h2
  · exact ⟨c,o,h3,h2⟩
section
variable {E : Env} {fz : Nat -> Prop} {S : AB} {w : World} {P : Program} {f : FuncId} {args : List AA}
theorem St.JL (Z:List Nat) (st:St E fz S w):St E fz (Go.Vc.JL Z S) w:=
  ⟨fun l o h=>by
    rcases bP h with ⟨_,rfl⟩ | ⟨_,h⟩
    · trivial
    · exact st.ok l o h,fun l l' b h h'=>st.sep l l' b (Jb h).2 (Jb h').2,st.Fx,st.fresh⟩
theorem St.NW (Z:List Nat) (st:St E fz S w):St E (frozen E fz (Go.Vc.JL Z S)) (Go.Vc.NW Z S) w:=
  ⟨fun l o h=>by
    rcases bZ h with ⟨_,rfl⟩ | ⟨c,h⟩
    · trivial
    · refine (st.ok l o h).mono (fun _ _ h=>h) (fun _ h=>.inl h) (fun _ _=>rfl) fun b hb=>⟨rfl,?_⟩
      rintro (hf | ⟨l',ho⟩)
      · exact (st.EU ⟨o,h,hb⟩).2 hf
      · obtain ⟨h1,h2⟩:=Jb ho
        exact c (st.sep l l' b ⟨o,h,hb⟩ h2▸h1),
   fun l l' b h h'=>st.sep l l' b (Jc h).2 (Jc h').2,fun b hb=>hb.elim (st.Fx b) fun ⟨l,h⟩=>(st.EU (Jb h).2).1,st.fresh⟩
theorem AU.rI {R K:AA->AB->Prop} (n:Nat) (h:AU P f args S R) (hK: ∀r S',R r S'-> ∃Z,K (BP (JL Z S') n r) (NW Z S')):AU P f args S K:=
  ⟨fun E fz w vals st hrel=>(h.out E fz w vals st hrel).mono fun e w' ⟨r,S',v,E',fz',h1,h2,h3,h4,h5⟩=>by
    obtain ⟨Z,hZ⟩:=hK r S' h5;exact ⟨_,_,v,E',frozen E' fz' (JL Z S'),h1,⟨h2.env,fun b hb=>.inl (h2.WI b hb),fun b hb=>hb.elim (h2.Gi b) fun ⟨l,ho⟩=>.inr (h2.own b ⟨l,(Jb ho).2⟩),h2.AW,fun b ⟨l,ho⟩=>h2.own b ⟨l,(Jc ho).2⟩,h2.size,h2.os,h2.output,h2.tape⟩,
      h3.NW Z,PW (h3.JL Z) n r v h4,hZ⟩⟩
end
theorem HC.freeze {P:Program} {f:FuncId} {args:List AA} {a:HM} {R R2:AA->HM->Prop} (n:Nat) (h:HC P f args a R)
    (hR: ∀r m',R r m'-> ∃mk mz r0,m'=mk+mz/\(∀Sz,Has Sz mz->BP Sz n r=r0)/\R2 r0 mk):HC P f args a R2:=fun S mf hS=>by
  refine AU.rI n (h S mf hS) fun r S' ⟨m',h1,h2⟩=>?_;obtain ⟨mk,mz,r0,rfl,h3,h4⟩:=hR r m' h1;obtain ⟨x,rfl⟩:=mk.ex;obtain ⟨y,rfl⟩:=mz.ex;obtain ⟨z,rfl⟩:=mf.ex;have h2:KL S' ((x++y)++z):=h2;have nd:=h2.nd;rw [List.map_append,List.map_append] at nd;have nxy:=List.nodup_append.1 (List.nodup_append.1 nd).1;have nz:=(List.nodup_append.1 nd).2.2;refine ⟨y.map (·.1),of x,?_,?_⟩
  · have e:BP (JL (y.map (·.1)) S') n r=r0:=h3 _ (show KL _ y from ⟨nxy.2.1,fun p hp=>by
      unfold JL;rw [List.getElem?_mapIdx,h2.at_ p (by simp [hp])];simp only [Option.map_some];rw [if_pos (List.mem_map_of_mem hp)]⟩)
    rw [e];exact h4
  · show KL _ (x++z)
    refine ⟨?_,fun p hp=>?_⟩
    · rw [List.map_append]
      exact List.nodup_append.2 ⟨nxy.1,(List.nodup_append.1 nd).2.1,fun a ha b hb=>nz a (List.mem_append_left _ ha) b hb⟩
    · have hne:p.1 ∉ y.map (·.1):=fun hy=>by
        rcases List.mem_append.1 hp with hp | hp
        · exact nxy.2.2 p.1 (List.mem_map_of_mem hp) p.1 hy rfl
        · exact nz p.1 (List.mem_append_right _ hy) p.1 (List.mem_map_of_mem hp) rfl
      unfold NW;rw [List.getElem?_mapIdx,h2.at_ p (by rcases List.mem_append.1 hp with hp | hp<;>simp [hp])];simp only [Option.map_some];rw [if_neg hne]
theorem HC.vN {P:Program} {f:FuncId} {args:List AA} {S:AB} {m a:HM} {g:HM->HM} {n k:Nat} {cs:List AA} [i:Part m a g] (hc:HC P f args a fun r m'=>(r= .AM/\n=0/\cs=[]/\m'=a)\/ ∃l v,r= .sl l v 0 n/\m'=a+pt l (.row v k cs)) (h:Has S m):
    AU P f args S fun r S'=> ∃v,r= .sl S.length v 0 n/\S'=S++[.row v k cs]:=by
  obtain ⟨R0,hm⟩:=i.split;have h:=i.eq▸h;rw [hm] at h;obtain ⟨mf,h1,h2⟩:=h.rest;have hw:AU P f args S fun r S'=>(r= .AM/\n=0/\cs=[]/\S'=S)\/ ∃v,r= .sl S.length v 0 n/\S'=S++[.row v k cs]:=by
    refine (hc S (R0+mf) (h1.eq (by ac_rfl))).Zm ?_;rintro r S' ⟨m',⟨rfl,e1,e2,rfl⟩ | ⟨l,v,rfl,rfl⟩,g2⟩
    · exact ⟨.AM,id,S,PM.refl _,⟨fun _ _ _ _ e=>e,fun l o ho=>⟨o,h2 S' (g2.eq (by ac_rfl)) l o ho,.refl o⟩⟩,.inl ⟨rfl,e1,e2,rfl⟩⟩
    have g3:Has S' (pt l (.row v k cs)+(a+R0+mf)):=g2.eq (by ac_rfl);have g4:=h2 S' g3.right;have hne: ∀(l':Nat) o,S[l']?=some o->l'≠l:=fun l' o ho e=>by
      subst e;have hl:=(List.getElem?_eq_some_iff.1 g3.get).1;have q:=fun o2=>h2 _ (g3.put o2).right l' o ho;have q1:=q .dead;have q2:=q (.row 0 0 []);rw [List.getElem?_set_self hl] at q1 q2;rw [<-q1] at q2;cases q2
    refine ⟨.sl S.length v 0 n,fun j=>if j=S.length then l else j,S++[.row v k cs],PM.sl,⟨fun j j' h1 h2 e=>?_,fun j o ho=>?_⟩,.inr ⟨v,rfl,rfl⟩⟩
    · simp only [List.length_append,List.length_cons,List.length_nil] at h1 h2
      have lt: ∀ {j:Nat},j<S.length->j≠l:=fun {j} hj=>hne j _ (List.getElem?_eq_getElem hj);replace e:(if j=S.length then l else j)=(if j'=S.length then l else j'):=e;split at e<;>split at e
      · omega
      · exact absurd e.symm (lt (by omega))
      · exact absurd e (lt (by omega))
      · exact e
    · by_cases c:j=S.length
      · subst c
        simp at ho;subst ho;exact ⟨_,by simpa using g3.get,.refl _⟩
      · have hj:j<S.length:=by have:=(List.getElem?_eq_some_iff.1 ho).1;simp at this;omega
        rw [List.getElem?_append_left hj] at ho;refine ⟨o,?_,.refl o⟩;simp only [c,if_false];exact g4 j o ho
  refine ⟨fun E fz w vals st hrel=>(hw.out E fz w vals st hrel).mono ?_⟩;rintro e w' ⟨r,S',v,E',fz',he,hx,st',hr,⟨rfl,rfl,rfl,rfl⟩ | ⟨ver,rfl,rfl⟩⟩
  · obtain ⟨ver,E2,p1,p2,p3⟩:=ZE st' k
    simp only [Rel] at hr;exact ⟨_,_,v,E2,fz',he,hx.trans p3,p2,by simp only [Rel];exact .inl ⟨trivial,none,hr⟩,ver,rfl,rfl⟩
  · exact ⟨_,_,v,E',fz',he,hx,st',hr,ver,rfl,rfl⟩
section
variable {P : Program} {F : Frame} {S : AB} {K : AA -> AB -> Prop} {m : HM} {l d k n : Nat} {f : Ob -> HM}
theorem rp {fid:FuncId} {xs:List AL} {cs:List AA} (hS:Has S m) (hL:S.length=l+d) (hd:0<d) [i:At m l .dead f] (hc:AU P fid (xs.map (rd F)) S fun r S'=> ∃v,r= .sl S.length v 0 n/\S'=S++[.row v k cs])
    (h: ∀v S',Has S' (f (.row v k cs))->S'.length=l+d->K (.sl l v 0 n) S'):AF P F S K (.NF d k fid xs):=by
  have e:S.length-d=l:=by omega
  refine Ap.2 ⟨n,cs,hc,hd,by omega,by rw [e];exact hS.here,fun v=>?_⟩;rw [e];exact h v _ hS.dn (by rw [List.length_set];exact hL)
theorem rj {z:List AA} (hS:Has S m) (hL:S.length=l+d) (hd:0<d) [i:At m l .dead f] (h: ∀v S',Has S' (f (.row v k z))->S'.length=l+d->K (.ptr l v 0) S'):AF P F S K (.Mk d k z):=by
  have e:S.length-d=l:=by omega
  refine ⟨hd,by omega,by rw [e];exact hS.here,fun v=>?_⟩;rw [e];exact h v _ hS.dn (by rw [List.length_set];exact hL)
theorem r_ {fid:FuncId} {xs:List AL} {r0:AA} (hc:RC P fid (xs.map (rd F)) r0) (h:K r0 S):AF P F S K (.PD fid xs):=Ap.2 ⟨r0,hc,h⟩
theorem Has.vB (h:Has S m):Has (S++List.replicate 2 .dead) (pt S.length .dead+(pt (S.length+1) .dead+m)):=by
  have h1:=h.more .dead;have h2:=h1.more .dead;simp only [List.length_append,List.length_cons,List.length_nil,Nat.zero_add,List.append_assoc,List.cons_append,List.nil_append] at h2;refine Has.eq h2 ?_
  ac_rfl
theorem qj {Q:BU->Frame->AB->Prop} {gl:List Cs} {j:Nat} {π ks:List Nat} (hS:Has S m) (h: ∀n S',S'.length=n+2->Has S' (pt n .dead+(pt (n+1) .dead+m))->Ah P (fun F' S'=>J0 ks F' fun F''=>Q .normal F'' S') j gl F S'):vc P (.ops gl (some (j,2,π)) ks) Q F S:=
  eP (h S.length _ (by simp) hS.vB)
end
end Go.Vc
end
section
namespace Go.Vc
section
variable {P : Program} {F : Frame} {S : AB} {K : Frame -> AB -> Prop} {rest : List Cs} {d : Option Nat} {x y : AL} {Kx : List (Nat × Nat × Bool × AL)} {m : HM} {l v off n : Nat} {r : AA} {xs ys cs : List AA}
theorem mv (h:BC P K rest (AK F d (rd F x)) S):BC P K (⟨d,.C8 x,none,false,Kx⟩::rest) F S:=Ar (BZ (Dn h))
theorem nc (hx:rd F x= .ptr l v off) (h:BC P K rest (AK F d (.ptr l v off)) S):BC P K (⟨d,.E5 x,none,false,Kx⟩::rest) F S:=Ar (cJ hx (Dn h))
theorem fa {n:Nat} (hx:rd F x= .ptr l v n) (h:BC P K rest (AK F d (.ptr l v (n+off))) S):BC P K (⟨d,.DJ off x,none,false,Kx⟩::rest) F S:=Ar (jD hx (Dn h))
theorem ld {k:Nat} {ag:Bool} {o:Ob} {f:Ob->HM} (hS:Has S m) (hx:rd F x= .ptr l v off) [i:At m l o f] (ho:o= .row v k cs) (ht:takeN n (cs.drop off)=some xs) (hm:qL ag xs=some r) (h:BC P K rest (AK F d r) S):BC P K (⟨d,.load n ag x,none,false,Kx⟩::rest) F S:=Ar (MP hS hx ho ht hm (Dn h))
theorem ln {b:Bool} (hx:bg b (rd F x)=some n) (h:BC P K rest (AK F d (.int .i64 (n:Int))) S):BC P K (⟨d,.len b x,none,false,Kx⟩::rest) F S:=Ar (Qt hx (Dn h))
theorem ex {j:Nat} (hx:rd F x= .DG xs) (hj:xs.drop j=r::ys) (h:BC P K rest (AK F d r) S):BC P K (⟨d,.extract x j,none,false,Kx⟩::rest) F S:=Ar (Xe hx hj (Dn h))
theorem kp {ks:List Nat} {Q:Frame->AB->Prop} (h:Q (ks.map fun t=>(t,F.get t)) S):BC P (fun F' S'=>J0 ks F' fun F''=>Q F'' S') [] F S:=tJ (eN h)
end
end Go.Vc
end
section
namespace Go.Vc
theorem vA {rs:List Kk} {R:AA->AB->Prop} {F:Frame} {S:AB} (h:I5 F S (fun xs=>R9 xs fun r=>R r S) rs):rF rs R .ret F S:=h
theorem u_ {rs:List Kk} {R:AA->AB->Prop} {F:Frame} {S:AB} (h:I5 F S (fun xs=>R9 xs fun r=>R r S) rs):rF rs R .normal F S:=h
section
variable {P : Program} {F : Frame} {S : AB} {K : AA -> AB -> Prop} {m : HM} {l v k off n : Nat} {o : Ob} {f : Ob -> HM} {cs ys z : List AA} {x y : AL}
theorem iE (hS:Has S m) (hx:rd F x= .ptr l v off) [i:At m l o f] (ho:o= .row v k cs) (hc:L_ (rd F y)=some ys) (hn:ys.length=n) (hle:off+n<=cs.length) (h: ∀S',Has S' (f (.row v k (setCells cs off ys)))->K .Ci S'):AF P F S (fun x S'=>Al false x fun x=>K x S') (.store n x y):=JU hS hx ho hc hn hle fun S' q=>Dn (h S' q)
theorem qX (hS:Has S m) (h: ∀v l S',Has S' (pt l (.row v k z)+m)->K (.ptr l v 0) S'):AF P F S (fun x S'=>Al false x fun x=>K x S') (.alloc k z):=re hS fun v l S' q=>Dn (h v l S' q)
theorem uq (hS:Has S m) (hc:L_ (rd F x)=some ys) (h: ∀v l S',Has S' (pt l (.row v k ys)+m)->K (.ptr l v 0) S'):AF P F S (fun x S'=>Al false x fun x=>K x S') (.box k x):=vF hS hc fun v l S' q=>Dn (h v l S' q)
theorem nB (hS:Has S m) (h: ∀v l S',Has S' (pt l (.row v k [])+m)->K (.sl l v 0 0) S'):AF P F S (fun x S'=>Al false x fun x=>K x S') (.DU k):=o7 hS fun v l S' q=>Dn (h v l S' q)
theorem j4 {len:Nat} {ps:List (Nat×Nat×AL)} (hS:Has S m) (hf:Se F z ps=some ys) (h: ∀v l S',Has S' (pt l (.row v k ys)+m)->K (.sl l v 0 len) S'):AF P F S (fun x S'=>Al false x fun x=>K x S') (.A7 false len k z ps):=lL hS hf fun v l S' q=>Dn (h v l S' q)
theorem qY (hS:Has S m) (h: ∀v l S',Has S' (pt l (.Cw v [])+m)->K (.map l v) S'):AF P F S (fun x S'=>Al false x fun x=>K x S') .Mq:=rz hS fun v l S' q=>Dn (h v l S' q)
theorem j3 {b:Nat} (hS:Has S m) (hx:rd F x= .AM) (hy:Dx m k (rd F y) n ys) (hb:n*b<=140737488355328) (h: ∀v l S',Has S' (pt l (.row v k ys)+m)->K (.sl l v 0 n) S'):AF P F S (fun x S'=>Al false x fun x=>K x S') (.append k b x y):=R4 hS hx hy hb fun v l S' q=>Dn (h v l S' q)
theorem aB {b len:Nat} (hS:Has S m) (hx:rd F x= .sl l v off len) (hy:Dx m k (rd F y) n ys) [i:At m l o f] (ho:o= .row v k cs) (hle:off+len*k<=cs.length) (hb:(len+n)*b<=140737488355328) (h: ∀v' S',Has S' (f (.row v' k (BL cs off (len*k)++ys)))->K (.sl l v' 0 (len+n)) S'):AF P F S (fun x S'=>Al false x fun x=>K x S') (.append k b x y):=Qs hS hx hy ho hle hb fun v S' q=>Dn (h v S' q)
end
structure Rs (q:Prop):Prop where
 o:q
theorem Z1 {p q:Prop} (h:q) (e:Rs q->p:=by
 intro h;first
 | (with_reducible first | refine uy ?_ | refine wX ?_ | refine tg ?_ | refine qi ?_ | refine wY ?_ | refine ux ?_ | refine tf ?_ | refine wW ?_ | refine wP ?_ | refine wQ ?_ | refine wR ?_ | refine uw ?_ | refine tj ?_ | refine vA ?_ | refine u_ ?_)
 | with_reducible refine wS rfl ?_
 | ((with_reducible first | refine tJ (eN ?_) | refine u4 (eN ?_));(try dsimp only [List.map,AK,rd,Frame.get]))
 | ((with_reducible refine Dn ?_);(try dsimp only [AK,rd,Frame.get]))
 | (((with_reducible refine wb ?_ ?_);(· rfl));(try dsimp only [AK,rd,Frame.get]))
 | (((with_reducible refine wa ?_ ?_);(· rfl));(try dsimp only [AK,rd,Frame.get]))
 | (((with_reducible refine wc (xs:=[]) ?_ ?_);(· rfl));(try dsimp only [AK,rd,Frame.get]))
 | (((with_reducible refine wH ?_ ?_);(· rfl));(try dsimp only [AK,rd,Frame.get]))
 | (((with_reducible refine wG ?_ ?_);(· rfl));(try dsimp only [AK,rd,Frame.get]))
 | (((with_reducible refine wI (xs:=[]) ?_ ?_);(· rfl));(try dsimp only [AK,rd,Frame.get]))
 | ((first | (with_reducible refine Ar ?_) | ((with_reducible refine uP ?_ ?_);(· rfl)) | ((with_reducible refine pM ?_ ?_);(· rfl)) | (((with_reducible refine nI ?_));refine pL rfl ?_) | (((with_reducible refine wJ ?_ ?_);(· rfl));refine pL rfl ?_) | (((with_reducible refine wF ?_ ?_);(· rfl));refine pL rfl ?_));first
  | ((with_reducible refine BZ ?_);(refine Dn ?_);(try dsimp only [AK,rd,Frame.get]))
  | ((with_reducible show AF _ _ _ _ (.load _ _ _));(first | refine MP hS rfl rfl rfl rfl ?_ | refine MP hS rfl rfl (by assumption) rfl ?_ | refine jE rfl rfl rfl ?_ | refine jE rfl (by assumption) rfl ?_);(refine Dn ?_);(try dsimp only [AK,rd,Frame.get]))
  | ((with_reducible show AF _ _ _ _ (.DJ _ _));(first | refine jD rfl ?_ | refine om rfl ?_);(refine Dn ?_);(try dsimp only [AK,rd,Frame.get]);(try simp only [Nat.zero_mul,Nat.mul_zero,Nat.mul_one,Nat.add_zero,Nat.zero_add,Nat.sub_zero,Nat.reduceAdd,Nat.reduceMul]))
  | ((with_reducible show AF _ _ _ _ (.bin _ _ _ _));(first | refine tF rfl (by first | trivial | (unfold AH;omega)) ?_);(refine Dn ?_);(try dsimp only [AK,rd,Frame.get]))
  | ((with_reducible show AF _ _ _ _ (.E5 _));(first | refine cJ rfl ?_ | refine lQ rfl ?_ | refine lO rfl ?_ | refine lP rfl ?_);(refine Dn ?_);(try dsimp only [AK,rd,Frame.get]))
  | ((with_reducible show AF _ _ _ _ (.extract _ _));(first | refine Xe rfl rfl ?_);(refine Dn ?_);(try dsimp only [AK,rd,Frame.get]))
  | ((with_reducible show AF _ _ _ _ (.len _ _));(first | refine Qt rfl ?_);(refine Dn ?_);(try dsimp only [AK,rd,Frame.get]))
  | ((with_reducible show AF _ _ _ _ (.pick _ _ _));(first | refine r9 rfl ?_ | refine r8 rfl ?_);(refine Dn ?_);(try dsimp only [AK,rd,Frame.get]))
  | ((with_reducible show AF _ _ _ _ (.D_ _ _ _ _));(first | refine ZI hS rfl rfl rfl (by omega) ?_ | refine oo hS rfl rfl rfl (by omega) ?_ | refine LZ rfl rfl (by omega) (by assumption) ?_ | refine oq rfl rfl (by omega) ?_ | refine lM rfl rfl (by omega) ?_);(refine Dn ?_);(try dsimp only [AK,rd,Frame.get]);(try simp only [Nat.zero_mul,Nat.mul_zero,Nat.mul_one,Nat.add_zero,Nat.zero_add,Nat.sub_zero,Nat.reduceAdd,Nat.reduceMul]))
  | ((with_reducible show AF _ _ _ _ (.not _));(first | refine vK rfl ?_);(refine Dn ?_);(try dsimp only [AK,rd,Frame.get]))
  | ((with_reducible show AF _ _ _ _ (.build _ _));(first | refine rn rfl ?_);(refine Dn ?_);(try dsimp only [AK,rd,Frame.get,setCells,over]))
  | ((with_reducible show AF _ _ _ _ (.A7 _ _ _ _ _));(refine lK rfl ?_);(refine Dn ?_);(try dsimp only [AK,rd,Frame.get,setCells,over]))
  | ((with_reducible show AF _ _ _ _ (.index _ _ _ _ _));(first | refine ou rfl rfl (by assumption) ?_ | refine ot rfl rfl (by omega) rfl rfl ?_);(refine Dn ?_);(try dsimp only [AK,rd,Frame.get]))
  | ((with_reducible show AF _ _ _ _ (.field _ _ _ _));(first | refine rq rfl rfl rfl ?_);(refine Dn ?_);(try dsimp only [AK,rd,Frame.get]))
  | ((with_reducible show AF _ _ _ _ (.again _ _ _ _));(first | refine jC hS rfl rfl rfl rfl rfl ?_ | refine jC hS rfl rfl (by assumption) rfl rfl ?_ | refine cI rfl rfl rfl rfl ?_ | refine cI rfl (by assumption) rfl rfl ?_);(refine Dn ?_);(try dsimp only [AK,rd,Frame.get]))
  | ((with_reducible show AF _ _ _ _ (.min _));(first | refine vI rfl rfl ?_);(refine Dn ?_);(try dsimp only [AK,rd,Frame.get]))
  | ((with_reducible show AF _ _ _ _ (.max _));(first | refine vH rfl rfl ?_);(refine Dn ?_);(try dsimp only [AK,rd,Frame.get]))
  | ((with_reducible show AF _ _ _ _ (.GV _ _ _));(first | refine oz ?_);(refine Dn ?_);(try dsimp only [AK,rd,Frame.get]))
  | ((with_reducible show AF _ _ _ _ (.N1 _));(first | refine sA rfl ?_);(refine Dn ?_);(try dsimp only [AK,rd,Frame.get]))
  | ((with_reducible show AF _ _ _ _ (.ext _ _));(first | refine vG rfl ?_);(refine Dn ?_);(try dsimp only [AK,rd,Frame.get]))
  | ((with_reducible show AF _ _ _ _ (.VJ _ _));(first | refine uG ?_);(refine Dn ?_);(try dsimp only [AK,rd,Frame.get]))
  | ((with_reducible show AF _ _ _ _ (.peq _ _ _));(first | refine uI rfl rfl ?_ | refine uH rfl rfl ?_ | refine uJ rfl rfl ?_);(refine Dn ?_);(try dsimp only [AK,rd,Frame.get]))
  | ((with_reducible show AF _ _ _ _ (.Ke _ _ _ _ _));(first | refine ZJ hS rfl rfl rfl (by assumption) ?_);(refine Dn ?_);(try dsimp only [AK,rd,Frame.get]))
  | ((with_reducible show AF _ _ _ _ (.neg _));(first | refine vJ rfl (by first | trivial | (unfold SR AH;omega)) ?_);(refine Dn ?_);(try dsimp only [AK,rd,Frame.get]))
  | ((with_reducible show AF _ _ _ _ (.conv _ _));(first | refine uF rfl (by first | trivial | (simp only [SR,AH];omega)) ?_);(refine Dn ?_);(try dsimp only [AK,rd,Frame.get]))
  | ((with_reducible show AF _ _ _ _ (.L8 _ _));(first | refine VO hS rfl rfl (by first | omega | (simp;done)) ?_);(refine Dn ?_);(try dsimp only [AK,rd,Frame.get]))
  | ((with_reducible show AF _ _ _ _ (.GO _ _));(first | refine ov rfl ?_);(refine Dn ?_);(try dsimp only [AK,rd,Frame.get]))
  | ((with_reducible show AF _ _ _ _ (.store _ _ _));(first | refine iE hS rfl rfl rfl rfl (by simp) ?_ | refine iE hS rfl rfl rfl rfl (by assumption) ?_);(try dsimp only [AK,rd,Frame.get,setCells,over]))
  | ((with_reducible show AF _ _ _ _ (.alloc _ _));(first | refine qX hS ?_);(try dsimp only [AK,rd,Frame.get,setCells,over]))
  | ((with_reducible show AF _ _ _ _ (.box _ _));(first | refine uq hS rfl ?_);(try dsimp only [AK,rd,Frame.get,setCells,over]))
  | ((with_reducible show AF _ _ _ _ (.DU _));(first | refine nB hS ?_);(try dsimp only [AK,rd,Frame.get,setCells,over]))
  | ((with_reducible show AF _ _ _ _ (.A7 _ _ _ _ _));(first | refine j4 hS rfl ?_);(try dsimp only [AK,rd,Frame.get,setCells,over]))
  | ((with_reducible show AF _ _ _ _ (.Mq));(first | refine qY hS ?_);(try dsimp only [AK,rd,Frame.get,setCells,over]))
  | ((with_reducible show AF _ _ _ _ (.append _ _ _ _));(first | refine aB hS rfl ⟨rfl,by simp,rfl⟩ rfl (by assumption) (by omega) ?_ | refine aB hS rfl ⟨rfl,by simp,rfl⟩ rfl (by simp;omega) (by omega) ?_ | refine j3 hS rfl ⟨rfl,by simp,rfl⟩ (by omega) ?_);(try dsimp only [AK,rd,Frame.get,setCells,over]))
  | ((with_reducible refine uE ?_);(try dsimp only [List.map,AK,rd,Frame.get]))
  )
 | ((with_reducible first | refine vd ?_ | refine va ?_);(try dsimp only [R9,Frame.get]))
 | ((with_reducible show I5 _ _ _ (.cell _ _ _::_));(refine uf hS rfl rfl rfl rfl ?_);(try dsimp only [R9,Frame.get]))
 exact h.o):p:=e ⟨h⟩
theorem Z2 {p q:Prop} (h:q) (e:Rs q->p:=by intro h;refine Z1 ?_;refine Z1 ?_;exact h.o):p:=e ⟨h⟩
theorem Z3 {p q:Prop} (h:q) (e:Rs q->p:=by intro h;refine Z2 ?_;refine Z1 ?_;exact h.o):p:=e ⟨h⟩
theorem Z4 {p q:Prop} (h:q) (e:Rs q->p:=by intro h;refine Z2 ?_;refine Z2 ?_;exact h.o):p:=e ⟨h⟩
theorem Z5 {p q:Prop} (h:q) (e:Rs q->p:=by intro h;refine Z4 ?_;refine Z1 ?_;exact h.o):p:=e ⟨h⟩
theorem Z6 {p q:Prop} (h:q) (e:Rs q->p:=by intro h;refine Z4 ?_;refine Z2 ?_;exact h.o):p:=e ⟨h⟩
theorem Z7 {p q:Prop} (h:q) (e:Rs q->p:=by intro h;refine Z4 ?_;refine Z3 ?_;exact h.o):p:=e ⟨h⟩
theorem Z8 {p q:Prop} (h:q) (e:Rs q->p:=by intro h;refine Z4 ?_;refine Z4 ?_;exact h.o):p:=e ⟨h⟩
theorem Z9 {p q:Prop} (h:q) (e:Rs q->p:=by intro h;refine Z8 ?_;refine Z1 ?_;exact h.o):p:=e ⟨h⟩
theorem SV {p q:Prop} (h:q) (e:Rs q->p:=by intro h;refine Z8 ?_;refine Z2 ?_;exact h.o):p:=e ⟨h⟩
theorem TX {p q:Prop} (h:q) (e:Rs q->p:=by intro h;refine Z8 ?_;refine Z3 ?_;exact h.o):p:=e ⟨h⟩
theorem mQ {p q:Prop} (h:q) (e:Rs q->p:=by intro h;refine Z8 ?_;refine Z4 ?_;exact h.o):p:=e ⟨h⟩
theorem mj {p q:Prop} (h:q) (e:Rs q->p:=by intro h;refine Z8 ?_;refine Z5 ?_;exact h.o):p:=e ⟨h⟩
theorem mR {p q:Prop} (h:q) (e:Rs q->p:=by intro h;refine Z8 ?_;refine Z6 ?_;exact h.o):p:=e ⟨h⟩
theorem qS {p q:Prop} (h:q) (e:Rs q->p:=by intro h;refine Z8 ?_;refine Z7 ?_;exact h.o):p:=e ⟨h⟩
theorem jq {p q:Prop} (h:q) (e:Rs q->p:=by intro h;refine Z8 ?_;refine Z8 ?_;exact h.o):p:=e ⟨h⟩
theorem ve {p q:Prop} (h:q) (e:Rs q->p:=by intro h;refine jq ?_;refine Z1 ?_;exact h.o):p:=e ⟨h⟩
theorem xA {p q:Prop} (h:q) (e:Rs q->p:=by intro h;refine jq ?_;refine Z2 ?_;exact h.o):p:=e ⟨h⟩
theorem wy {p q:Prop} (h:q) (e:Rs q->p:=by intro h;refine jq ?_;refine Z4 ?_;exact h.o):p:=e ⟨h⟩
theorem xB {p q:Prop} (h:q) (e:Rs q->p:=by intro h;refine jq ?_;refine Z6 ?_;exact h.o):p:=e ⟨h⟩
theorem xC {p q:Prop} (h:q) (e:Rs q->p:=by intro h;refine jq ?_;refine Z7 ?_;exact h.o):p:=e ⟨h⟩
theorem xD {p q:Prop} (h:q) (e:Rs q->p:=by intro h;refine jq ?_;refine SV ?_;exact h.o):p:=e ⟨h⟩
theorem wD {p q:Prop} (h:q) (e:Rs q->p:=by intro h;refine jq ?_;refine TX ?_;exact h.o):p:=e ⟨h⟩
theorem Ih {P:Program} {f n:Nat} {c:Ak} {r:List Kk} {args:List AA} {S:AB} {R:AA->AB->Prop} {q:Prop} (ok:L0 P f n c r) (h:q) (hl:Nat.ble args.length n=true:=by rfl) (e:Rs q->vc P c (rF r R) (TY 0 args) S:=by intro h;dsimp only [TY];exact h.o):AU P f args S R:=ok.2 (e ⟨h⟩) (Nat.le_of_ble_eq_true hl)
end Go.Vc
end
section
set_option maxRecDepth 100000
namespace Go.Proofs.YtlibocgedgdmlaaGreat.E
open Go.Vc
abbrev Du:Nat:=4
abbrev CH:Nat:=5
abbrev B0:Nat:=9
abbrev Dg:Nat:=10
abbrev AX:Nat:=11
abbrev DB:Nat:=12
abbrev DI:Nat:=13
abbrev Cc:Nat:=14
abbrev GD:Nat:=15
abbrev Cx:Nat:=16
abbrev D4:Nat:=21
abbrev HI:Nat:=22
abbrev DT:Nat:=23
abbrev Ft:Nat:=24
abbrev Bi:Nat:=25
abbrev CG:Nat:=26
abbrev CW:Nat:=27
abbrev B7:Nat:=28
abbrev B8:Nat:=29
abbrev B6:Nat:=30
abbrev CV:Nat:=31
abbrev Bo:Nat:=32
abbrev CU:Nat:=33
abbrev C9:Nat:=34
abbrev Da:Nat:=41
abbrev CA:Nat:=42
abbrev DC:Nat:=45
abbrev Af:Nat:=47
abbrev Bv:Nat:=48
abbrev Bg:Nat:=49
abbrev Bf:Nat:=50
abbrev Bh:Nat:=51
abbrev CI:Nat:=52
abbrev B9:Nat:=53
abbrev FF:Nat:=54
abbrev BR:Nat:=55
abbrev C0:Nat:=56
abbrev DE:Nat:=57
abbrev Bw:Nat:=58
abbrev BF:Nat:=59
abbrev Ag:Nat:=60
abbrev Ch:Nat:=61
abbrev Cg:Nat:=63
abbrev Fv:Nat:=64
abbrev Bl:Nat:=65
abbrev BG:Nat:=68
abbrev B5:Nat:=69
abbrev BV:Nat:=70
abbrev Ee:Nat:=71
abbrev Ay:Nat:=72
abbrev BK:Nat:=73
abbrev BA:Nat:=74
abbrev Ax:Nat:=75
abbrev BB:Nat:=76
abbrev BI:Nat:=77
abbrev CZ:Nat:=78
abbrev Ad:Nat:=79
abbrev Ed:Nat:=80
abbrev D7:Nat:=81
abbrev Ev:Nat:=82
abbrev A6:Nat:=83
abbrev Ba:Nat:=86
abbrev Br:Nat:=87
abbrev EX:Nat:=89
abbrev CX:Nat:=90
abbrev B1:Nat:=95
abbrev Aq:Nat:=96
abbrev Ds:Nat:=97
abbrev EW:Nat:=98
abbrev Cp:Nat:=99
abbrev CO:Nat:=113
abbrev Gx:Nat:=115
abbrev Aw:Nat:=116
abbrev DF:Nat:=118
abbrev Au:Nat:=119
abbrev DS:Nat:=120
abbrev Yh:Ak:=(sq [oV 2 (.c .Bp)] [0] (sq [oM 4 0,oG 5 DT [(.t 4)],oM 3 5] [0,3] (.seq (.ops [oM 6 0,oM 8 0,oM 9 3,oM 11 0,oT 12 11,gp 13 (.build [(.int .i64 0),(.int .i64 0)] [(1,1,(.t 12))]),oM 15 3,oN 16 15,gp 7 (.Kw 3 0 Ft [(.t 6)] [(.t 6),(.c .AM),(.c .AM),(.c (.bool false))]),gp 14 (.PD Bi [(.c .AM),(.t 13)]),gp 10 (.JG 2),gp 17 (.Mr 1 2 16 [(.int .i64 0),(.bool false)] (.t 16) (.t 16)),gp 18 (.build [.Bp,(.str []),.AM,.H9,.AM,.AM,.Bp,.Bp,.Bp,.Bp] [(0,1,(.t 7)),(1,1,(.t 8)),(2,1,(.t 9)),(3,1,(.t 10)),(4,1,(.t 14)),(5,1,(.t 17))]),gp 19 (.box 0 (.t 18)),oM 2 19] (some (8,3,[0,2,3,5,6,7,9,10,1,8,4,11,12,13,14])) [2]) .ret)))
theorem WE:L0 Tryz.prog GD 20 Yh [.tmp 2]:=okW Tryz.func15
abbrev M1:Ak:=(sq [gp 3 (.box 0 (.t 1)),gp 4 (.alloc 0 [(.int .i64 0),(.int .i64 0),(.int .i64 0),.AM,(.str [])])] [0,3,4] (.seq (sq [oF 5 0 3,oL 6 5] [0,3,4,6] (.block 0 (sq [oJ 8 .eql 6 1,oM 7 8] [0,3,4,6,7] (.cond (.t 7) (sq [oM 9 0,oF 10 1 3,oA 11 4 10,oG 12 CG [(.t 9),(.t 11)],oS 5 4 12] [4] .ret) (sq [oJ 14 .eql 6 2,oM 13 14] [0,3,4,6,13] (.cond (.t 13) (sq [oM 15 0,oA 16 8 3,oG 17 CW [(.t 15),(.t 16)],oS 5 4 17] [4] .ret) (sq [oJ 19 .eql 6 3,oM 18 19] [0,3,4,6,18] (.cond (.t 18) (sq [oM 20 0,oF 21 5 3,oL 22 21,oG 23 B7 [(.t 20),(.t 22)],oS 5 4 23] [4] .ret) (sq [oJ 25 .eql 6 4,oM 24 25] [0,3,4,6,24] (.cond (.t 24) (sq [oM 26 0,oF 27 7 3,oL 28 27,oG 29 B8 [(.t 26),(.t 28)],oS 5 4 29] [4] .ret) (sq [oJ 31 .eql 6 5,oM 30 31] [0,3,4,6,30] (.cond (.t 30) (sq [oM 32 0,oF 33 5 3,oL 34 33,oG 35 B6 [(.t 32),(.t 34)],oS 5 4 35] [4] .ret) (sq [oJ 37 .eql 6 6,oM 36 37] [0,3,4,6,36] (.cond (.t 36) (sq [oM 38 0,oG 39 CV [(.t 38)],oS 5 4 39] [4] .ret) (.join [0,3,4,6] [40] 2 (sq [oJ 41 .eql 6 7,oM 40 41] [0,3,4,6,40] (.cond (.t 40) .skip (.ops [oJ 42 .eql 6 8,oM 40 42] none [0,3,4,6,40]))) (.cond (.t 40) (sq [oM 43 0,oA 44 8 3,oG 45 Bo [(.t 43),(.t 44)],oS 5 4 45] [4] .ret) (sq [oJ 47 .eql 6 9,oM 46 47] [0,4,46] (.cond (.t 46) (.seq (sq [oM 48 0,oG 49 CU [(.t 48)]] [4,49] (.cond (.t 49) (sq [gp 50 (.build [(.int .i64 0),(.int .i64 0),(.int .i64 0),.AM,(.str [])] [(1,1,(ci 1))]),oS 5 4 50] [4] .ret) .skip)) (sq [gp 51 (.build [(.int .i64 0),(.int .i64 0),(.int .i64 0),.AM,(.str [])] []),oS 5 4 51] [4] .ret)) .skip)))))))))))))))))) (sq [oG 52 C9 [(ci 3)],oS 5 4 52] [4] .ret)))
theorem L4:L0 Tryz.prog Cx 53 M1 [.cell 4 5 true]:=okW Tryz.func16
abbrev Ko:Ak:=(sq [gp 3 (.box 0 (.t 1)),gp 4 (.alloc 0 [(.int .i64 0),(.int .i64 0),(.int .i64 0),.AM,(.str [])])] [0,3,4] (.seq (.ops [oM 10 0,oK 11 10,oF 12 0 11,oL 13 12,oA 14 4 3,oG 15 CA [(.t 13),(.t 14)],oM 9 15,oX 16 9 0,oX 17 9 1,oM 5 16,oM 6 17] (some (0,0,[0,1,2,3,4,5,6,7,8,9,10])) [0,4,5,6]) (.seq (sq [oM 18 5,oN 19 18,oC 20 0] [0,4,6,18,19,20] (.block 0 (.loop [0,4,6,18,19] [20] 2 (sq [oB 21 .lss 20 19] [0,4,6,18,19,20,21] (.seq (.cond (.t 21) .skip (.exit 0)) (.seq (.block 1 (sq [oI 22 3 18 20,oA 23 3 22,gp 8 (.alloc 0 [(.int .i64 0),(.int .i64 0),(.str [])]),oS 3 8 23] [0,4,6,8,18,19,20] (.ops [oM 24 0,oA 25 3 8,oG 26 Bv [(.t 24),(.t 25)]] none [0,4,6,18,19,20]))) (.ops [oJ 27 .add 20 1,oM 20 27] none [0,4,6,18,19,20]))))))) (sq [oM 28 6,oG 29 C9 [(.t 28)],oS 5 4 29] [4] .ret))))
theorem KM:L0 Tryz.prog CG 30 Ko [.cell 4 5 true]:=okW Tryz.func26
abbrev LH:Ak:=(sq [gp 3 (.box 0 (.t 1)),gp 4 (.alloc 0 [(.int .i64 0),(.int .i64 0),(.int .i64 0),.AM,(.str [])])] [0,3,4] (.join [4] [] 2 (.block 0 (sq [oF 10 5 3,oL 11 10,oJ 12 .lss 11 0,gb 13 (.C8 (.t 12)),gq 14 (.DJ 5 (.t 3)) 13 false,gq 15 (.load 1 false (.t 14)) 13 false,gq 16 (.bin .none .gtr (.t 15) (ci 1)) 13 false,gp 17 (.pick (.t 13) (.c (.bool true)) (.t 16)),gb 18 (.C8 (.t 17)),gq 19 (.DJ 6 (.t 3)) 18 false,gq 20 (.load 1 false (.t 19)) 18 false,gq 21 (.bin .none .lss (.t 20) (ci 1)) 18 false,gp 22 (.pick (.t 18) (.c (.bool true)) (.t 21)),gb 23 (.C8 (.t 22)),gq 24 (.DJ 6 (.t 3)) 23 false,gq 25 (.load 1 false (.t 24)) 23 false,gq 26 (.bin .none .gtr (.t 25) (ci 50)) 23 false,gp 27 (.pick (.t 23) (.c (.bool true)) (.t 26)),oM 9 27] [0,3,4,9] (.cond (.t 9) (sq [oG 28 C9 [(ci 2)],oS 5 4 28] [4] .ret) (sq [oF 30 5 3,oL 31 30,oJ 32 .eql 31 0,oM 29 32] [0,3,4,29] (.cond (.t 29) (.ops [oM 33 0,oF 34 6 3,oL 35 34,oG 36 Bg [(.t 33),(.t 35)]] none [4]) (.ops [oM 5 0,oF 6 6 3,oL 7 6,oG 8 Bf [(.t 5),(.t 7)]] none [4])))))) (sq [gp 37 (.build [(.int .i64 0),(.int .i64 0),(.int .i64 0),.AM,(.str [])] []),oS 5 4 37] [4] .ret)))
theorem Ks:L0 Tryz.prog CW 38 LH [.cell 4 5 true]:=okW Tryz.func27
abbrev KP:Ak:=(sq [gp 4 (.alloc 0 [(.int .i64 0),(.int .i64 0),(.int .i64 0),.AM,(.str [])])] [0,1,4] (.seq (sq [oM 7 1,oJ 8 .lss 7 0,gb 9 (.C8 (.t 8)),gq 10 (.C8 (.t 1)) 9 false,gq 11 (.C8 (.t 0)) 9 false,gq 12 (.E5 (.t 11)) 9 false,gq 13 (.DJ 1 (.t 12)) 9 false,gq 14 (.load 1 false (.t 13)) 9 false,gq 15 (.len true (.t 14)) 9 false,gq 16 (.bin .none .gtr (.t 10) (.t 15)) 9 false,gp 17 (.pick (.t 9) (.c (.bool true)) (.t 16))] [0,1,4,17] (.cond (.t 17) (sq [oG 18 C9 [(ci 2)],oS 5 4 18] [4] .ret) .skip)) (sq [oM 20 0,oK 21 20,oF 22 2 21,oL 23 22,oM 24 1,oG 25 Bh [(.t 23),(.t 24)],oM 19 25,oX 26 19 0,oX 27 19 1,oM 5 26,oM 6 27] [0,1,4,5] (sq [oM 28 5,oM 29 1,oM 30 0,oK 31 30,oF 32 2 31,oL 33 32,oM 34 5,oI 35 1 33 34,oL 36 35,oB 37 .sub 29 36,gp 38 (.build [(.int .i64 0),(.int .i64 0),(.int .i64 0),.AM,(.str [])] [(1,1,(.t 28)),(2,1,(.t 37))]),oS 5 4 38] [4] .ret))))
theorem Jk:L0 Tryz.prog B7 39 KP [.cell 4 5 true]:=okW Tryz.func28
abbrev KQ:Ak:=(sq [gp 3 (.box 0 (.t 1)),gp 4 (.alloc 0 [(.int .i64 0),(.int .i64 0),(.int .i64 0),.AM,(.str [])])] [0,3,4] (.seq (sq [oL 8 3,oG 9 CI [(.t 8)],gp 10 (.not (.t 9))] [0,3,4,10] (.cond (.t 10) (sq [oG 11 C9 [(ci 4)],oS 5 4 11] [4] .ret) .skip)) (.seq (.ops [oM 12 0,oK 13 12,oF 14 3 13,oL 15 14,oL 16 3,gp 17 (.Ke .str false .AM (.t 15) (.t 16)),gp 18 (.NF 2 1 B9 [(.t 17)]),gp 5 (.Mk 1 0 [.AM]),oS 1 5 18] (some (6,2,[0,1,2,3,4,5,6,7,8])) [0,3,4,5]) (.seq (sq [oM 19 0,oK 20 19,oF 21 4 20,oL 22 21,oN 23 22,oC 24 0] [0,3,4,5,22,23,24] (.block 0 (.loop [0,3,4,5,22,23] [24] 3 (sq [oB 25 .lss 24 23] [0,3,4,5,22,23,24,25] (.seq (.cond (.t 25) .skip (.exit 0)) (.seq (.block 1 (sq [oI 26 2 22 24,oA 27 2 26,gp 7 (.alloc 0 [(.int .i64 0),(.int .i64 0)]),oS 2 7 27] [0,3,4,5,7,22,23,24] (.ops [oM 28 0,oK 29 28,oF 30 1 29,oL 31 30,oF 32 0 7,oL 33 32,oF 34 1 7,oL 35 34,gp 36 (.GV (.func BR) [] [(.t 3),(.t 5)]),oG 37 FF [(.t 31),(.t 33),(.t 35),(.t 36)]] (some (0,0,[0,1,2,3,4,5,6,7,8,9])) [0,3,4,5,22,23,24]))) (.ops [oJ 38 .add 24 1,oM 24 38] none [0,3,4,5,22,23,24]))))))) (sq [oL 39 5,oG 40 C0 [(.t 39)]] [4,5] (sq [oL 41 5,gp 42 (.build [(.int .i64 0),(.int .i64 0),(.int .i64 0),.AM,(.str [])] [(3,1,(.t 41))]),oS 5 4 42] [4] .ret))))))
theorem Jl:L0 Tryz.prog B8 43 KQ [.cell 4 5 true]:=okW Tryz.func29
abbrev JR:Ak:=(sq [oM 6 0,oL 7 2,oB 8 .eql 6 7] [1,3,8] (.cond (.t 8) (.ops [oL 9 3,oM 10 1,gp 11 (.A7 true 1 1 [(.int .i64 0)] [(0,1,(.t 10))]),oP 12 1 8 9 11,oS 1 3 12] none []) .skip))
theorem I9:L0 Tryz.prog BR 13 JR []:=okW Tryz.func55
abbrev KO:Ak:=(sq [gp 4 (.alloc 0 [(.int .i64 0),(.int .i64 0),(.int .i64 0),.AM,(.str [])])] [0,1,4] (.seq (.block 0 (sq [oM 6 1,oJ 7 .lss 6 0,gb 8 (.C8 (.t 7)),gq 9 (.C8 (.t 1)) 8 false,gq 10 (.C8 (.t 0)) 8 false,gq 11 (.E5 (.t 10)) 8 false,gq 12 (.DJ 5 (.t 11)) 8 false,gq 13 (.load 1 false (.t 12)) 8 false,gq 14 (.len false (.t 13)) 8 false,gq 15 (.bin .none .geq (.t 9) (.t 14)) 8 false,gp 16 (.pick (.t 8) (.c (.bool true)) (.t 15)),oM 5 16] [0,1,4,5] (.cond (.t 5) (sq [oG 17 C9 [(ci 2)],oS 5 4 17] [4] .ret) (sq [oM 19 0,oK 20 19,oF 21 5 20,oL 22 21,oM 23 1,oI 24 2 22 23,oF 25 1 24,oL 26 25,oM 18 26] [0,1,4,18] (.cond (.t 18) (sq [oM 27 0,oK 28 27,oF 29 5 28,oL 30 29,oM 31 1,oI 32 2 30 31,oF 33 0 32,oL 34 33,gp 35 (.build [(.int .i64 0),(.int .i64 0),(.int .i64 0),.AM,(.str [])] [(1,1,(.t 34))]),oS 5 4 35] [4] .ret) .skip))))) (sq [oM 36 0,oM 37 1,oG 38 Bw [(.t 36),(.t 37)],oG 39 DE [(.t 38)],gp 40 (.field 0 1 false (.t 39)),gp 41 (.build [(.int .i64 0),(.int .i64 0),(.int .i64 0),.AM,(.str [])] [(1,1,(.t 40))]),oS 5 4 41] [4] .ret)))
theorem Jj:L0 Tryz.prog B6 42 KO [.cell 4 5 true]:=okW Tryz.func30
abbrev LG:Ak:=(sq [gp 2 (.alloc 0 [(.int .i64 0),(.int .i64 0),(.int .i64 0),.AM,(.str [])])] [0,2] (sq [oM 5 0,oK 6 5,oF 7 6 6,gp 8 (.L8 4 (.t 7)),oG 9 BF [(.t 8),(.c .Bp)],oM 3 9] [0,2,3] (.seq (sq [oM 10 3,oJ 11 .lss 10 0] [0,2,3,11] (.cond (.t 11) (sq [oG 12 C9 [(ci 8)],oS 5 2 12] [2] .ret) .skip)) (sq [oM 13 0,oK 14 13,oF 15 1 14,oL 16 15,gp 4 (.alloc 0 [(.str [])]),oS 1 4 16] [0,2,3,4] (sq [oM 17 0,oM 18 3,oK 19 17,oF 20 6 19,gp 21 (.D_ 1 (some 4) (.t 20) (.t 18)),oS 1 21 4] [2,3] (sq [oM 22 3,gp 23 (.build [(.int .i64 0),(.int .i64 0),(.int .i64 0),.AM,(.str [])] [(1,1,(.t 22))]),oS 5 2 23] [2] .ret))))))
theorem Kr:L0 Tryz.prog CV 24 LG [.cell 2 5 true]:=okW Tryz.func31
abbrev JQ:Ak:=(sq [gp 3 (.box 0 (.t 1)),gp 4 (.alloc 0 [(.int .i64 0),(.int .i64 0),(.int .i64 0),.AM,(.str [])])] [0,3,4] (.seq (.seq (.ops [oF 5 5 3,oL 6 5,oJ 7 .lss 6 0,gb 8 (.C8 (.t 7)),gq 9 (.DJ 5 (.t 3)) 8 false,gq 10 (.load 1 false (.t 9)) 8 false,gq 11 (.bin .none .geq (.t 10) (ci 4)) 8 false,gp 12 (.pick (.t 8) (.c (.bool true)) (.t 11)),gb 13 (.C8 (.t 12)),gq 14 (.C8 (.t 0)) 13 false,gq 15 (.DJ 5 (.t 3)) 13 false,gq 16 (.load 1 false (.t 15)) 13 false,gq 17 (.E5 (.t 14)) 13 false,gq 18 (.DJ 6 (.t 17)) 13 false,gq 19 (.D_ 1 (some 4) (.t 18) (.t 16)) 13 false,gq 20 (.load 1 false (.t 19)) 13 false,gq 21 (.bin .ptr .eql (.t 20) (.c .Bp)) 13 false,gp 22 (.pick (.t 13) (.c (.bool true)) (.t 21))] (some (0,0,[0,1,2,3,4,5,6,7,8,9,10,11,12,13,14,15,16,17])) [0,3,4,22]) (.cond (.t 22) (sq [oG 23 C9 [(ci 7)],oS 5 4 23] [4] .ret) .skip)) (.seq (sq [oF 24 0 3,oL 25 24,oJ 26 .eql 25 8] [0,3,4,26] (.cond (.t 26) (.seq (.ops [oM 27 0,oF 28 5 3,oL 29 28,oK 30 27,oF 31 6 30,gp 32 (.D_ 1 (some 4) (.t 31) (.t 29)),oL 33 32,oK 34 33,oL 35 34,gp 36 (.build [(.int .i64 0),(.int .i64 0),(.int .i64 0),.AM,(.str [])] [(4,1,(.t 35))]),oS 5 4 36] (some (0,0,[0,1,2,3,4,5,6,7,8,9,10])) [4]) .ret) .skip)) (.seq (.ops [oM 37 0,oF 38 5 3,oL 39 38,oK 40 37,oF 41 6 40,gp 42 (.D_ 1 (some 4) (.t 41) (.t 39)),gn (.store 1 (.t 42) (.c .Bp))] (some (0,0,[0,1,2,3,4,5,6])) [4]) (sq [gp 43 (.build [(.int .i64 0),(.int .i64 0),(.int .i64 0),.AM,(.str [])] []),oS 5 4 43] [4] .ret)))))
theorem I8:L0 Tryz.prog Bo 44 JQ [.cell 4 5 true]:=okW Tryz.func32
abbrev LD:Ak:=(sq [oV 2 (.c (.bool false))] [0] (sq [oM 3 0,oK 4 3,oF 5 4 4,oL 6 5,oN 7 6,oJ 8 .eql 7 0,gb 9 (.C8 (.t 8)),gq 10 (.C8 (.t 0)) 9 true,gq 11 (.E5 (.t 10)) 9 true,gq 12 (.DJ 5 (.t 11)) 9 true,gq 13 (.load 1 false (.t 12)) 9 true,gq 14 (.call Ag [(.t 13),(.c (.fn (.func Ch) [] []))]) 9 true,gq 15 (.not (.t 14)) 9 true,gp 16 (.pick (.t 9) (.t 15) (.c (.bool false))),oM 2 16] [2] .ret))
theorem Kp:L0 Tryz.prog CU 17 LD [.tmp 2]:=okW Tryz.func33
abbrev al:Ak:=(sq [gp 2 (.alloc 0 [(.int .i64 0),(.int .i64 0),(.int .i64 0),.AM,(.str [])])] [0,2] (sq [oM 3 0,gp 4 (.build [(.int .i64 0),(.int .i64 0),(.int .i64 0),.AM,(.str [])] [(0,1,(.t 3))]),oS 5 2 4] [2] .ret))
theorem Yi:L0 Tryz.prog C9 5 al [.cell 2 5 true]:=okW Tryz.func34
abbrev Jh:Ak:=(sq [gp 3 (.box 0 (.t 1))] [0,3] (.seq (.ops [oM 13 0,oK 14 13,oF 15 1 14,oL 16 15,oF 17 0 3,oL 18 17,oF 19 0 3,oL 20 19,oF 21 1 3,oL 22 21,oB 23 .add 20 22,oG 24 BG [(.t 16),(.t 18),(.t 23)],oM 12 24,oX 25 12 0,oX 26 12 1,oM 4 25,oM 5 26] (some (0,0,[0,1,2,3,4,5,6,7,8,9,10,11,12,13,14,15,16])) [0,3,4,5]) (sq [oF 27 2 3,oL 28 27,oT 29 28,oF 30 1 3,oL 31 30,oB 32 .sub 29 31,oM 6 32] [0,3,4,5,6] (sq [oM 33 0,oM 34 4,oM 35 5,oM 36 6,oG 37 B5 [(.t 33),(.t 34),(.t 35),(.t 36)]] [0,3,4,5,6] (.seq (.ops [oM 38 0,oM 39 0,oK 40 39,oF 41 4 40,oL 42 41,oA 43 3 3,oM 45 4,oM 46 5,oM 47 6,oB 48 .add 46 47,gp 49 (.build [(.int .i64 0),(.int .i64 0)] [(0,1,(.t 45)),(1,1,(.t 48))]),oG 44 BV [(.t 42),(.t 43)],oG 50 Bi [(.t 44),(.t 49)],oK 51 38,oF 52 4 51,oS 1 52 50] (some (0,0,[0,1,2,3,4,5,7,8,9,10,11,6,12,13,14,15])) [0,3]) (.seq (.ops [oM 54 0,oK 55 54,oF 56 2 55,oL 57 56,oF 58 0 3,oL 59 58,oG 60 Bh [(.t 57),(.t 59)],oM 53 60,oX 61 53 0,oX 62 53 1,oM 7 61,oM 8 62] (some (0,0,[0,1,2,3,4,5,6,7,8,9,10,11])) [0,3,7]) (.seq (.ops [oM 64 0,oK 65 64,oF 66 2 65,oL 67 66,oF 68 0 3,oL 69 68,oF 70 1 3,oL 71 70,oB 72 .add 69 71,oG 73 Bh [(.t 67),(.t 72)],oM 63 73,oX 74 63 0,oX 75 63 1,oM 9 74,oM 10 75] (some (0,0,[0,1,2,3,4,5,6,7,8,9,10,11,12,13,14])) [0,3,7,9]) (sq [oF 76 2 3,oL 77 76,oG 78 Ee [(.t 77)],gp 79 (.field 1 1 false (.t 78)),oJ 80 .add 79 1,gp 81 (.Gy 2 16 [(.int .i64 0),(.bool false)] (.t 80) (.t 80)),oM 11 81] [0,3,7,9,11] (sq [oM 82 0,oM 83 0,oK 84 83,oF 85 5 84,oL 86 85,oM 87 7,oM 88 9,oJ 89 .add 88 1,oM 90 11,oG 91 Ay [(.t 86),(.t 87),(.t 89),(.t 90)],oK 92 82,oF 93 5 92,oS 1 93 91] [0,3] (.seq (.ops [oM 94 0,oM 95 0,oK 96 95,oF 97 2 96,oL 98 97,oA 99 3 3,oG 100 BK [(.t 98),(.t 99)],oK 101 94,oF 102 2 101,oS 1 102 100] (some (0,0,[0,1,2,3,4,5,6,7,8,9])) [0,3]) (.ops [oM 103 0,oM 104 0,oK 105 104,oF 106 1 105,oL 107 106,oA 108 3 3,oG 109 BA [(.t 107),(.t 108)],oK 110 103,oF 111 1 110,oS 1 111 109] (some (0,0,[0,1,2,3,4,5,6,7,8,9])) [])))))))))))
theorem JP:L0 Tryz.prog Bv 112 Jh []:=okW Tryz.func48
abbrev I7:Ak:=(sq [gp 2 (.box 0 (.t 0))] [1,2] (.seq (sq [oL 7 2,oK 8 7,oF 9 4 8,oL 10 9,oN 11 10,oJ 12 .eql 11 0] [1,2,12] (.cond (.t 12) .ret .skip)) (sq [oL 13 2,oK 14 13,oF 15 4 14,oL 16 15,gp 17 (.D_ 2 none (.t 16) (ci 0)),oA 18 2 17,gp 4 (.alloc 0 [(.int .i64 0),(.int .i64 0)]),oS 2 4 18] [1,2,4] (.seq (.ops [oL 20 2,oK 21 20,oF 22 1 21,oL 23 22,oF 24 0 4,oL 25 24,oF 26 1 4,oL 27 26,oF 28 0 4,oL 29 28,oM 30 1,oB 31 .add 29 30,gp 32 (.min [(.t 27),(.t 31)]),oG 33 BG [(.t 23),(.t 25),(.t 32)],oM 19 33,oX 34 19 0,oX 35 19 1,oM 5 34,oM 6 35] (some (0,0,[0,1,2,3,4,5,6,7,8,9,10,11,12,13,14,15,16,17,18])) [2,4,6]) (sq [oF 36 1 4,oL 37 36,oM 38 6,gp 39 (.min [(.t 37),(.t 38)]),oF 40 1 4,oS 1 40 39] [2,4] (.seq (.ops [oL 41 2,oL 42 2,oK 43 42,oF 44 4 43,oL 45 44,oA 46 2 4,⟨(some 47),.call Ax [(.t 45),(.t 46)],none,false,[(41,1,false,(.t 2))]⟩,gn (.again 41 1 false (.t 2)),oK 48 41,oF 49 4 48,oS 1 49 47] (some (0,0,[0,1,2,3,4,5,6,7,8,9])) [2,4]) (.ops [oL 50 2,oK 51 50,oF 52 1 51,oL 53 52,oF 54 0 4,oL 55 54,oF 56 1 4,oL 57 56,gp 58 (.GV (.func BB) [] [(.t 2)]),oG 59 FF [(.t 53),(.t 55),(.t 57),(.t 58)]] (some (0,0,[0,1,2,3,4,5,6,7,8,9])) [])))))))
theorem Il:L0 Tryz.prog Bg 60 I7 []:=okW Tryz.func49
abbrev IG:Ak:=(sq [oL 8 2,oK 9 8,oF 10 3 9,oL 11 10,oM 12 0,gp 13 (.Ke .str false .AM (.t 11) (.t 12)),oM 5 13] [0,1,2,5] (sq [oM 15 5,oM 16 1,oG 17 BI [(.t 15),(.t 16)],oM 14 17,oX 18 14 0,oX 19 14 1,oM 6 18,oM 7 19] [0,1,2,5,6] (.ops [oL 20 2,oK 21 20,oF 22 3 21,oL 23 22,oM 24 0,oM 25 5,oM 26 6,oM 27 1,⟨(some 28),.A7 false 1 0 [(.int .i64 0)] [(0,1,(.t 27))],none,false,[(20,1,false,(.t 2)),(23,1,false,(.t 22))]⟩,gn (.again 20 1 false (.t 2)),gn (.again 23 1 false (.t 22)),⟨(some 29),.call CZ [(.t 25),(.t 26),(.t 28)],none,false,[(20,1,false,(.t 2)),(23,1,false,(.t 22))]⟩,gn (.again 20 1 false (.t 2)),gn (.again 23 1 false (.t 22)),gn (.ZD .str (.t 23) (.t 24) (.t 29))] (some (0,0,[0,1,2,3,4,5,6,7,8,9,10])) [])))
theorem H6:L0 Tryz.prog BB 30 IG []:=okW Tryz.func76
abbrev I6:Ak:=(.block 0 (.loop [0] [1] 0 (.seq (sq [oM 6 1,oJ 7 .gtr 6 0] [0,1,7] (.cond (.t 7) .skip (.exit 0))) (.block 1 (sq [oM 8 0,oK 9 8,oF 10 5 9,oL 11 10,oG 12 Ad [(.t 11),(.c (.fn (.func Ch) [] []))],oM 4 12] [0,1,4] (.seq (sq [oM 13 4,oJ 14 .lss 13 0] [0,1,4,14] (.cond (.t 14) .ret .skip)) (sq [oM 15 0,oM 16 4,oG 17 Bw [(.t 15),(.t 16)],oM 5 17] [0,1,4,5] (.seq (.ops [oM 18 0,oK 19 18,oF 20 5 19,oL 21 20,oM 22 4,oM 23 5,oG 24 DE [(.t 23)],gp 25 (.field 0 1 false (.t 24)),gp 26 (.build [(.int .i64 0),(.bool false)] [(0,1,(.t 25)),(1,1,(.c (.bool true)))]),oI 27 2 21 22,oS 2 27 26] (some (7,0,[0,1,2,3,4,5,6,7,8,9,10])) [0,1,5]) (.ops [oM 28 1,oM 29 5,oT 30 29,oJ 31 .add 30 1,oB 32 .sub 28 31,oM 1 32] none [0,1])))))))))
theorem Ik:L0 Tryz.prog Bf 33 I6 []:=okW Tryz.func50
abbrev LF:Ak:=(sq [oV 4 (.c (.str []))] [0,1] (sq [oM 6 0,oK 7 6,oF 8 1 7,oL 9 8,oT 10 9,oM 5 10] [0,1,5] (.join [0,1] [5] 0 (sq [oM 11 1,oJ 12 .add 11 1,oM 13 0,oK 14 13,oF 15 2 14,oL 16 15,oN 17 16,oB 18 .lss 12 17] [0,1,5,18] (.cond (.t 18) (.ops [oM 19 0,oK 20 19,oF 21 2 20,oL 22 21,oM 23 1,oJ 24 .add 23 1,oI 25 1 22 24,oL 26 25,oJ 27 .sub 26 1,oM 5 27] none [0,1,5]) .skip)) (.seq (.ops [oM 28 0,oK 29 28,oF 30 1 29,oL 31 30,oM 32 0,oK 33 32,oF 34 2 33,oL 35 34,oM 36 1,oI 37 1 35 36,oL 38 37,oM 39 5,gp 40 (.slice 0 (.t 31) (some (.t 38)) (some (.t 39))),oM 4 40] (some (0,0,[0,1,2,3,4,5,6,7,8,9,10,11,12,13])) [4]) .ret))))
theorem Kq:L0 Tryz.prog Bw 41 LF [.tmp 4]:=okW Tryz.func58
abbrev Rb:Ak:=(sq [gp 1 (.box 0 (.t 0)),oV 2 (.c (.bool false))] [1] (sq [oF 3 1 1,oL 4 3,gp 5 (.not (.t 4)),oM 2 5] [2] .ret))
theorem QR:L0 Tryz.prog Ch 6 Rb [.tmp 2]:=okW Tryz.func61
abbrev KN:Ak:=(sq [oM 13 0,oK 14 13,oF 15 3 14,oL 16 15,gp 17 (.K6 (.t 16))] [0,1,2,3,17] (.block 0 (.loop [0,1,2,3,17] [] 0 (sq [gp 18 (.S5 (.t 17)),oX 19 18 0] [0,1,2,3,17,19] (.seq (.cond (.t 19) .skip (.exit 0)) (.block 1 (sq [gp 20 (.NZ (.t 17)),oX 21 20 0,oX 22 20 1,oM 8 21,oM 9 22] [0,1,2,3,8,9,17] (sq [gp 10 (.DU 1)] [0,1,2,3,8,9,10,17] (.seq (sq [oM 23 9,oN 24 23,oC 25 0] [0,1,2,3,8,10,17,23,24,25] (.block 2 (.loop [0,1,2,3,8,17,23,24] [10,25] 1 (sq [oB 26 .lss 25 24] [0,1,2,3,8,10,17,23,24,25,26] (.seq (.cond (.t 26) .skip (.exit 2)) (.join [0,1,2,3,8,17,23,24,25] [10] 1 (.block 3 (sq [oI 27 1 23 25,oL 28 27,oM 12 28] [0,1,2,3,8,10,12,17,23,24,25] (.block 4 (sq [oM 30 12,oM 31 1,oB 32 .lss 30 31,oM 29 32] [0,1,2,3,8,10,12,17,23,24,25,29] (.cond (.t 29) (.ops [oM 33 10,oM 34 12,gp 35 (.A7 true 1 1 [(.int .i64 0)] [(0,1,(.t 34))]),oP 36 1 8 33 35,oM 10 36] none [0,1,2,3,8,10,17,23,24,25]) (sq [oM 38 12,oM 39 2,oB 40 .geq 38 39,oM 37 40] [0,1,2,3,8,10,12,17,23,24,25,37] (.cond (.t 37) (.ops [oM 41 10,oM 42 12,oM 43 3,oB 44 .add 42 43,gp 45 (.A7 true 1 1 [(.int .i64 0)] [(0,1,(.t 44))]),oP 46 1 8 41 45,oM 10 46] none [0,1,2,3,8,10,17,23,24,25]) .skip))))))) (.ops [oJ 47 .add 25 1,oM 25 47] none [0,1,2,3,8,10,17,23,24,25]))))))) (.ops [oM 48 0,oK 49 48,oF 50 3 49,oL 51 50,oM 52 8,oM 53 10,gn (.ZD .str (.t 51) (.t 52) (.t 53))] none [0,1,2,3,17]))))))))))
theorem Ji:L0 Tryz.prog B5 54 KN []:=okW Tryz.func69
abbrev HZ:Ak:=(sq [oC 4 0] [0,1] (.seq (sq [oM 6 0,oN 7 6,oC 8 0] [0,1,7,8] (.block 0 (.loop [0,1,7] [8] 0 (sq [oB 9 .lss 8 7] [0,1,7,8,9] (.seq (.cond (.t 9) .skip (.exit 0)) (.seq (.block 1 (sq [oM 10 8,oM 5 10] [0,1,5,7,8] (sq [oM 11 1,oM 12 0,oM 13 5,oI 14 1 12 13,oL 15 14,gp 16 (.peq false (.t 11) (.t 15))] [0,1,5,7,8,16] (.cond (.t 16) (sq [oM 17 5,oM 4 17] [4] .ret) .skip)))) (.ops [oJ 18 .add 8 1,oM 8 18] none [0,1,7,8]))))))) (sq [oC 4 (-1)] [4] .ret)))
theorem HB:L0 Tryz.prog BF 19 HZ [.tmp 4]:=okW Tryz.func59
abbrev EV:Ak:=(sq [oV 4 (.c (.bool false))] [0,1] (sq [oM 5 0,oM 6 1,oG 7 Ad [(.t 5),(.t 6)],oJ 8 .geq 7 0,oM 4 8] [4] .ret))
theorem EO:L0 Tryz.prog Ag 9 EV [.tmp 4]:=okW Tryz.func60
abbrev Er:Ak:=(sq [oC 4 0] [0,1] (.seq (sq [oM 6 0,oN 7 6,oC 8 0] [0,1,7,8] (.block 0 (.loop [0,1,7] [8] 0 (sq [oB 9 .lss 8 7] [0,1,7,8,9] (.seq (.cond (.t 9) .skip (.exit 0)) (.seq (.block 1 (sq [oM 10 8,oM 5 10] [0,1,5,7,8] (sq [oM 11 1,oM 12 0,oM 13 5,oI 14 2 12 13,oA 15 2 14,gp 16 (.Fo (.t 11) [(.t 15)])] [0,1,5,7,8,16] (.cond (.t 16) (sq [oM 17 5,oM 4 17] [4] .ret) .skip)))) (.ops [oJ 18 .add 8 1,oM 8 18] none [0,1,7,8]))))))) (sq [oC 4 (-1)] [4] .ret)))
theorem En:L0 Tryz.prog Ad 19 Er [.tmp 4]:=okW Tryz.func79
abbrev KV:Ak:=(sq [oV 2 (.c .AM)] [0] (.seq (sq [oM 3 0,gp 4 (.GO false (.t 3))] [0,4] (.cond (.t 4) (sq [oV 2 (.c .AM)] [2] .ret) .skip)) (sq [gp 5 (.A7 false 0 1 [] []),oM 6 0,oP 7 1 8 5 6,oM 2 7] [2] .ret)))
theorem J_:L0 Tryz.prog B9 8 KV [.tmp 2]:=okW Tryz.func53
abbrev Hw:Ak:=(sq [oC 4 0,oV 5 (.c (.bool false))] [0,1] (sq [oM 10 0,oN 11 10,oM 6 11] [0,1,6] (sq [oM 12 6,oC 7 0,oM 8 12] [0,1,6,7,8] (.seq (.block 0 (.loop [0,1,6] [7,8] 0 (.seq (sq [oM 13 7,oM 14 8,oB 15 .lss 13 14] [0,1,6,7,8,15] (.cond (.t 15) .skip (.exit 0))) (.block 1 (sq [oM 16 7,oM 17 8,oB 18 .add 16 17,gp 19 (.conv .u64 (.t 18)),gp 20 (.bin .none .shr (.t 19) (.c (.int .u64 1))),gp 21 (.conv .i64 (.t 20)),oM 9 21] [0,1,6,7,8,9] (sq [oM 22 0,oM 23 9,oI 24 1 22 23,oL 25 24,oM 26 1,oG 27 EW [(.t 25),(.t 26)]] [0,1,6,7,8,9,27] (.cond (.t 27) (.ops [oM 28 9,oJ 29 .add 28 1,oM 7 29] none [0,1,6,7,8]) (.ops [oM 30 9,oM 8 30] none [0,1,6,7,8])))))))) (sq [oM 31 7,oM 32 7,oM 33 6,oB 34 .lss 32 33,gb 35 (.C8 (.t 34)),gq 36 (.C8 (.t 0)) 35 true,gq 37 (.C8 (.t 7)) 35 true,gq 38 (.D_ 1 none (.t 36) (.t 37)) 35 true,gq 39 (.load 1 false (.t 38)) 35 true,gq 40 (.C8 (.t 1)) 35 true,gq 41 (.bin .none .eql (.t 39) (.t 40)) 35 true,⟨(some 42),.C8 (.t 41),(some (35,true)),true,[]⟩,gq 43 (.C8 (.t 0)) 42 false,gq 44 (.C8 (.t 7)) 42 false,gq 45 (.D_ 1 none (.t 43) (.t 44)) 42 false,gq 46 (.load 1 false (.t 45)) 42 false,gq 47 (.call Cp [(.t 46)]) 42 false,⟨(some 48),.C8 (.t 47),(some (42,false)),true,[]⟩,gq 49 (.C8 (.t 1)) 48 true,gq 50 (.call Cp [(.t 49)]) 48 true,gq 51 (.pick (.t 48) (.t 50) (.c (.bool false))) 42 false,gq 52 (.pick (.t 42) (.c (.bool true)) (.t 51)) 35 true,gp 53 (.pick (.t 35) (.t 52) (.c (.bool false))),oM 4 31,oM 5 53] [4,5] .ret)))))
theorem HX:L0 Tryz.prog BI 54 Hw [.tmp 4,.tmp 5]:=okW Tryz.func77
abbrev WG:Ak:=(sq [gp 4 (.DU 5),gp 5 (.DU 1),oC 6 0] [0,1,4,5] (.seq (sq [oM 10 0,oT 11 10,oJ 12 .gtr 11 600,gb 13 (.C8 (.t 12)),gq 14 (.C8 (.t 1)) 13 false,gq 15 (.len false (.t 14)) 13 false,gq 16 (.bin .none .gtr (.t 15) (ci 80)) 13 false,gp 17 (.pick (.t 13) (.c (.bool true)) (.t 16))] [0,1,4,5,17] (.cond (.t 17) (sq [gp 4 (.DU 5),gp 5 (.DU 1),oC 6 1] [4,5,6] .ret) .skip)) (sq [oM 18 0,oG 19 GD [(.t 18)],oM 7 19] [1,4,5,7] (.seq (sq [oM 20 1,oN 21 20,oC 22 0] [4,5,7,20,21,22] (.block 0 (.loop [7,20,21] [4,5,22] 4 (sq [oB 23 .lss 22 21] [4,5,7,20,21,22,23] (.seq (.cond (.t 23) .skip (.exit 0)) (.seq (.block 1 (sq [oI 24 8 20 22,oA 25 8 24,gp 9 (.alloc 0 [(.int .i64 0),(.int .i64 0),(.int .i64 0),(.int .i64 0),(.str []),(.int .i64 0),(.int .i64 0),(.str [])]),oS 8 9 25] [4,5,7,9,20,21,22] (sq [oM 26 4,oM 27 7,oA 28 8 9,oG 29 Cx [(.t 27),(.t 28)],gp 30 (.A7 true 1 5 [(.int .i64 0),(.int .i64 0),(.int .i64 0),.AM,(.str [])] [(0,5,(.t 29))]),oP 31 5 64 26 30,oM 4 31] [4,5,7,20,21,22] (.ops [oM 32 5,oM 33 7,oK 34 33,oF 35 1 34,oL 36 35,gp 37 (.A7 true 1 1 [(.str [])] [(0,1,(.t 36))]),oP 38 1 16 32 37,oM 5 38] none [4,5,7,20,21,22])))) (.ops [oJ 39 .add 22 1,oM 22 39] none [4,5,7,20,21,22]))))))) (sq [oM 40 4,oM 41 5,oM 4 40,oM 5 41,oC 6 0] [4,5,6] .ret)))))
theorem NI:L0 Tryz.prog CH 42 WG [.tmp 4,.tmp 5,.tmp 6]:=okW Tryz.func5
abbrev Zo:Ak:=(sq [oM 10 1,oM 8 10] [0,2,3,8] (.block 0 (.loop [0,2,3] [8] 0 (.seq (sq [oM 11 8,oM 12 2,oB 13 .lss 11 12] [0,2,3,8,13] (.cond (.t 13) .skip (.exit 0))) (.join [0,2,3] [8] 0 (.block 1 (sq [oM 16 8,oM 9 16] [0,2,3,8,9] (.seq (.block 2 (.loop [0,2,3,9] [8] 0 (.seq (sq [oM 17 8,oM 18 2,oB 19 .lss 17 18,gb 20 (.C8 (.t 19)),gq 21 (.C8 (.t 0)) 20 true,gq 22 (.C8 (.t 8)) 20 true,gq 23 (.index 1 none false (.t 21) (.t 22)) 20 true,gq 24 (.call A6 [(.t 23)]) 20 true,gp 25 (.pick (.t 20) (.t 24) (.c (.bool false)))] [0,2,3,8,9,25] (.cond (.t 25) .skip (.exit 2))) (.block 3 (.ops [oM 26 8,oJ 27 .add 26 1,oM 8 27] none [0,2,3,8,9]))))) (sq [oM 28 8,oM 29 9,oB 30 .gtr 28 29,gb 31 (.C8 (.t 30)),gq 32 (.C8 (.t 8)) 31 true,gq 33 (.C8 (.t 9)) 31 true,gq 34 (.bin .none .sub (.t 32) (.t 33)) 31 true,gq 35 (.bin .none .leq (.t 34) (ci 12)) 31 true,gp 36 (.pick (.t 31) (.t 35) (.c (.bool false)))] [0,2,3,8,9,36] (.cond (.t 36) (.ops [oM 37 3,oM 38 0,oM 39 9,oM 40 8,gp 41 (.slice 0 (.t 38) (some (.t 39)) (some (.t 40))),oM 42 9,gp 43 (.Fo (.t 37) [(.t 41),(.t 42)])] none [0,2,3,8]) .skip))))) (.ops [oM 14 8,oJ 15 .add 14 1,oM 8 15] none [0,2,3,8]))))))
theorem Wl:L0 Tryz.prog FF 44 Zo []:=okW Tryz.func54
abbrev TZ:Ak:=(sq [oV 4 (.c (.bool false))] [0,1] (sq [oM 5 0,oG 6 DS [(.t 5)],gb 7 (.C8 (.t 6)),gq 8 (.C8 (.t 1)) 7 true,gq 9 (.call DS [(.t 8)]) 7 true,gq 10 (.not (.t 9)) 7 true,gp 11 (.pick (.t 7) (.t 10) (.c (.bool false))),gb 12 (.C8 (.t 11)),gq 13 (.C8 (.t 0)) 12 false,gq 14 (.C8 (.t 1)) 12 false,gq 15 (.bin .none .lss (.t 13) (.t 14)) 12 false,gp 16 (.pick (.t 12) (.c (.bool true)) (.t 15)),oM 4 16] [4] .ret))
theorem RR:L0 Tryz.prog EW 17 TZ [.tmp 4]:=okW Tryz.func98
abbrev RS:Ak:=(sq [oV 2 (.c (.bool false))] [0] (sq [oM 3 0,oM 4 0,oB 5 .neq 3 4,oM 2 5] [2] .ret))
theorem QH:L0 Tryz.prog DS 6 RS [.tmp 2]:=okW Tryz.func120
abbrev Oi:Ak:=(sq [oV 2 (.c (.bool false))] [0] (sq [oM 3 0,oM 4 0,oB 5 .neq 3 4,oM 2 5] [2] .ret))
theorem Nu:L0 Tryz.prog Cp 6 Oi [.tmp 2]:=okW Tryz.func99
end Go.Proofs.YtlibocgedgdmlaaGreat.E
end
section
set_option maxRecDepth 100000
namespace Go.Proofs.YtlibocgedgdmlaaGreat.H
open Go.Vc
abbrev Du:Nat:=4
abbrev CH:Nat:=5
abbrev B0:Nat:=9
abbrev Dg:Nat:=10
abbrev AX:Nat:=11
abbrev DB:Nat:=12
abbrev DI:Nat:=13
abbrev Cc:Nat:=14
abbrev GD:Nat:=15
abbrev Cx:Nat:=16
abbrev D4:Nat:=21
abbrev HI:Nat:=22
abbrev DT:Nat:=23
abbrev Ft:Nat:=24
abbrev Bi:Nat:=25
abbrev CG:Nat:=26
abbrev CW:Nat:=27
abbrev B7:Nat:=28
abbrev B8:Nat:=29
abbrev B6:Nat:=30
abbrev CV:Nat:=31
abbrev Bo:Nat:=32
abbrev CU:Nat:=33
abbrev C9:Nat:=34
abbrev Da:Nat:=41
abbrev CA:Nat:=42
abbrev DC:Nat:=45
abbrev Af:Nat:=47
abbrev Bv:Nat:=48
abbrev Bg:Nat:=49
abbrev Bf:Nat:=50
abbrev Bh:Nat:=51
abbrev CI:Nat:=52
abbrev B9:Nat:=53
abbrev FF:Nat:=54
abbrev BR:Nat:=55
abbrev C0:Nat:=56
abbrev DE:Nat:=57
abbrev Bw:Nat:=58
abbrev BF:Nat:=59
abbrev Ag:Nat:=60
abbrev Ch:Nat:=61
abbrev Cg:Nat:=63
abbrev Fv:Nat:=64
abbrev Bl:Nat:=65
abbrev BG:Nat:=68
abbrev B5:Nat:=69
abbrev BV:Nat:=70
abbrev Ee:Nat:=71
abbrev Ay:Nat:=72
abbrev BK:Nat:=73
abbrev BA:Nat:=74
abbrev Ax:Nat:=75
abbrev BB:Nat:=76
abbrev BI:Nat:=77
abbrev CZ:Nat:=78
abbrev Ad:Nat:=79
abbrev Ed:Nat:=80
abbrev D7:Nat:=81
abbrev Ev:Nat:=82
abbrev A6:Nat:=83
abbrev Ba:Nat:=86
abbrev Br:Nat:=87
abbrev EX:Nat:=89
abbrev CX:Nat:=90
abbrev B1:Nat:=95
abbrev Aq:Nat:=96
abbrev Ds:Nat:=97
abbrev EW:Nat:=98
abbrev Cp:Nat:=99
abbrev CO:Nat:=113
abbrev Gx:Nat:=115
abbrev Aw:Nat:=116
abbrev DF:Nat:=118
abbrev Au:Nat:=119
abbrev DS:Nat:=120
abbrev L6:Ak:=(sq [gp 3 (.box 0 (.t 1)),oC 4 0] [0,3] (.seq (.seq (.ops [oM 7 0,oK 8 7,oF 9 0 8,oL 10 9,oT 11 10,oA 12 3 3,oG 13 Ba [(.t 11),(.t 12)],oM 5 13] (some (0,0,[0,1,2,3,4,5,6,7])) [0,3,5]) (sq [oM 14 5,oJ 15 .neq 14 0] [0,3,5,15] (.cond (.t 15) (sq [oM 16 5,oM 4 16] [4] .ret) .skip))) (.join [0,3] [] 1 (sq [oM 17 0,oK 18 17,oF 19 3 18,oL 20 19,gp 21 (.not (.t 20))] [0,3,21] (.cond (.t 21) (sq [oM 22 0,oM 23 0,oK 24 23,oF 25 1 24,oL 26 25,gp 27 (.build [.AM,.AM] []),gp 28 (.A7 true 1 2 [.AM,.AM] [(0,2,(.t 27))]),oP 29 2 48 26 28,oK 30 22,oF 31 1 30,oS 1 31 29] [0,3] (.join [0,3] [] 1 (sq [oM 32 0,oK 33 32,oF 34 1 33,oL 35 34,oN 36 35,oJ 37 .gtr 36 20] [0,3,37] (.cond (.t 37) (.ops [oM 38 0,oM 39 0,oK 40 39,oF 41 1 40,oL 42 41,gp 43 (.slice 2 (.t 42) (some (ci 1)) none),oK 44 38,oF 45 1 44,oS 1 45 43] none [0,3]) .skip)) (.ops [oM 46 0,oK 47 46,oF 48 3 47,gn (.store 1 (.t 48) (.c (.bool true)))] none [0,3]))) .skip)) (.seq (.ops [oM 49 0,oK 50 49,oF 51 1 50,oL 52 51,oM 53 0,oK 54 53,oF 55 1 54,oL 56 55,oN 57 56,oJ 58 .sub 57 1,oI 59 2 52 58,oM 6 59] (some (0,0,[0,1,2,3,4,5,6,7,8,9,10,11])) [0,3,6]) (.seq (.ops [oM 60 6,oM 61 6,oK 62 61,oF 63 0 62,oL 64 63,oA 65 3 3,gp 66 (.A7 true 1 3 [(.int .i64 0),(.int .i64 0),(.str [])] [(0,3,(.t 65))]),oP 67 3 32 64 66,oK 68 60,oF 69 0 68,oS 1 69 67] (some (0,0,[0,1,2,3,4,5,6,7,8,9,10])) [0,3,6]) (.seq (.ops [oM 70 6,oM 71 6,oK 72 71,oF 73 1 72,oL 74 73,oM 75 0,oK 76 75,oF 77 0 76,oL 78 77,oA 79 3 3,oG 80 Br [(.t 78),(.t 79)],gp 81 (.A7 true 1 3 [(.int .i64 0),(.int .i64 0),(.str [])] [(0,3,(.t 80))]),oP 82 3 32 74 81,oK 83 70,oF 84 1 83,oS 1 84 82] (some (11,0,[0,1,2,3,4,5,6,7,8,9,10,11,12,13,14,15])) [0,3]) (.seq (.ops [oM 85 0,oM 86 0,oK 87 86,oF 88 0 87,oL 89 88,oA 90 3 3,oG 91 BA [(.t 89),(.t 90)],oK 92 85,oF 93 0 92,oS 1 93 91] (some (0,0,[0,1,2,3,4,5,6,7,8,9])) [0]) (sq [oM 94 0,oK 95 94,oF 96 2 95,gn (.store 1 (.t 96) (.c .AM))] [] (sq [oC 4 0] [4] .ret)))))))))
theorem LJ:L0 Tryz.prog Cg 97 L6 [.tmp 4]:=okW Tryz.func63
abbrev fL:Ak:=(sq [gp 2 (.alloc 0 [.AM,.AM]),oV 3 (.c (.bool false))] [0,2] (sq [oM 6 0,oK 7 6,oL 8 7,oN 9 8,oJ 10 .sub 9 1,oM 4 10] [0,2,4] (.seq (sq [oM 11 4,oJ 12 .lss 11 0] [0,2,4,12] (.cond (.t 12) (sq [gp 13 (.build [.AM,.AM] []),oS 2 2 13,oV 3 (.c (.bool false))] [2,3] .ret) .skip)) (sq [oM 14 0,oK 15 14,oL 16 15,oM 17 4,oI 18 2 16 17,oA 19 2 18,gp 5 (.alloc 0 [.AM,.AM]),oS 2 5 19] [0,2,4,5] (sq [oM 20 0,oM 21 0,oK 22 21,oL 23 22,oM 24 4,gp 25 (.slice 2 (.t 23) none (some (.t 24))),oK 26 20,oS 1 26 25] [2,5] (sq [oA 27 2 5,oS 2 2 27,oV 3 (.c (.bool true))] [2,3] .ret))))))
theorem Sr:L0 Tryz.prog Fv 28 fL [.cell 2 2 true,.tmp 3]:=okW Tryz.func64
abbrev Kt:Ak:=(sq [oV 4 (.c .AM)] [0,1] (.seq (sq [oM 7 1,oN 8 7,oC 9 0] [0,1,7,8,9] (.block 0 (.loop [0,1,7,8] [9] 0 (sq [oB 10 .lss 9 8] [0,1,7,8,9,10] (.seq (.cond (.t 10) .skip (.exit 0)) (.seq (.block 1 (sq [oI 11 3 7 9,oA 12 3 11,gp 6 (.alloc 0 [(.int .i64 0),(.int .i64 0),(.str [])]),oS 3 6 12] [0,1,6,7,8,9] (.ops [oM 13 0,oM 14 0,oK 15 14,oF 16 0 15,oL 17 16,oA 18 3 6,oG 19 BA [(.t 17),(.t 18)],oK 20 13,oF 21 0 20,oS 1 21 19] (some (0,0,[0,1,2,3,4,5,6,7,8,9])) [0,1,7,8,9]))) (.ops [oJ 22 .add 9 1,oM 9 22] none [0,1,7,8,9]))))))) (sq [oM 23 0,oK 24 23,oF 25 3 24,gn (.store 1 (.t 25) (.c (.bool false)))] [1] (sq [oM 26 1,oM 4 26] [4] .ret))))
theorem KR:L0 Tryz.prog Bl 27 Kt [.tmp 4]:=okW Tryz.func65
abbrev L5:Ak:=(sq [gp 3 (.box 0 (.t 1)),oV 4 (.c .AM),oC 5 0] [0,3] (.seq (sq [oF 13 0 3,oL 14 13] [0,3,14] (.block 0 (sq [oJ 16 .eql 14 1,oM 15 16] [0,3,14,15] (.cond (.t 15) (.seq (sq [oM 17 0,oF 18 1 3,oA 19 3 18,oG 20 Cg [(.t 17),(.t 19)],oM 6 20] [3,6] (sq [oM 21 6,oJ 22 .neq 21 0] [3,6,22] (.cond (.t 22) (sq [oM 23 6,oV 4 (.c .AM),oM 5 23] [4,5] .ret) .skip))) (sq [oF 24 1 3,oA 25 3 24,gp 26 (.A7 false 1 3 [(.int .i64 0),(.int .i64 0),(.str [])] [(0,3,(.t 25))]),oM 4 26,oC 5 0] [4,5] .ret)) (sq [oJ 28 .eql 14 2,oM 27 28] [0,14,27] (.cond (.t 27) (sq [oM 29 0,oK 30 29,oF 31 3 30,gn (.store 1 (.t 31) (.c (.bool false)))] [] (sq [oV 4 (.c .AM),oC 5 0] [4,5] .ret)) (sq [oJ 33 .eql 14 3,oM 32 33] [0,14,32] (.cond (.t 32) (sq [oM 35 0,oK 36 35,oF 37 1 36,oG 38 Fv [(.t 37)],oM 34 38,oX 39 34 0,oX 40 34 1,gp 7 (.alloc 0 [.AM,.AM]),oS 2 7 39,oM 8 40] [0,7,8] (.seq (sq [oM 41 8,gp 42 (.not (.t 41))] [0,7,42] (.cond (.t 42) (sq [oV 4 (.c .AM),oC 5 7] [4,5] .ret) .skip)) (sq [gp 9 (.DU 3)] [0,7,9] (.seq (sq [oF 43 1 7,oL 44 43,oN 45 44,oJ 46 .sub 45 1,oM 10 46] [0,7,9,10] (.block 1 (.loop [0,7] [9,10] 3 (.seq (sq [oM 47 10,oJ 48 .geq 47 0] [0,7,9,10,48] (.cond (.t 48) .skip (.exit 1))) (.seq (.block 2 (.ops [oM 51 9,oF 52 1 7,oL 53 52,oM 54 10,oI 55 3 53 54,oA 56 3 55,gp 57 (.A7 true 1 3 [(.int .i64 0),(.int .i64 0),(.str [])] [(0,3,(.t 56))]),oP 58 3 32 51 57,oM 9 58] none [0,7,9,10])) (.ops [oM 49 10,oJ 50 .sub 49 1,oM 10 50] none [0,7,9,10])))))) (.seq (.ops [oM 59 0,oM 60 0,oK 61 60,oF 62 2 61,oL 63 62,oA 64 2 7,gp 65 (.A7 true 1 2 [.AM,.AM] [(0,2,(.t 64))]),oP 66 2 48 63 65,oK 67 59,oF 68 2 67,oS 1 68 66] (some (0,0,[0,1,2,3,4,5,6,7,8,9,10])) [0,9]) (sq [oM 69 0,oM 70 9,oG 71 Bl [(.t 69),(.t 70)],oM 4 71,oC 5 0] [4,5] .ret)))))) (sq [oJ 73 .eql 14 4,oM 72 73] [0,72] (.cond (.t 72) (sq [oM 75 0,oK 76 75,oF 77 2 76,oG 78 Fv [(.t 77)],oM 74 78,oX 79 74 0,oX 80 74 1,gp 11 (.alloc 0 [.AM,.AM]),oS 2 11 79,oM 12 80] [0,11,12] (.seq (sq [oM 81 12,gp 82 (.not (.t 81))] [0,11,82] (.cond (.t 82) (sq [oV 4 (.c .AM),oC 5 7] [4,5] .ret) .skip)) (.seq (.ops [oM 83 0,oM 84 0,oK 85 84,oF 86 1 85,oL 87 86,oA 88 2 11,gp 89 (.A7 true 1 2 [.AM,.AM] [(0,2,(.t 88))]),oP 90 2 48 87 89,oK 91 83,oF 92 1 91,oS 1 92 90] (some (0,0,[0,1,2,3,4,5,6,7,8,9,10])) [0,11]) (sq [oM 93 0,oF 94 0 11,oL 95 94,oG 96 Bl [(.t 93),(.t 95)],oM 4 96,oC 5 0] [4,5] .ret)))) .skip)))))))))) (sq [oV 4 (.c .AM),oC 5 3] [4,5] .ret)))
theorem LI:L0 Tryz.prog CA 97 L5 [.tmp 4,.tmp 5]:=okW Tryz.func42
abbrev fK:Ak:=(sq [oV 2 (.c .Bp)] [0] (sq [oM 3 0,gp 4 (.build [(.str []),.AM,.AM,(.bool false)] [(0,1,(.t 3))]),gp 5 (.box 0 (.t 4)),oM 2 5] [2] .ret))
theorem Sq:L0 Tryz.prog Ft 6 fK [.tmp 2]:=okW Tryz.func24
abbrev bH:Ak:=(sq [oV 4 (.c .Bp),oV 5 (.c .AM),oV 6 (.c .AM),oC 7 0] [0,1] (.seq (sq [oM 15 0,oT 16 15,oJ 17 .gtr 16 600,gb 18 (.C8 (.t 17)),gq 19 (.C8 (.t 1)) 18 false,gq 20 (.len false (.t 19)) 18 false,gq 21 (.bin .none .gtr (.t 20) (ci 80)) 18 false,gp 22 (.pick (.t 18) (.c (.bool true)) (.t 21))] [0,1,22] (.cond (.t 22) (sq [oV 4 (.c .Bp),oV 5 (.c .AM),oV 6 (.c .AM),oC 7 1] [4,5,6,7] .ret) .skip)) (sq [oM 23 0,oG 24 Ft [(.t 23)],oM 8 24] [1,8] (sq [gp 9 (.DU 1)] [1,8,9] (sq [gp 10 (.DU 1)] [1,8,9,10] (.seq (sq [oM 25 1,oN 26 25,oC 27 0] [8,9,10,25,26,27] (.block 0 (.loop [8,25,26] [9,10,27] 2 (sq [oB 28 .lss 27 26] [8,9,10,25,26,27,28] (.seq (.cond (.t 28) .skip (.exit 0)) (.seq (.block 1 (sq [oI 29 4 25 27,oA 30 4 29,gp 12 (.alloc 0 [(.int .i64 0),(.int .i64 0),(.int .i64 0),(.str [])]),oS 4 12 30] [8,9,10,12,25,26,27] (sq [oM 32 8,oA 33 4 12,oG 34 CA [(.t 32),(.t 33)],oM 31 34,oX 35 31 0,oX 36 31 1,oM 13 35,oM 14 36] [8,9,10,14,25,26,27] (.ops [oM 37 9,oM 38 8,oK 39 38,oF 40 0 39,oL 41 40,gp 42 (.A7 true 1 1 [(.str [])] [(0,1,(.t 41))]),oP 43 1 16 37 42,oM 44 10,oM 45 14,gp 46 (.A7 true 1 1 [(.int .i64 0)] [(0,1,(.t 45))]),oP 47 1 8 44 46,oM 9 43,oM 10 47] none [8,9,10,25,26,27])))) (.ops [oJ 48 .add 27 1,oM 27 48] none [8,9,10,25,26,27]))))))) (sq [oM 49 8,oM 50 9,oM 51 10,oM 4 49,oM 5 50,oM 6 51,oC 7 0] [4,5,6,7] .ret)))))))
theorem Yr:L0 Tryz.prog HI 52 bH [.tmp 4,.tmp 5,.tmp 6,.tmp 7]:=okW Tryz.func22
abbrev bG:Ak:=(sq [oV 4 (.c .AM),oV 5 (.c .AM),oC 6 0] [0,1] (sq [oM 8 0,oM 9 1,oG 10 HI [(.t 8),(.t 9)],oM 7 10,oX 11 7 0,oX 12 7 1,oX 13 7 2,oX 14 7 3,oM 4 12,oM 5 13,oM 6 14] [4,5,6] (sq [oM 15 4,oM 16 5,oM 17 6,oM 4 15,oM 5 16,oM 6 17] [4,5,6] .ret)))
theorem Qb:L0 Tryz.prog DI 18 bG [.tmp 4,.tmp 5,.tmp 6]:=okW Tryz.func13
end Go.Proofs.YtlibocgedgdmlaaGreat.H
end
section
namespace Go.Vc
section
variable {H : HF} {TS : List B4} {S : AB} {E : Env} {fz : Nat -> Prop} {w : World}
end
structure Cr where
 args:KJ
 kt:KJ
 uz:Ts kt->List TV
 dec:List TV->Option (Ts kt)
 pre:Ts kt->Ts args->Prop
 rt:Ty
 fn:Ts kt->Ts args->T rt
section
variable {P : Program} {Γ : List (Nat × Ct)}
end
theorem AJ.split {H:HF}: ∀ {xs zs:List TV} {ys:List AA},AJ H (xs++zs) ys-> ∃us ws,ys=us++ws/\AJ H xs us/\AJ H zs ws
 | [],zs,ys,h=>⟨[],ys,rfl,by simp [AJ],h⟩
 | x::xs,zs,ys,h=>by
  simp only [List.cons_append,AJ] at h;obtain ⟨y,ys',rfl,h1,h2⟩:=h;obtain ⟨us,ws,rfl,g1,g2⟩:=AJ.split h2;exact ⟨y::us,ws,rfl,by simp only [AJ];exact ⟨_,_,rfl,h1,g1⟩,g2⟩
end Go.Vc
end
section
namespace Go.Vc
open Go.Sort Go.Shelf Go.Proofs
structure wA {α:Type} (cf:α->α->Int) (ls:List α):Prop where
 irrefl: ∀x∈ls,¬cf x x<0
 trans: ∀x∈ls,∀y∈ls,∀z∈ls,cf x y<0->cf y z<0->cf x z<0
 ntrans: ∀x∈ls,∀y∈ls,∀z∈ls,¬cf x y<0-> ¬cf y z<0-> ¬cf x z<0
theorem Vp {α:Type} [Inhabited α] {enc:α->Value} {w:World} {b off m:Nat} {dk:Array α} {os:Array Obj} {arr:Array Value} {T:TypeId} {fr:Nat×Nat} (hb:w.heap[b]?=some (.cells arr T fr)):
  (sortWorld enc w b off m dk os).heap[b]?=some (.cells (putCells enc off dk arr) T fr)/\(∀b':Nat,b'≠b->b'<w.heap.size->(sortWorld enc w b off m dk os).heap[b']?=w.heap[b']?)/\w.heap.size<=(sortWorld enc w b off m dk os).heap.size:=by
 have e:(sortWorld enc w b off m dk os).heap=w.heap.modify b (onCells (putCells enc off dk))++os:=rfl;have hlt:b<w.heap.size:=(Array.getElem?_eq_some_iff.1 hb).1;refine ⟨?_,fun b' hb' hl=>?_,?_⟩
 ·rw [e,Array.getElem?_append_left (by simpa using hlt),Array.getElem?_modify,if_pos rfl,hb];rfl
 ·rw [e,Array.getElem?_append_left (by simpa using hl),Array.getElem?_modify,if_neg (Ne.symm hb')]
 ·rw [e];simp
abbrev G7 (ls:List Int):List AA:=ls.map (AA.int .i64)
structure Cq where
 g:Nat
 kt:KJ
 uz:Ts kt->List TV
 dec:List TV->Option (Ts kt)
 pre:Ts kt->Int->Int->Prop
 fn:Ts kt->Int->Int->Int
def Cq.cr (q:Cq):Cr:=⟨.cons (.int .i64) (.cons (.int .i64) .nil),q.kt,q.uz,q.dec,fun k x=>q.pre k x.1 x.2,.int .i64,fun k x=>q.fn k x.1 x.2⟩
end Go.Vc
end
section
namespace Go.Vc
open Go.Sort Go.Shelf Go.Proofs
def KA (ls:List Int):List Int:=ls.mergeSort fun x y=>decide (x<=y)
theorem ZY (ls:List Int):(KA ls).length=ls.length:=by unfold KA;exact List.length_mergeSort ls
theorem bO {P:Program} {ρ:Ren} (L:SlLaysM.n5 P ρ) (ha:Cy P (ρ.f 5)=true) {p ver:Nat} {S:AB} {ls:List Int} (hp:S[p]?=some (.row ver 1 (G7 ls))) (hlen:ls.length<4611686018427387904):
  AU P (ρ.f 5) [.sl p ver 0 ls.length] S fun r S'=>r= .DG []/\S'=S.set p (.row ver 1 (G7 (KA ls))):=by
 refine ⟨fun E fz w vals st hrel=>?_⟩;simp only [AZ] at hrel;obtain ⟨v1,_,rfl,r1,rfl⟩:=hrel;simp only [Rel] at r1;have hlt:p<S.length:=(List.getElem?_eq_some_iff.1 hp).1;cases ls with
 | nil=>
  have e: ∃a c,v1= .slice a 0 c:=by
   rcases r1 with ⟨_,a,rfl⟩ | ⟨b,base,cap,kk,c,e1,e2,e3,rfl⟩
   ·exact ⟨a,0,rfl⟩
   ·exact ⟨_,c,rfl⟩
  obtain ⟨a,c,rfl⟩:=e;refine .inl ⟨ha,(AnyM.slices_Sort_int_none L a c w).mono ?_⟩;rintro e w' ⟨rfl,rfl⟩;have e0:S.set p (.row ver 1 (G7 (KA [])))=S:=by
   apply List.ext_getElem?
   intro i;by_cases h:i=p
   ·subst h;rw [List.getElem?_set_self hlt,hp,show KA []=[] by simp [KA]]
   ·rw [List.getElem?_set_ne (Ne.symm h)]
  refine ⟨.DG [],_,.tuple #[],E,fz,rfl,?_,?_,?_,rfl,rfl⟩
  ·rw [e0];exact Ext.refl
  ·rw [e0];exact st
  ·simp only [Rel,AZ];exact ⟨[],rfl,rfl⟩
 | cons a r=>
  rcases r1 with ⟨h0,_⟩ | ⟨b,base,cap,kk,c,e1,e2,e3,rfl⟩
  ·cases h0
  rcases st.ok p _ hp with ⟨g1,g2⟩ | ⟨b',base',cap',arr,T,lo,hi,g1,g2,g3,g4,g5,g6,g7⟩
  ·rw [e1] at g1;cases g1
  rw [e1] at g1;cases g1;have hlt':b<w.heap.size:=(Array.getElem?_eq_some_iff.1 g2).1;have hln:(G7 (a::r)).length=(a::r).length:=by simp
  have hH:Holds (Value.int .i64) w b base (a::r).toArray:=fun j hj=>by
   have hj:j<(a::r).length:=by simpa using hj
   have hx:(G7 (a::r))[j]?=some (.int .i64 (a::r)[j]):=by
    rw [List.getElem?_map,List.getElem?_eq_getElem hj];rfl
   obtain ⟨c',hc,_,hrel⟩:=g6.get hx;simp only [Rel] at hrel;subst hrel;refine ⟨by rw [hc,getElem!_pos _ j (by simpa using hj)];simp,?_⟩;rw [GF g2];rw [hln] at g4;rcases g5 with g5 | g5
   ·subst g5;by_cases q:lo<=base+j
    ·have: ¬base+j<lo:=by omega
     simp [this]
    ·simp [q]
   ·have: ¬lo<=base+j:=by omega
    simp [this]
  refine .inl ⟨ha,(AnyM.slices_Sort_int L b base c (a::r) w hH hlt' hlen).mono ?_⟩;rintro e w' ⟨rfl,n,os,rfl⟩;have hsl:=ZY (a::r);obtain ⟨k1,k2,k3⟩:=Vp (enc:=Value.int .i64) (off:=base) (m:=n) (dk:=(KA (a::r)).toArray) (os:=os) g2;obtain ⟨q1,q2⟩:=st.dv (E':=E) (S':=S.set p (.row ver 1 (G7 (KA (a::r))))) (w':=sortWorld (Value.int .i64) w b base n (KA (a::r)).toArray os) p (.row ver 1 (G7 (KA (a::r)))) (fun _ _ h=>h) st.fresh
   (fun l' hl'=>by rw [List.getElem?_set_ne (Ne.symm hl')]) (by rw [List.getElem?_set_self hlt]) k3 (fun b' hb' hno=>k2 b' (fun e=>hno (by subst e;exact ⟨_,hp,by simp [AR,e1]⟩)) hb')
   (fun b' hb'=>.inl (by simp [AR,e1] at hb';subst hb';exact ⟨_,hp,by simp [AR,e1]⟩))
   (.inr ⟨b,base,cap,putCells (Value.int .i64) base (KA (a::r)).toArray arr,T,lo,hi,e1,k1,by simpa [putCells] using g3,by
    rw [hln] at g4;simp only [G7,List.length_map,hsl];exact g4,by simpa [putCells] using g5,CR.mk fun i x hx=>(by
     have hi':i<(KA (a::r)).length:=by
      rcases Nat.lt_or_ge i (KA (a::r)).length with h | h
      ·exact h
      ·rw [List.getElem?_eq_none (by simpa using h)] at hx;cases hx
     have ex:x= .int .i64 ((KA (a::r))[i]'hi'):=by
      simp only [G7,List.getElem?_map,List.getElem?_eq_getElem hi',Option.map_some,Option.some.injEq] at hx;exact hx.symm
     subst ex;rw [hln] at g4;rw [hsl] at hi';refine ⟨.int .i64 ((KA (a::r))[i]'(by rw [hsl];exact hi')),?_,rfl,by simp only [Rel]⟩;rw [CL k1];simp only [putCells,Array.getElem?_mapIdx,Array.getElem?_eq_getElem (show base+i<arr.size by omega),Option.map_some];rw [if_pos ⟨by omega,by simp only [List.size_toArray];omega⟩,show base+i-base=i by omega,getElem!_pos _ i (by simp only [List.size_toArray];omega)];simp),g7⟩) rfl rfl (Tp.of rfl (by show w.drawn<=w.drawn+n;omega))
  exact ⟨.DG [],_,.tuple #[],E,fz,rfl,q2,q1,by simp only [Rel,AZ];exact ⟨[],rfl,rfl⟩,rfl,rfl⟩
end Go.Vc
end
section
set_option maxRecDepth 100000
namespace Go.Proofs.YtlibocgedgdmlaaGreat.E
open Go.Vc Go.Fu
abbrev ints (l:List Int):List AA:=l.map (AA.int .i64)
theorem Qg (l:List Int):DL (.sl tI) l= .Em l.length (ints l):=by
 show AA.Em l.length (l.flatMap (fun a=>[AA.int .i64 a]))=_;congr 1
 induction l with
 | nil=>rfl
 | cons a l ih=>rw [List.flatMap_cons,ih];rfl
theorem ints_at {l:List Int} {j:Nat} {a:Int} (h:l[j]?=some a):takeN 1 ((ints l).drop (j*1))=some [.int .i64 a]:=by
 have hj:=(List.getElem?_eq_some_iff.1 h).1;rw [Nat.mul_one,List.drop_eq_getElem_cons (by simpa using hj)];simp [takeN,(List.getElem?_eq_some_iff.1 h).2]
abbrev ah (D:List Span):List AA:=D.flatMap fun s=>[AA.int .i64 s.1,.int .i64 s.2]
theorem fD (s:Span) (D:List Span):ah (s::D)= .int .i64 s.1:: .int .i64 s.2::ah D:=rfl
theorem aj: ∀ {D:List Span} {j:Nat} {s:Span},D[j]?=some s->takeN 2 ((ah D).drop (j*2))=some [.int .i64 s.1,.int .i64 s.2]
 | [],j,s,h=>by simp at h
 | a::D,0,s,h=>by simp at h;subst h;rfl
 | a::D,j+1,s,h=>by
  have:=aj (D:=D) (j:=j) (s:=s) (by simpa using h);rw [show (j+1)*2=j*2+1+1 by omega,fD,List.drop_succ_cons,List.drop_succ_cons];exact this
def cellsOf:List Bytes->List Bool->List AA
 | l::L,k::K=>.int .i64 (if k=true then (D6 l).1 else 0):: .bool k::cellsOf L K
 | _,_=>[]
theorem Io: ∀ {L:List Bytes} {K:List Bool},K.length=L.length->(cellsOf L K).length=K.length*2
 | [],[],_=>rfl
 | l::L,k::K,h=>by simp only [cellsOf,List.length_cons];have:=Io (L:=L) (K:=K) (by simpa using h);omega
 | [],k::K,h=>by simp at h
 | l::L,[],h=>by simp at h
theorem PS: ∀ {L:List Bytes} {K:List Bool} {j:Nat} {l:Bytes} {k:Bool},L[j]?=some l->K[j]?=some k->takeN 2 ((cellsOf L K).drop (j*2))=some [.int .i64 (if k=true then (D6 l).1 else 0),.bool k]
 | [],K,j,l,k,h,_=>by simp at h
 | a::L,[],j,l,k,_,h=>by simp at h
 | a::L,b::K,0,l,k,h,h'=>by simp at h h';subst h h';rfl
 | a::L,b::K,j+1,l,k,h,h'=>by
  have:=PS (L:=L) (K:=K) (j:=j) (l:=l) (k:=k) (by simpa using h) (by simpa using h');rw [show (j+1)*2=j*2+1+1 by omega];simpa [cellsOf] using this
def FX:List (Option Bytes)->List AA->HM->Prop
 | [],cs,m=>cs=[]/\m=HM.nil
 | none::l,cs,m=> ∃cs',cs= .Bp::cs'/\FX l cs' m
 | some t::l,cs,m=> ∃p v cs' m',cs= .ptr p v 0::cs'/\m=pt p (.row v 0 [.str t])+m'/\FX l cs' m'
theorem FX.len: ∀ {l:List (Option Bytes)} {cs:List AA} {m:HM},FX l cs m->cs.length=l.length
 | [],cs,m,h=>by rw [h.1];rfl
 | none::l,cs,m,⟨cs',h1,h⟩=>by rw [h1,List.length_cons,FX.len h];rfl
 | some t::l,cs,m,⟨p,v,cs',m',h1,_,h⟩=>by rw [h1,List.length_cons,FX.len h];rfl
theorem FX.at_: ∀ {l:List (Option Bytes)} {cs:List AA} {m:HM},FX l cs m-> ∀ {j:Nat},j<l.length->(l[j]?=some none/\cs[j]?=some .Bp/\ ∀t p v,FX (l.set j (some t)) (cs.set j (.ptr p v 0)) (pt p (.row v 0 [.str t])+m))\/
  ∃t p v R,l[j]?=some (some t)/\cs[j]?=some (.ptr p v 0)/\m=pt p (.row v 0 [.str t])+R/\FX (l.set j none) (cs.set j .Bp) R
 | [],cs,m,h,j,hj=>by simp at hj
 | none::l,cs,m,⟨cs',h1,h⟩,0,hj=>by
  subst h1;exact .inl ⟨rfl,rfl,fun t p v=>⟨p,v,cs',m,rfl,rfl,h⟩⟩
 | some t::l,cs,m,⟨p,v,cs',m',h1,h2,h⟩,0,hj=>by
  subst h1;exact .inr ⟨t,p,v,m',rfl,rfl,h2,cs',rfl,h⟩
 | none::l,cs,m,⟨cs',h1,h⟩,j+1,hj=>by
  subst h1;rcases FX.at_ h (j:=j) (by simpa using hj) with ⟨g1,g2,g3⟩ | ⟨t,p,v,R,g1,g2,g3,g4⟩
  ·exact .inl ⟨by simpa using g1,by simpa using g2,fun t p v=>⟨_,rfl,g3 t p v⟩⟩
  ·exact .inr ⟨t,p,v,R,by simpa using g1,by simpa using g2,g3,_,rfl,g4⟩
 | some t0::l,cs,m,⟨p0,v0,cs',m',h1,h2,h⟩,j+1,hj=>by
  subst h1;rcases FX.at_ h (j:=j) (by simpa using hj) with ⟨g1,g2,g3⟩ | ⟨t,p,v,R,g1,g2,g3,g4⟩
  ·refine .inl ⟨by simpa using g1,by simpa using g2,fun t p v=>⟨p0,v0,_,_,rfl,?_,g3 t p v⟩⟩;rw [h2];ac_rfl
  ·refine .inr ⟨t,p,v,pt p0 (.row v0 0 [.str t0])+R,by simpa using g1,by simpa using g2,?_,p0,v0,_,R,rfl,rfl,g4⟩;rw [h2,g3];ac_rfl
abbrev uW (s:Bytes):AA:= .Em (Aa s).length (ints (Aa s))
abbrev pe (D:List Span):AA:= .Em D.length (ah D)
abbrev gC (lh vh:Nat) (s:Bytes) (lm vm:Nat) (D:List Span) (xc:AA) (sc:List AA):List AA:= .ptr lh vh 0:: .str s::uW s:: .map lm vm::pe D::xc::sc
def DX (t:TW) (r:AA) (m:HM):Prop:= ∃x,r= .agg [.int .i64 t.1,.int .i64 t.2.1,.int .i64 t.2.2.1,x,.str t.2.2.2.2]/\EP 1 x (ints t.2.2.2.1) t.2.2.2.1.length m
theorem DX.plain {c n m:Int} {s:Bytes}:DX (c,n,m,[],s) (.agg [.int .i64 c,.int .i64 n,.int .i64 m,.AM,.str s]) HM.nil:=⟨.AM,rfl,EP.nil⟩
theorem Jz (c:Int):RC Tryz.prog C9 [.int .i64 c] (.agg [.int .i64 c,.int .i64 0,.int .i64 0,.AM,.str []]):=by
 refine RC.val ?_;intro S mf hS;refine Ih Yi ?_;refine Z3 fun v2 l2 S hS=>?_;refine Z7 fun S hS=>?_;refine Z6 ?_;exact ⟨_,rfl,hS.right⟩
theorem gm (v:Int) (k:Bool):RC Tryz.prog Ch [.agg [.int .i64 v,.bool k]] (.bool (!k)):=by
 refine RC.val ?_;intro S mf hS;refine Ih QR ?_;refine Z3 fun v1 l1 S hS=>?_;refine qS ?_;exact ⟨_,rfl,hS.right⟩
end Go.Proofs.YtlibocgedgdmlaaGreat.E
end
section
set_option maxRecDepth 100000
namespace Go.Proofs.YtlibocgedgdmlaaGreat.E
open Go.Vc Go.Fu
variable {lg vg lh vh lm vm : Nat} {s : Bytes} {D : List Span} {xc : AA} {sc : List AA}
theorem VB (hL:BS Tryz.prog Bh C_) (hs:s.length<=600) {at_:Int} {S:AB} {K:AA->AB->Prop} (h0:0<=at_) (h1:at_<=s.length) (h:K (.DG [.int .i64 (posOf (s.take at_.toNat)).2.1,.int .i64 0]) S):AU Tryz.prog Bh [uW s,.int .i64 at_] S K:=by
 have ok:=N0 hs;have e:Ea (Aa s) at_=((posOf (s.take at_.toNat)).2.1,0):=by
  unfold Ea K0;rw [if_neg (by simpa using ok),if_neg (by omega),fX h0 h1]
 have:=hL.plain (S:=S) (K:=K) (Aa s,at_) (by show (Aa s).length<=_;have:=Pt ok;omega) rfl (by
  show K (.DG [.int .i64 (Ea (Aa s) at_).1,.int .i64 (Ea (Aa s) at_).2]) S;rw [e];exact h)
 have e2:Ff (Mg (.sl tI) tI) (Aa s,at_)=[uW s,.int .i64 at_]:=by
  show [DL (.sl tI) (Aa s),.int .i64 at_]=_;rw [Qg]
 rw [<-e2];exact this
theorem VA {i:Nat} {l:Bytes} (hl:(AO s)[i]?=some l) (hs:s.length<=1000000):HC Tryz.prog Bw [.ptr lg vg 0,.int .i64 (i:Int)] (pt lg (.row vg 0 (gC lh vh s lm vm D xc sc))) fun r m'=>r= .str l/\m'=pt lg (.row vg 0 (gC lh vh s lm vm D xc sc)):=by
 intro S mf hS;obtain ⟨k,h1,h2,h3,h4,h5⟩:=rV hl;have hn:=Ps s;have hi:=(List.getElem?_eq_some_iff.1 hl).1;have hcl:=(FD s).1;have t1:=ints_at h1;refine Ih Kq ?_;refine qS ?_;refine He fun K hK=>?_;have rest:K [.int .i64 ((k+l.length:Nat):Int)] S:=by
  refine hK _ _ rfl ?_;dsimp only [Ei,List.map,Frame.get];refine Z1 ?_;refine CY hS fun S hS=>?_;refine mj ?_;refine Ar (VP rfl ⟨_,rfl⟩ ⟨_,rfl⟩ (by omega) (by omega) (Dn ?_));dsimp only [AK,rd,Frame.get];refine Z7 ?_;exact ⟨_,⟨by rw [h3],rfl⟩,hS⟩
 refine mQ ?_;refine Be rfl (fun hlt=>?_) (fun hlt=>?_)
 ·have t2:=ints_at (h4 (by omega));refine Z7 ?_;refine Ar ?_;rw [show ((i:Int)+1)=((i+1:Nat):Int) by omega];refine LZ rfl rfl (by omega) t2 ?_;refine Z6 ?_;rw [show ((k+l.length:Nat):Int)+1-1=((k+l.length:Nat):Int) by omega];exact rest
 ·have:=h5 (by omega);refine Z2 ?_;rw [<-this];exact rest
theorem bh (hL:BS Tryz.prog Bh C_) (hs:s.length<=600) (n:Int):HC Tryz.prog B7 [.ptr lg vg 0,.int .i64 n] (pt lg (.row vg 0 (gC lh vh s lm vm D xc sc))) fun r m'=>DX (FO s n) r HM.nil/\m'=pt lg (.row vg 0 (gC lh vh s lm vm D xc sc)):=by
 intro S mf hS;refine Ih Jk ?_;by_cases c1:n<0
 ·have e:FO s n=(2,0,0,[],[]):=by unfold FO Xi;rw [if_pos (.inl c1)]
  refine Z3 fun v4 l4 S hS=>?_;refine Z7 ?_;refine Ar ?_;refine BZ (Cn (fun hg=>?_) (fun hg=>by exfalso;omega));dsimp only [AK,rd,Frame.get];refine SV ?_;refine Ce rfl (fun _=>?_) (fun hb=>by cases hb);refine Z3 ?_;refine (Jz 2).use ?_;refine Z2 fun S hS=>?_;refine Z7 ?_;rw [e];exact ⟨_,⟨DX.plain,rfl⟩,hS.right⟩
 by_cases c2:(s.length:Int)<n
 ·have e:FO s n=(2,0,0,[],[]):=by unfold FO Xi;rw [if_pos (.inr c2)]
  refine Z3 fun v4 l4 S hS=>?_;refine Z7 ?_;refine Ar ?_;refine BZ (Cn (fun hg=>by exfalso;omega) (fun hg=>?_));dsimp only [AK,rd,Frame.get];refine SV ?_;refine Be rfl (fun _=>?_) (fun hb=>by exfalso;omega);refine Z3 ?_;refine (Jz 2).use ?_;refine Z2 fun S hS=>?_;refine Z7 ?_;rw [e];exact ⟨_,⟨DX.plain,rfl⟩,hS.right⟩
 obtain ⟨i,hi,hi2,k,hk,hk2⟩:=l_ (s:=s) (at_:=n) (by omega) (by omega);have e:FO s n=(0,(i:Int),n-k,[],[]):=by unfold FO Xi;rw [if_neg (by omega),hi,hk2]
 have t1:=ints_at hk;have ok:=N0 hs;have hkm:=Vt ok (List.mem_of_getElem? hk);refine Z3 fun v4 l4 S hS=>?_;refine Z7 ?_;refine Ar ?_;refine BZ (Cn (fun hg=>by exfalso;omega) (fun hg=>?_));dsimp only [AK,rd,Frame.get];refine SV ?_;refine Be rfl (fun hb=>by exfalso;omega) (fun _=>?_);refine SV ?_;refine VB hL hs (by omega) (by omega) ?_;rw [<-hi];refine xB fun S hS=>?_;refine Z6 ?_;rw [e];exact ⟨_,⟨DX.plain,rfl⟩,hS.right⟩
theorem Ut {p v off:Nat} {cs:List AA} {L:List Bytes} {K:List Bool} (hK:K.length=L.length) (hle:off+K.length*2<=cs.length) (hcs:cellsOf L K=BL cs off (K.length*2)) (hl:K.length<=140737488351232):
  HC Tryz.prog Ad [.sl p v off K.length,.fn (.func Ch) [] []] (pt p (.row v 2 cs)) fun r m'=>m'=pt p (.row v 2 cs)/\((r= .int .i64 (-1)/\ ∀k∈K,k=true)\/ ∃i:Nat,r= .int .i64 (i:Int)/\K[i]?=some false/\ ∀k∈K.take i,k=true):=by
 intro S mf hS;refine Ih En ?_;refine mR ?_;refine GU (fun k xs S=> ∃j:Nat,xs=[.int .i64 (j:Int)]/\j<=K.length/\k=K.length-j/\(∀k∈K.take j,k=true)/\Has S (pt p (.row v 2 cs)+mf)) K.length ⟨0,rfl,Nat.zero_le _,rfl,fun s hs=>by simp at hs,hS⟩ ?_;clear hS;rintro k xs S hl' ⟨j,rfl,hj,rfl,he,hS⟩;dsimp only [Ei,List.map,Frame.get];refine Z6 ?_;refine Be rfl (fun hlt=>?_) (fun hlt=>?_)
 ·have h1:L[j]?=some L[j]:=List.getElem?_eq_getElem (by omega);obtain ⟨b,h2⟩: ∃b,K[j]?=some b:=⟨_,List.getElem?_eq_getElem (by omega)⟩
  have ht:takeN 2 (List.drop (off+j*2) cs)=some [.int .i64 (if b=true then (D6 L[j]).1 else 0),.bool b]:=by
   rw [KF hle (show j<K.length by omega),<-hcs];have:=PS h1 h2;rw [FB _ _ (by rw [List.length_drop,Io hK];omega)] at this;exact this
  refine ve ?_;refine Ar (ZH rfl ?_);dsimp only [List.map,AK,rd,Frame.get];refine (gm _ _).use ?_;refine Z3 ?_;refine Ce rfl (fun hd=>?_) (fun hd=>?_)
  ·have hb:b=false:=by simpa using hd
   subst hb;refine qS ?_;exact ⟨_,⟨rfl,.inr ⟨j,rfl,h2,he⟩⟩,hS⟩
  ·have hb:b=true:=by simpa using hd
   subst hb;refine Z8 ?_;refine ⟨K.length-(j+1),by omega,j+1,rfl,by omega,rfl,fun s hs=>?_,hS⟩;rw [List.take_add_one,h2] at hs;rcases List.mem_append.1 hs with hs | hs
   ·exact he s hs
   ·simp at hs;exact hs
 ·obtain rfl:j=K.length:=by omega
  rw [List.take_of_length_le (Nat.le_refl _)] at he;refine mR ?_;exact ⟨_,⟨rfl,.inl ⟨rfl,he⟩⟩,hS⟩
theorem Wv (s:Bytes):0<(AO s).length:=List.length_pos_iff.2 (Iq s)
theorem WA {p v off:Nat} {cs:List AA} {L:List Bytes} {K:List Bool} (hK:K.length=L.length) (hle:off+K.length*2<=cs.length) (hcs:cellsOf L K=BL cs off (K.length*2)) (hl:K.length<=140737488351232):
  HC Tryz.prog Ag [.sl p v off K.length,.fn (.func Ch) [] []] (pt p (.row v 2 cs)) fun r m'=>m'=pt p (.row v 2 cs)/\ ∃b:Bool,r= .bool b/\(b=false↔ ∀k∈K,k=true):=by
 intro S mf hS;refine Ih EO ?_;refine SV ?_;refine HC.use (Ut hK hle hcs hl) hS ?_;rintro r m' S ⟨rfl,hr⟩ hS;obtain ⟨i,rfl,hi⟩: ∃i:Int,r= .int .i64 i/\(decide (0<=i)=false↔ ∀k∈K,k=true):=(by
   rcases hr with ⟨rfl,h⟩ | ⟨i,rfl,h1,h2⟩
   ·exact ⟨-1,rfl,fun _=>h,fun _=>rfl⟩
   ·exact ⟨(i:Int),rfl,fun q=>absurd q (by simp),fun q=>absurd (q false (List.mem_of_getElem? h1)) (by simp)⟩)
 refine Z9 ?_;exact ⟨_,⟨rfl,_,rfl,hi⟩,hS⟩
end Go.Proofs.YtlibocgedgdmlaaGreat.E
end
section
set_option maxRecDepth 100000
namespace Go.Proofs.YtlibocgedgdmlaaGreat.E
open Go.Vc Go.Fu
variable {lg vg lh vh lm vm : Nat} {s : Bytes} {D : List Span} {xc : AA} {sc : List AA}
theorem cV (hP:BS Tryz.prog DE El) {l:Bytes} (hl:l.length<=1000000) {S:AB} {K:AA->AB->Prop} (h:K (.agg [.int .i64 (D6 l).1,.int .i64 (D6 l).2]) S):AU Tryz.prog DE [.str l] S K:=
 hP.plain l (by show l.length<=_;omega) rfl h
theorem kU {p v off:Nat} {cs:List AA} {L:List Bytes} {K:List Bool} (hK:K.length=L.length) (hle:off+K.length*2<=cs.length) (hcs:cellsOf L K=BL cs off (K.length*2)) (hl:K.length<=140737488351232):
  HC Tryz.prog CU [.ptr lg vg 0] (pt lg (.row vg 0 (gC lh vh s lm vm D (.sl p v off K.length) sc))+pt p (.row v 2 cs)) fun r m'=>m'=pt lg (.row vg 0 (gC lh vh s lm vm D (.sl p v off K.length) sc))+pt p (.row v 2 cs)/\ ∃b:Bool,r= .bool b/\(b=true↔D=[]/\ ∀k∈K,k=true):=by
 intro S mf hS;refine Ih Kp ?_;by_cases c:D=[]
 ·subst c;refine mj ?_;refine Ar ?_;refine BZ (Cn (fun hg=>?_) (fun hg=>by exfalso;exact hg rfl));dsimp only [AK,rd,Frame.get];refine Z5 ?_;refine HC.use (WA hK hle hcs hl) hS ?_;rintro r m' S ⟨rfl,b,rfl,hb⟩ hS;refine SV ?_;refine ⟨_,⟨rfl,_,rfl,?_⟩,hS⟩;rw [<-hb];cases b<;>simp
 ·have hD:D.length≠0:=fun e=>c (List.length_eq_zero_iff.1 e);refine mj ?_;refine Ar ?_;refine BZ (Cn (fun hg=>by exfalso;omega) (fun hg=>?_));dsimp only [AK,rd,Frame.get];refine mR ?_;exact ⟨_,⟨rfl,_,rfl,⟨(fun q=>nomatch q),fun q=>absurd q.1 c⟩⟩,hS⟩
theorem nG {off:Nat} {cs:List AA} {L:List Bytes} {K:List Bool} (hK:K.length=L.length) (hle:off+K.length*2<=cs.length) (hcs:cellsOf L K=BL cs off (K.length*2)) {i:Nat} {l:Bytes} {b:Bool} (h1:L[i]?=some l) (h2:K[i]?=some b):
  takeN 1 (List.drop (off+i*2) cs)=some [.int .i64 (if b=true then (D6 l).1 else 0)]/\takeN 1 (List.drop (off+i*2+1) cs)=some [.bool b]:=by
 have hi:=(List.getElem?_eq_some_iff.1 h2).1;have ht:takeN 2 (List.drop (off+i*2) cs)=some [.int .i64 (if b=true then (D6 l).1 else 0),.bool b]:=by
  rw [KF hle hi,<-hcs];have:=PS h1 h2;rw [FB _ _ (by rw [List.length_drop,Io hK];omega)] at this;exact this
 rw [FB _ _ (by rw [List.length_drop];omega)] at ht;have ht:=Option.some.inj ht;have e2:List.drop (off+i*2+1) cs=(List.drop (off+i*2) cs).drop 1:=by rw [List.drop_drop]
 rw [e2];generalize List.drop (off+i*2) cs=X at*
 match X,ht with
 | a::b::X,ht=>simp at ht;obtain ⟨rfl,rfl⟩:=ht;exact ⟨rfl,rfl⟩
theorem bF (hP:BS Tryz.prog DE El) (hs:s.length<=1000000) {p v off:Nat} {cs:List AA} {K:List Bool} (hK:K.length=(AO s).length) (hle:off+K.length*2<=cs.length) (hcs:cellsOf (AO s) K=BL cs off (K.length*2)) (n:Int):
  HC Tryz.prog B6 [.ptr lg vg 0,.int .i64 n] (pt lg (.row vg 0 (gC lh vh s lm vm D (.sl p v off K.length) sc))+pt p (.row v 2 cs)) fun r m'=>m'=pt lg (.row vg 0 (gC lh vh s lm vm D (.sl p v off K.length) sc))+pt p (.row v 2 cs)/\DX (Ez s n) r HM.nil:=by
 intro S mf hS;have hcl:=FD s;refine Ih Jj ?_;by_cases c1:n<0
 ·have e:Ez s n=(2,0,0,[],[]):=by unfold Ez;rw [if_pos (.inl c1)];rfl
  refine Z3 fun v4 l4 S hS=>?_;refine Z8 ?_;refine Ar ?_;refine BZ (Cn (fun hg=>?_) (fun hg=>by exfalso;omega));dsimp only [AK,rd,Frame.get];refine TX ?_;refine Ce rfl (fun _=>?_) (fun hb=>by cases hb);refine Z3 ?_;refine (Jz 2).use ?_;refine Z2 fun S hS=>?_;refine Z8 ?_;rw [e];exact ⟨_,⟨rfl,DX.plain⟩,hS.right⟩
 by_cases c2:(K.length:Int)<=n
 ·have e:Ez s n=(2,0,0,[],[]):=by unfold Ez;rw [if_pos (.inr (by omega))];rfl
  refine Z3 fun v4 l4 S hS=>?_;refine Z8 ?_;refine Ar ?_;refine BZ (Cn (fun hg=>by exfalso;omega) (fun hg=>?_));dsimp only [AK,rd,Frame.get];refine TX ?_;refine Be rfl (fun _=>?_) (fun hb=>by exfalso;omega);refine Z3 ?_;refine (Jz 2).use ?_;refine Z2 fun S hS=>?_;refine Z8 ?_;rw [e];exact ⟨_,⟨rfl,DX.plain⟩,hS.right⟩
 obtain ⟨i,rfl⟩: ∃i:Nat,n=(i:Int):=⟨n.toNat,by omega⟩
 have hi:i<K.length:=by omega
 obtain ⟨l,h1⟩: ∃l,(AO s)[i]?=some l:=⟨_,List.getElem?_eq_getElem (by omega)⟩
 obtain ⟨b,h2⟩: ∃b,K[i]?=some b:=⟨_,List.getElem?_eq_getElem hi⟩
 have hll:=hcl.2 l (List.mem_of_getElem? h1);have e:Ez s (i:Int)=(0,(D6 l).1,0,[],[]):=by
  have hg:gt (AO s) (i:Int)=l:=by
   have:=Ka (l:=AO s) (i:=(i:Int)) (by omega) (by omega);rw [Int.toNat_natCast,h1] at this;exact (Option.some.inj this).symm
  unfold Ez;rw [if_neg (by omega),hg]
 obtain ⟨t1,t2⟩:=nG hK hle hcs h1 h2;refine Z3 fun v4 l4 S hS=>?_;refine Z8 ?_;refine Ar ?_;refine BZ (Cn (fun hg=>by exfalso;omega) (fun hg=>?_));dsimp only [AK,rd,Frame.get];refine TX ?_;refine Be rfl (fun hb=>by exfalso;omega) (fun _=>?_);refine mj ?_;refine Ce rfl (fun hb=>?_) (fun hb=>?_)
 ·rw [if_pos hb] at t1;refine mQ fun S hS=>?_;refine Z8 ?_;rw [e];exact ⟨_,⟨rfl,DX.plain⟩,hS.right⟩
 ·refine Z8 ?_;refine HC.use (VA (lg:=lg) (vg:=vg) (lh:=lh) (vh:=vh) (lm:=lm) (vm:=vm) (D:=D) (xc:= .sl p v off K.length) (sc:=sc) h1 hs) hS ?_;rintro r m' S ⟨rfl,rfl⟩ hS;refine Z2 ?_;refine cV hP (by omega) ?_;refine Z4 fun S hS=>?_;refine Z6 ?_;rw [e];exact ⟨_,⟨rfl,DX.plain⟩,hS.right⟩
theorem Hu: ∀ {cs:List AA} {j:Nat} {x:AA},j<cs.length->setCells cs j [x]=cs.set j x
 | [],j,x,h=>by simp at h
 | a::cs,0,x,h=>by cases cs<;>rfl
 | a::cs,j+1,x,h=>by show a::setCells cs j [x]=_;rw [Hu (by simpa using h)];rfl
theorem NO (j:Nat):(gC lh vh s lm vm D xc sc).drop (6+j)=sc.drop j:=by rw [Nat.add_comm];rfl
theorem nq {j:Nat} {x:AA} (h:j<sc.length):setCells (gC lh vh s lm vm D xc sc) (6+j) [x]=gC lh vh s lm vm D xc (sc.set j x):=by
 rw [Hu (by simp;omega),Nat.add_comm];rfl
theorem take_one {cs:List AA} {j:Nat} {x:AA} (h:cs[j]?=some x):takeN 1 (cs.drop j)=some [x]:=by
 have hj:=(List.getElem?_eq_some_iff.1 h).1;rw [List.drop_eq_getElem_cons hj,(List.getElem?_eq_some_iff.1 h).2];rfl
theorem Uh: ∀ {l:List (Option Bytes)} {j:Nat},(∀i,i<j-> ∃t,l[i]?=some (some t))->l[j]?=some none->D5 l=j
 | [],j,_,h=>by simp at h
 | none::l,0,_,_=>rfl
 | none::l,j+1,h,_=>by obtain ⟨t,h⟩:=h 0 (by omega);simp at h
 | some t::l,0,_,h=>by simp at h
 | some t::l,j+1,h,h'=>by
  show D5 l+1=_;rw [Uh (l:=l) (j:=j) (fun i hi=>by have:=h (i+1) (by omega);simpa using this) (by simpa using h')]
theorem Sg: ∀ {l:List (Option Bytes)},(∀i,i<l.length-> ∃t,l[i]?=some (some t))->D5 l=l.length
 | [],_=>rfl
 | none::l,h=>by obtain ⟨t,h⟩:=h 0 (by simp);simp at h
 | some t::l,h=>by
  show D5 l+1=_;rw [Sg (l:=l) (fun i hi=>by have:=h (i+1) (by simpa using hi);simpa using this)];rfl
theorem Ss {Sn:List (Option Bytes)} {ms:HM} (hs:FX Sn sc ms) (h4:Sn.length=4):
  HC Tryz.prog BF [.sl lg vg 6 4,.Bp] (pt lg (.row vg 0 (gC lh vh s lm vm D xc sc))) fun r m'=>m'=pt lg (.row vg 0 (gC lh vh s lm vm D xc sc))/\r= .int .i64 (if Sn.length<=D5 Sn then-1 else (D5 Sn:Int)):=by
 intro S mf hS;have hl:=hs.len;refine Ih HB ?_;refine mR ?_;refine GU (fun k xs S=> ∃j:Nat,xs=[.int .i64 (j:Int)]/\j<=4/\k=4-j/\(∀i,i<j-> ∃t,Sn[i]?=some (some t))/\Has S (pt lg (.row vg 0 (gC lh vh s lm vm D xc sc))+mf)) 4 ⟨0,rfl,Nat.zero_le _,rfl,fun s hs=>by omega,hS⟩ ?_;clear hS;rintro k xs S hl' ⟨j,rfl,hj,rfl,he,hS⟩;dsimp only [Ei,List.map,Frame.get];refine Z6 ?_;refine Be rfl (fun hlt=>?_) (fun hlt=>?_)
 ·have hjl:j<Sn.length:=by omega
  rcases hs.at_ hjl with ⟨g1,g2,_⟩ | ⟨t,p,v,R,g1,g2,_,_⟩
  ·have ht:=take_one g2;refine jq ?_;refine Ar ?_;refine MP hS rfl rfl (by rw [NO];exact ht) rfl ?_;refine Z4 ?_;refine Ce (c:= !false) rfl (fun _=>?_) (fun hb=>by cases hb);refine qS ?_;have e:=Uh he g1;refine ⟨_,⟨rfl,?_⟩,hS⟩;rw [if_neg (by omega),e]
  ·have ht:=take_one g2;refine jq ?_;refine Ar ?_;refine MP hS rfl rfl (by rw [NO];exact ht) rfl ?_;refine Z4 ?_;refine Ce (c:=false) rfl (fun hb=>by cases hb) (fun _=>?_);refine Z8 ?_;refine ⟨4-(j+1),by omega,j+1,rfl,by omega,rfl,fun i hi=>?_,hS⟩;by_cases q:i<j
   ·exact he i q
   ·obtain rfl:i=j:=by omega
    exact ⟨t,g1⟩
 ·obtain rfl:j=4:=by omega
  refine mR ?_;have e:=Sg (l:=Sn) (fun i hi=>he i (by omega));refine ⟨_,⟨rfl,?_⟩,hS⟩;rw [if_pos (by omega)]
def Nv (s:Bytes) (Sn:List (Option Bytes)):List (Option Bytes)×TW:=if Sn.length<=D5 Sn then (Sn,lH 8) else (Sn.set (D5 Sn) (some s),(0,(D5 Sn:Int),0,[],[]))
theorem l0 {Sn:List (Option Bytes)} {ms:HM} (hs:FX Sn sc ms) (h4:Sn.length=4):
  HC Tryz.prog CV [.ptr lg vg 0] (pt lg (.row vg 0 (gC lh vh s lm vm D xc sc))+ms) fun r m'=>DX (Nv s Sn).2 r HM.nil/\ ∃sc' ms',FX (Nv s Sn).1 sc' ms'/\m'=pt lg (.row vg 0 (gC lh vh s lm vm D xc sc'))+ms':=by
 intro S mf hS;have hl:=hs.len;refine Ih Kr ?_;unfold Nv;refine Z3 fun v2 l2 S hS=>?_;refine Z3 ?_;by_cases c:Sn.length<=D5 Sn
 ·rw [if_pos c];refine Z4 ?_;refine Ar ?_;refine VO hS rfl rfl (by simp;omega) ?_;refine Z2 ?_;refine HC.use (Ss (lg:=lg) (vg:=vg) (lh:=lh) (vh:=vh) (lm:=lm) (vm:=vm) (s:=s) (D:=D) (xc:=xc) hs h4) hS ?_;rintro r m' S ⟨rfl,rfl⟩ hS;rw [if_pos c];refine TX ?_;refine Be rfl (fun _=>?_) (fun hb=>by exfalso;omega);refine Z3 ?_;refine (Jz 8).use ?_;refine Z2 fun S hS=>?_;refine Z7 ?_;exact ⟨_,⟨DX.plain,sc,ms,hs,rfl⟩,hS.right⟩
 ·rw [if_neg c];have hj:D5 Sn<Sn.length:=by omega
  generalize hJ:D5 Sn=j at*;rcases hs.at_ hj with ⟨g1,g2,g3⟩ | ⟨t,p,v,R,g1,g2,_,_⟩
  rotate_left
  ·exfalso;have: ∀ {l:List (Option Bytes)} {j:Nat} {t:Bytes},D5 l=j->l[j]?=some (some t)->False:=fun {l}=>by
    induction l with
    | nil=>intro j t h h';simp at h'
    | cons a l ih=>
     intro j t h h';cases a with
     | none=>subst h;simp [D5] at h'
     | some u=>subst h;exact ih rfl (by simpa [D5] using h')
   exact this hJ g1
  refine Z4 ?_;refine Ar ?_;refine VO hS rfl rfl (by simp;omega) ?_;refine Z2 ?_;refine HC.use (Ss (lg:=lg) (vg:=vg) (lh:=lh) (vh:=vh) (lm:=lm) (vm:=vm) (s:=s) (D:=D) (xc:=xc) hs h4) hS ?_;rintro r m' S ⟨rfl,rfl⟩ hS;rw [hJ,if_neg c];refine TX ?_;refine Be rfl (fun hb=>by exfalso;omega) (fun _=>?_);refine Z9 fun v4 l4 S hS=>?_;refine Z1 fun S hS=>?_;refine Z9 ?_;refine Ar ?_;refine JU hS rfl rfl rfl rfl (by simp;omega) fun S hS=>?_;(try dsimp only [AK,rd,Frame.get] at hS);rw [nq (by omega)] at hS;refine Z8 fun S hS=>?_;refine Z6 ?_;refine ⟨pt lg (.row vg 0 (gC lh vh s lm vm D xc (sc.set j (.ptr l4 v4 0))))+(pt l4 (.row v4 0 [.str s])+ms),⟨DX.plain,_,_,g3 s l4 v4,rfl⟩,?_⟩;exact (hS.eq (m':=_+pt l2 _) (by ac_rfl)).left
abbrev C4 (r:Rq):List AA:=[.int .i64 r.1,.int .i64 r.2.1.1,.int .i64 r.2.1.2.1,.int .i64 r.2.1.2.2.1,.str r.2.1.2.2.2,.int .i64 r.2.2.1,.int .i64 r.2.2.2.1,.str r.2.2.2.2]
def Nh (Sn:List (Option Bytes)) (k n:Int):List (Option Bytes)×TW:=match (if n<0 then none else Sn.getD n.toNat none) with
 | none=>(Sn,lH 7)
 | some t=>if k=8 then (Sn,(0,0,0,[],t)) else (Sn.set n.toNat none,lH 0)
theorem PE {Sn:List (Option Bytes)} {ms:HM} (hs:FX Sn sc ms) (h4:Sn.length=4) (r:Rq):
  HC Tryz.prog Bo [.ptr lg vg 0,.agg (C4 r)] (pt lg (.row vg 0 (gC lh vh s lm vm D xc sc))+ms) fun x m'=>DX (Nh Sn r.1 r.2.2.1).2 x HM.nil/\ ∃sc' ms',FX (Nh Sn r.1 r.2.2.1).1 sc' ms'/\m'=pt lg (.row vg 0 (gC lh vh s lm vm D xc sc'))+ms':=by
 intro S mf hS;have hl:=hs.len;obtain ⟨k,⟨dk,a,b,u⟩,n,z,w⟩:=r;refine Ih I8 ?_;unfold Nh;try dsimp only
 by_cases c1:n<0
 ·rw [if_pos c1];refine Z3 fun v3 l3 S hS=>?_;refine Z1 fun v4 l4 S hS=>?_;refine Z4 ?_;refine CY hS fun S hS=>?_;refine Z4 ?_;refine Ar ?_;refine BZ (Cn (fun hg=>?_) (fun hg=>by exfalso;omega));dsimp only [AK,rd,Frame.get];refine Z4 ?_;refine Ar ?_;refine BZ (Pl (fun hg=>?_) (fun hb=>by cases hb));dsimp only [AK,rd,Frame.get];refine TX ?_;refine Ce rfl (fun _=>?_) (fun hb=>by cases hb);refine Z3 ?_;refine (Jz 7).use ?_;refine Z2 fun S hS=>?_;refine Z7 ?_;exact ⟨_,⟨DX.plain,sc,ms,hs,rfl⟩,hS.right.right⟩
 rw [if_neg c1];by_cases c2:4<=n
 ·have e:Sn.getD n.toNat none=none:=by rw [List.getD_eq_getElem?_getD,List.getElem?_eq_none (by omega)];rfl
  rw [e];refine Z3 fun v3 l3 S hS=>?_;refine Z1 fun v4 l4 S hS=>?_;refine Z4 ?_;refine CY hS fun S hS=>?_;refine Z4 ?_;refine Ar ?_;refine BZ (Cn (fun hg=>by exfalso;omega) (fun hg=>?_));dsimp only [AK,rd,Frame.get];refine Z4 ?_;refine Ar ?_;refine BZ (Cn (fun hg=>?_) (fun hg=>by exfalso;omega));dsimp only [AK,rd,Frame.get];refine TX ?_;refine Ce rfl (fun _=>?_) (fun hb=>by cases hb);refine Z3 ?_;refine (Jz 7).use ?_;refine Z2 fun S hS=>?_;refine Z7 ?_;exact ⟨_,⟨DX.plain,sc,ms,hs,rfl⟩,hS.right.right⟩
 obtain ⟨i,rfl⟩: ∃i:Nat,n=(i:Int):=⟨n.toNat,by omega⟩
 have hi:i<4:=by omega
 rw [Int.toNat_natCast,List.getD_eq_getElem?_getD];rcases hs.at_ (j:=i) (by omega) with ⟨g1,g2,_⟩ | ⟨t,p,v,R,g1,g2,rfl,g3⟩
 ·rw [g1];have ht:=take_one g2;refine Z3 fun v3 l3 S hS=>?_;refine Z1 fun v4 l4 S hS=>?_;refine Z4 ?_;refine CY hS fun S hS=>?_;refine Z4 ?_;refine Ar ?_;refine BZ (Cn (fun hg=>by exfalso;omega) (fun hg=>?_));dsimp only [AK,rd,Frame.get];refine Z4 ?_;refine Ar ?_;refine BZ (Cn (fun hg=>by exfalso;omega) (fun hg=>?_));dsimp only [AK,rd,Frame.get];refine Z6 ?_;refine pM rfl ?_;refine MP hS rfl rfl (by rw [NO];exact ht) rfl ?_;refine Z5 ?_;refine Ce rfl (fun _=>?_) (fun hb=>by cases hb);refine Z3 ?_;refine (Jz 7).use ?_;refine Z2 fun S hS=>?_;refine Z7 ?_;exact ⟨_,⟨DX.plain,sc,_,hs,rfl⟩,hS.right.right⟩
 ·rw [g1];dsimp only [Option.getD];have ht:=take_one g2;refine Z3 fun v3 l3 S hS=>?_;refine Z1 fun v4 l4 S hS=>?_;refine Z4 ?_;refine CY hS fun S hS=>?_;refine Z4 ?_;refine Ar ?_;refine BZ (Cn (fun hg=>by exfalso;omega) (fun hg=>?_));dsimp only [AK,rd,Frame.get];refine Z4 ?_;refine Ar ?_;refine BZ (Cn (fun hg=>by exfalso;omega) (fun hg=>?_));dsimp only [AK,rd,Frame.get];refine Z6 ?_;refine pM rfl ?_;refine MP hS rfl rfl (by rw [NO];exact ht) rfl ?_;refine Z5 ?_;refine Ce rfl (fun hb=>by cases hb) (fun _=>?_);refine SV ?_;refine Be rfl (fun hk=>?_) (fun hk=>?_)
  ·rw [if_pos hk];refine Z1 ?_;refine CY hS fun S hS=>?_;refine Z7 ?_;refine Ar ?_;refine MP hS rfl rfl (by rw [NO];exact ht) rfl ?_;refine Z5 fun S hS=>?_;refine Z7 ?_;exact ⟨_,⟨DX.plain,sc,_,hs,rfl⟩,hS.right.right⟩
  ·rw [if_neg hk];refine Z3 ?_;refine CY hS fun S hS=>?_;refine Z7 ?_;refine Ar ?_;refine JU hS rfl rfl rfl rfl (by simp;omega) fun S hS=>?_;(try dsimp only [AK,rd,Frame.get] at hS);rw [nq (by omega)] at hS;refine Z7 fun S hS=>?_;refine Z6 ?_;refine ⟨_,⟨DX.plain,_,R,g3,rfl⟩,?_⟩;exact (hS.right.right.eq (m':=pt p (.row v 0 [.str t])+_) (by ac_rfl)).right
end Go.Proofs.YtlibocgedgdmlaaGreat.E
end
