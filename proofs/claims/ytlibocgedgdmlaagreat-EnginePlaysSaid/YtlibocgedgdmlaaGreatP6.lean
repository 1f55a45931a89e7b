/- Part of the proof of enginePlays_holds: the whole is true of every input. Conditions: none. -/
import Derived.Test.YtlibocgedgdmlaaGreatP5
set_option linter.all false
section
namespace Go.Vc
theorem PI {S:AB} {n l v off:Nat} {ag:Bool} {K:AA->Prop} {k:Nat} {cs xs:List AA} (hl:S[l]?=some (.row v k cs)) (hx:takeN n (cs.drop off)=some xs) (hk:Lk ag xs K):I7 S n ag (.ptr l v off) K:=by
 simp only [I7];refine AP.2 ⟨k,cs,hl,?_⟩;cases k with
 | zero=>simp only [Cn,Dz];exact ⟨xs,hx,hk⟩
 | succ k=>exact ⟨xs,hx,hk⟩
theorem QN {H:HF} {ag:Bool} {xs:List TV} {y:TV} {ys:List AA} {K:AA->Prop} (h:nB ag xs=some y) (hs:AN H xs ys) (hk: ∀z,AE H y z->K z):Lk ag ys K:=by
 cases ag
 ·unfold nB at h;simp only at h;split at h<;>cases h;simp only [AN] at hs;obtain ⟨z,zs,rfl,h1,rfl⟩:=hs;exact hk _ h1
 ·simp only [nB] at h;cases h;exact hk _ (by simp only [AE];exact ⟨_,rfl,hs⟩)
theorem V4 {α:Type} {d:α} {l:List α} {i:Int} (h0:0<=i) (h1:i<l.length): ∃hi:i.toNat<l.length,@gt α ⟨d⟩ l i=l[i.toNat]:=by
 have hi:i.toNat<l.length:=by omega
 exact ⟨hi,by simp [gt,List.getD_eq_getElem?_getD,List.getElem?_eq_getElem hi]⟩
theorem fA {H:HF} {t:Ty} {ls:List (T t)} {i:Int} (h0:0<=i) (h1:i<ls.length) {n fo:Nat} {xs:List TV} (h:I6 n ((Gb t (@gt (T t) ⟨zT t⟩ ls i)).drop fo)=some xs):
  ∃ys,takeN n ((ls.flatMap (BP t)).drop (i.toNat*G9 t+fo))=some ys/\AN H xs ys:=by
 obtain ⟨hi,e⟩:=V4 (d:=zT t) h0 h1;rw [e] at h;obtain ⟨ys,g1,g2⟩:=((Hv (H:=H) t ls[i.toNat]).drop fo).I6 h;refine ⟨ys,?_,g2⟩;obtain ⟨e1,e2⟩:=Mf g1;simp only [List.length_drop,A7] at e2;by_cases hn:n=0
 ·subst hn;simp [takeN] at g1 |-;exact g1
 ·rw [ZQ (A7 t) hi fo n (by omega),e1]
theorem UR {H:HF} {k:Nat} {i:Int} {ag:Bool} {cs:List TV} {xs:List AA} (hs:AN H cs xs) {K:AA->Prop}: ∀(n j:Nat) {z:TV},eJ k i ag cs n j=some z->(j:Int)<=i->i<(j:Int)+n->(∀u,AE H z u->K u)->
  ∃ys,takeN k (xs.drop (i.toNat*k))=some ys/\Lk ag ys K
 | 0,j,z,h,h1,h2,hk=>by simp [eJ] at h
 | n+1,j,z,h,h1,h2,hk=>by
  unfold eJ at h;split at h
  ·rename_i ts ht;split at h
   ·rename_i x hx;split at h
    ·cases h;have:i.toNat=j:=by omega
     rw [this];obtain ⟨ys,g1,g2⟩:=(hs.drop (j*k)).I6 ht;exact ⟨ys,g1,QN hx g2 hk⟩
    ·rename_i n;split at h
     ·rename_i y hy;have g:=Jp (H:=H) h;by_cases e:i=(j:Int)
      ·have:i.toNat=j:=by omega
       rw [this];obtain ⟨ys,g1,g2⟩:=(hs.drop (j*k)).I6 ht;exact ⟨ys,g1,QN hx g2 fun u hu=>hk u (g.1 e u hu)⟩
      ·exact UR hs (n+1) (j+1) hy (by omega) (by omega) fun u hu=>hk u (g.2 e u hu)
     ·cases h
   ·cases h
  ·cases h
theorem WQ {H:HF} {k:IntKind} {K:AA->Prop}: ∀(r:List TV) (a:Int) {y:TV} {ys:List AA},pz k a r=some y->AN H r ys->(∀z,AE H y z->K z)->Ud (.int k a) K ys
 | [],a,y,ys,h,hs,hk=>by simp only [AN] at hs;subst hs;simp only [pz,Option.some.injEq] at h;subst h;exact hk _ (by simp [AE])
 | x::r,a,y,ys,h,hs,hk=>by
  unfold pz at h;split at h<;>first | (cases h;done) | skip
  ·rename_i e;cases e
  ·rename_i e;cases e;split at h
   ·rename_i hkk;have hkk:=H7 hkk;subst hkk;simp only [AN,AE] at hs;obtain ⟨z,zs,rfl,rfl,hs⟩:=hs;simp only [Ud];exact ⟨trivial,WQ r _ h hs hk⟩
   ·cases h
theorem WO {H:HF} {k:IntKind} {K:AA->Prop}: ∀(r:List TV) (a:Int) {y:TV} {ys:List AA},px k a r=some y->AN H r ys->(∀z,AE H y z->K z)->Uc (.int k a) K ys
 | [],a,y,ys,h,hs,hk=>by simp only [AN] at hs;subst hs;simp only [px,Option.some.injEq] at h;subst h;exact hk _ (by simp [AE])
 | x::r,a,y,ys,h,hs,hk=>by
  unfold px at h;split at h<;>first | (cases h;done) | skip
  ·rename_i e;cases e
  ·rename_i e;cases e;split at h
   ·rename_i hkk;have hkk:=H7 hkk;subst hkk;simp only [AN,AE] at hs;obtain ⟨z,zs,rfl,rfl,hs⟩:=hs;simp only [Uc];exact ⟨trivial,WO r _ h hs hk⟩
   ·cases h
theorem KZ {H:HF} {t:Ty}: ∀(n:Nat) {cs:List TV} {xs:List (T t)} {ys:List AA},cV t n cs=some xs->AN H cs ys->xs.length=n/\ys=xs.flatMap (BP t)
 | 0,cs,xs,ys,h,hs=>by
  cases cs<;>simp [cV] at h;subst h;simp only [AN] at hs;subst hs;simp
 | n+1,cs,xs,ys,h,hs=>by
  simp only [cV] at h;split at h
  ·rename_i x r h1;split at h<;>cases h;rename_i xs' h2;obtain ⟨zs,rfl,g1⟩:=Nw t h1 hs;obtain ⟨g2,rfl⟩:=KZ n h2 g1;exact ⟨by simp [g2],by simp⟩
  ·cases h
section
variable {P : Program} {H : HF} {TS : List CI} {S : AB} {F : RF} {A : Frame} {path : List (Nat × Bool)} {Γ : List (Nat × Ct)} {ht : Option Ty}
theorem RZ (hF:Cl H F A) (hp:holds A path) {r:Option AO} {a:Int} (h:tF F path r=some a) {K:Nat->Prop} (h0:0<=a) (hk:K a.toNat):X_ A r K:=by
 cases r with
 | none=>simp only [tF,Option.some.injEq] at h;subst h;exact hk
 | some r=>
  simp only [tF] at h;split at h
  ·rename_i x hx;split at h<;>cases h;rename_i k hi;have:=E9 hi (Bm hF hp hx);simp only [X_,AD,this,Lu];exact ⟨a.toNat,by omega,hk⟩
  ·cases h
theorem RO (hF:Cl H F A) (hp:holds A path) {r:Option AO} {a:Int} {n:Nat} (h:re F path (n:Int) r=some a) {K:Nat->Prop} (h0:0<=a) (hk:K a.toNat):ZS A n r K:=by
 cases r with
 | none=>simp only [re,Option.some.injEq] at h;subst h;simpa [ZS] using hk
 | some r=>
  simp only [re] at h;split at h
  ·rename_i x hx;split at h<;>cases h;rename_i k hi;have:=E9 hi (Bm hF hp hx);simp only [ZS,AD,this,Lu];exact ⟨a.toNat,by omega,hk⟩
  ·cases h
theorem eI (hF:Cl H F A) {n:Nat} {a b:AO} {gs:List (Nat×Bool)} {Q:Prop} {p:Prop} (hl:BL F n=some (gs,Q,.gd p)) (hg:holds A gs) {x y z:TV}
  (hx:O_ F ((n,true)::gs) a=some x) (hy:O_ F ((n,false)::gs) b=some y) (hz:Pq p x y=some z) {K:AA->AB->Prop} (hk: ∀u,AE H z u->K u S):AF P A S K (.pick (.t n) a b):=by
 have sc:=(hF _ _ _ _ hl).on hg;have g:=Jp (H:=H) hz;simp only [AF,AD,rd];simp only [AE] at sc;rcases sc with ⟨e,hp'⟩ | ⟨e,hp'⟩<;>rw [e]
 ·exact hk _ (g.1 hp' _ (Bm hF (fun q hq=>by
   rcases List.mem_cons.1 hq with rfl | hq
   ·simpa using e
   ·exact hg q hq) hx))
 ·exact hk _ (g.2 hp' _ (Bm hF (fun q hq=>by
   rcases List.mem_cons.1 hq with rfl | hq
   ·simpa using e
   ·exact hg q hq) hy))
theorem eK (hF:Cl H F A) (hp:holds A path) {n:Nat} {a b:AO} {gs:List (Nat×Bool)} {Q:Prop} {c:TV} (hl:BL F n=some (gs,Q,c)) (hg:holds A gs) {p:Prop} (hc:lV c=some p) {x y z:TV}
  (hx:O_ F path a=some x) (hy:O_ F path b=some y) (hz:Pq p x y=some z) {K:AA->AB->Prop} (hk: ∀u,AE H z u->K u S):AF P A S K (.pick (.t n) a b):=by
 obtain ⟨u,e,hu⟩:=JR hc ((hF _ _ _ _ hl).on hg);have g:=Jp (H:=H) hz;simp only [AF,AD,rd];rw [e];exact ⟨fun e=>hk _ (g.1 (hu.1 e) _ (Bm hF hp hx)),fun e=>hk _ (g.2 (fun q=>by rw [hu.2 q] at e;cases e) _ (Bm hF hp hy))⟩
theorem Jm {ag:Bool} {n:Nat} {cs:List TV} {ps:List Prop} {y:TV} (h:UP ag n cs=some (ps,y)) {H:HF} {K:AA->Prop} (hk: ∀z,AE H y z->K z): ∃xs,I6 n cs=some xs/\ ∀ys,AN H xs ys->Lk ag ys K:=by
 unfold UP at h;split at h
 ·rename_i xs hx;split at h<;>cases h;rename_i hm;exact ⟨xs,hx,fun ys hs=>QN hm hs hk⟩
 ·cases h
theorem VU {t:Ty} {ls:List (List (T t))} {sub:List (Option (Nat×Nat)×Nat)} {i:Int} {q:Option (Nat×Nat)×Nat} (h:P3 S t ls sub) (h0:0<=i) (hq:sub[i.toNat]?=some q):i<ls.length/\q.2=(gt ls i).length/\Cd S t (gt ls i) q.1:=by
 have hi:=(List.getElem?_eq_some_iff.1 hq).1;rw [h.len] at hi;have e:gt ls i=ls[i.toNat]:=by simp [gt,List.getD_eq_getElem?_getD,List.getElem?_eq_getElem hi]
 rw [e];obtain ⟨a,b⟩:=h.at_ i.toNat _ q (List.getElem?_eq_getElem hi) hq;exact ⟨by omega,a,b⟩
theorem N_ (st:Dn H TS S) {n:Nat} {ag:Bool} {x:TV} {X:AA} {ps:List Prop} {y:TV} (h:Sb TS n ag x=some (ps,y)) (hx:AE H x X) {K:AA->Prop} (hk: ∀z,AE H y z->K z):I7 S n ag X K:=by
 unfold Sb at h;split at h
 ·simp only [AE] at hx;obtain ⟨xs,rfl,hx⟩:=hx;obtain ⟨zs,h1,h2⟩:=Jm h hk;obtain ⟨ys,g1,g2⟩:=hx.I6 h1;simp only [I7,Dz];exact ⟨ys,g1,h2 _ g2⟩
 ·split at h
  ·rename_i k cs ho;simp only [AE] at hx;obtain ⟨hd,p,v,e1,e2,rfl⟩:=hx;obtain ⟨p',v',xs,q1,q2,q3⟩:=Oo st ho;rw [q1] at e1;cases e1;cases e2;obtain ⟨zs,h1,h2⟩:=Jm h hk;obtain ⟨ys,g1,g2⟩:=(q3.drop _).I6 h1;exact PI q2 g1 (h2 _ g2)
  ·cases h
 ·rename_i l i fo;split at h
  ·rename_i t ls ho;simp only [AE] at hx;obtain ⟨hd,p,v,e1,e2,e3,e4,rfl⟩:=hx;obtain ⟨loc,q1,q2⟩:=Dl st ho;rw [q1] at e1;cases e1;simp only at e2 e4;subst e2;obtain ⟨zs,h1,h2⟩:=Jm h hk;obtain ⟨ys,g1,g2⟩:=fA e3 (by exact_mod_cast e4) h1;exact PI q2 g1 (h2 _ g2)
  ·rename_i t ls ho;split at h<;>cases h;simp only [AE] at hx;obtain ⟨hd,p,v,e1,e2,e3,e4,rfl⟩:=hx;obtain ⟨p',v',sub,q1,q2,q3⟩:=Jg st ho;rw [q1] at e1;cases e1;cases e2;simp only at e4;obtain ⟨q,hq⟩: ∃q,sub[i.toNat]?=some q:=⟨_,List.getElem?_eq_getElem (by rw [q3.len];omega)⟩
   refine PI q2 (xs:=[bV q]) ?_ ?_
   ·rw [Nat.mul_one,Nat.add_zero];have:(sub.map bV)[i.toNat]?=some (bV q):=by rw [List.getElem?_map,hq];rfl
    obtain ⟨hi,hv⟩:=List.getElem?_eq_some_iff.1 this;rw [List.drop_eq_getElem_cons hi,hv];simp [takeN]
   ·simp only [Lk];exact hk _ (by simp only [AE];exact ⟨_,q,q1,e3,hq,rfl⟩)
  ·cases h
 ·split at h
  ·rename_i t ls ho;split at h
   ·rename_i hz;have hsz:=beq_eq hz;simp only [AE] at hx;obtain ⟨hd,p,v,m,e1,e2,e3,e4,e5,rfl⟩:=hx;obtain ⟨p',v',sub,q1,q2,q3⟩:=Jg st ho;rw [q1] at e1;cases e1;obtain ⟨r1,r2,r3⟩:=VU q3 e2 e3;obtain ⟨zs,h1,h2⟩:=Jm h hk;simp only at r2;obtain ⟨ys,g1,g2⟩:=fA e4 (by omega) h1;rw [hsz] at g1;exact PI r3 g1 (h2 _ g2)
   ·cases h
  ·cases h
 ·cases h
theorem bM (hF:Cl H F A) (hp:holds A path) {x:TV} {r:AO} {lo hi:Option AO} {ps:List Prop} {y:TV} (h:Vw F path x lo hi=some (ps,y)) (FL:GI ps) (hx:AE H x (rd A r)) {K:AA->AB->Prop} (hk: ∀z,AE H y z->K z S):
  AF P A S K (.slice 0 r lo hi):=by
 simp only [AF,AD];unfold Vw at h;split at h
 ·rename_i s;simp only [AE] at hx;rw [hx];split at h
  ·rename_i a b ha hb;cases h;have h1:=FL.cons;have h2:=h1.2.cons;have h3:=h2.2.cons;refine RO hF hp hb (by omega) (RZ hF hp ha h1.1 ⟨?_,?_,hk _ (by simp [AE])⟩)
   ·have:=h2.1;omega
   ·have:=h3.1;have:=h1.1;have:=h2.1;omega
  ·cases h
 ·cases h
theorem t_ {t:Ty} {l:List (T t)} {a b:Nat} (h1:a<=b) (h2:b<=l.length):A6 (l.flatMap (BP t)) (a*G9 t) ((b-a)*G9 t)=((l.take b).drop a).flatMap (BP t)/\((l.take b).drop a).length=b-a:=by
 have e:(l.take b).drop a=(l.drop a).take (b-a):=by rw [List.drop_take]
 refine ⟨?_,by simp;omega⟩;rw [e,A6,Oz l a (b-a),List.take_left'];rw [BO (A7 t),List.length_take,List.length_drop];congr 1;omega
theorem Dn.uU (st:Dn H TS S) {l:Nat} {hd:Hd} (hl:H l=some hd) (hn:hd.loc=none):hd.len=0:=by
 have hlt:l<TS.length:=by
  rcases Nat.lt_or_ge l TS.length with q | q
  ·exact q
  ·rw [st.out l q] at hl;cases hl
 obtain ⟨o,ho⟩: ∃o,TS[l]?=some o:=⟨_,List.getElem?_eq_getElem hlt⟩
 have:=st.ob l o ho;cases o with
 | dead=>simp only [Qm] at this;rw [this] at hl;cases hl
 | cells k cs=>obtain ⟨p,v,xs,q1,_⟩:=this;rw [q1] at hl;cases hl;cases hn
 | row t ls=>obtain ⟨loc,q1,q2⟩:=this;rw [q1] at hl;cases hl;simp only at hn;subst hn;simp only [Cd] at q2;simp [q2]
 | Eg t ls=>obtain ⟨p,v,sub,q1,_⟩:=this;rw [q1] at hl;cases hl;cases hn
theorem bO (st:Dn H TS S) (hF:Cl H F A) (hp:holds A path) {k:Nat} {x:TV} {r:AO} {lo hi:Option AO} {ps:List Prop} {y:TV} (h:Vx F path TS (k+1) x lo hi=some (ps,y)) (FL:GI ps) (hx:AE H x (rd A r)) {K:AA->AB->Prop} (hk: ∀z,AE H y z->K z S):
  AF P A S K (.slice (k+1) r lo hi):=by
 simp only [AF,AD];have main: ∀ {l:Nat} {t:Ty} {ls:List (T t)} {loc:Option (Nat×Nat)} {off len:Int} {a b:Int},H l=some ⟨loc,G9 t,ls.length,[]⟩->Cd S t ls loc->G9 t=k+1->0<=off->0<=len->off+len<=ls.length->tF F path lo=some a->re F path len hi=some b->0<=a->a<=b->b<=len->
   (∀z,AE H (.sl l (off+a) (b-a)) z->K z S)->(match K9 loc (off.toNat*G9 t) len.toNat with
   | .Ez n cs=>ZS A n hi fun h=>X_ A lo fun j=>j<=h/\h<=n/\n*(k+1)<=cs.length/\K (.Ez (h-j) (A6 cs (j*(k+1)) ((h-j)*(k+1)))) S
   | .sl l v off n=>ZS A n hi fun h=>X_ A lo fun j=>j<=h/\h<=n/\J9 S l v fun k' _=>k'=k+1/\K (.sl l v (off+j*(k+1)) (h-j)) S
   | .AL=>ZS A 0 hi fun h=>X_ A lo fun j=>j=0/\h=0/\K .AL S
   | _=>False):=by
  intro l t ls loc off len a b h1 h2 hsz h0 hl hol ha hb q0 q1 q2 hk;have hb':re F path ((len.toNat:Nat):Int) hi=some b:=by rw [Int.toNat_of_nonneg hl];exact hb
  cases loc with
  | none=>
   simp only [Cd] at h2;subst h2;simp only [List.length_nil] at hol;have:len.toNat=0:=by omega
   simp only [K9];rw [this] at hb';refine RO hF hp hb' (by omega) (RZ hF hp ha q0 ⟨by omega,by omega,hk _ ?_⟩);simp only [AE];exact ⟨_,h1,by omega,by omega,by simp only [List.length_nil];omega,rfl⟩
  | some q=>
   obtain ⟨p,v⟩:=q;simp only [K9];refine RO hF hp hb' (by omega) (RZ hF hp ha q0 ⟨by omega,by omega,AP.2 ⟨_,_,h2,hsz,hk _ ?_⟩⟩);simp only [AE];refine ⟨_,h1,by omega,by omega,by simp only;omega,?_⟩;simp only [K9];rw [<-hsz,show (off+a).toNat=off.toNat+a.toNat by omega,Nat.add_mul,show (b-a).toNat=b.toNat-a.toNat by omega]
 unfold Vx at h;split at h
 ·rename_i t l;simp only [AE] at hx;rw [hx];split at h
  ·rename_i a b ha hb hz;cases h;have h1:=FL.cons;have h2:=h1.2.cons;have h3:=h2.2.cons;have hsz:=beq_eq hz;have g1:=h1.1;have g2:=h2.1;have g3:=h3.1;obtain ⟨e1,e2⟩:=t_ (t:=t) (l:=l) (a:=a.toNat) (b:=b.toNat) (by omega) (by omega);refine RO hF hp hb (by omega) (RZ hF hp ha g1 ⟨by omega,by omega,?_,?_⟩)
   ·rw [BO (A7 t),hsz];exact Nat.le_refl _
   ·rw [<-hsz,e1];refine hk _ ?_;simp only [AE];rw [e2]
  ·cases h
 ·split at h
  ·rename_i l t ls ho;simp only [AE] at hx;obtain ⟨hd,e1,hx⟩:=hx;rw [hx];obtain ⟨loc,q1,q2⟩:=Dl st ho;rw [q1] at e1;cases e1;split at h
   ·rename_i a b ha hb hz;cases h;have h1:=FL.cons;have h2:=h1.2.cons;have h3:=h2.2.cons;have:=main (off:=0) (len:=ls.length) q1 q2 (beq_eq hz) (by omega) (by omega) (by omega) ha hb h1.1 h2.1 h3.1 (by rw [Int.zero_add];exact hk);simp only [Int.toNat_zero,Nat.zero_mul,Int.toNat_natCast] at this;exact this
   ·cases h
  ·cases h
 ·split at h
  ·rename_i l off len t ls ho;simp only [AE] at hx;obtain ⟨hd,e1,e2,e3,e4,hx⟩:=hx;rw [hx];obtain ⟨loc,q1,q2⟩:=Dl st ho;rw [q1] at e1;cases e1;split at h
   ·rename_i a b ha hb hz;cases h;have h1:=FL.cons;have h2:=h1.2.cons;have h3:=h2.2.cons;exact main q1 q2 (beq_eq hz) e2 e3 (by exact_mod_cast e4) ha hb h1.1 h2.1 h3.1 hk
   ·cases h
  ·cases h
 ·simp only [AE] at hx;rw [hx];split at h
  ·rename_i a b ha hb;cases h;have h1:=FL.cons;have h2:=h1.2.cons;refine RO hF hp (n:=0) hb (by have:=h2.1;omega) (RZ hF hp ha (by have:=h1.1;omega) ⟨?_,?_,hk _ (by simp [AE])⟩)
   ·have:=h1.1;omega
   ·have:=h2.1;omega
  ·cases h
 ·cases h
theorem lp (s:List UInt8):(s.map fun c=>AA.int .u8 (c.toNat:Int))=List.flatMap (BP (.int .u8)) (s.map fun c=>(c.toNat:Int)):=by
 induction s with
 | nil=>rfl
 | cons c s ih=>exact congrArg (AA.int .u8 (c.toNat:Int):: ·) ih
theorem QZ (st:Dn H TS S) {t:Ty} {y:TV} {Y:AA} {ys:List (T t)} (h0:fM TS t y=some ys) (hs:AE H y Y) {K:Nat->List AA->Prop} (hk:K ys.length (ys.flatMap (BP t))):Nh S (G9 t) Y K:=by
 have main:Vm TS t y=some ys->Nh S (G9 t) Y K:=fun h=>by
  unfold Vm at h;split at h
  ·rename_i e l;split at h<;>cases h;rename_i hh _;subst hh;simp only [AE] at hs;subst hs;simp only [Nh];have:=BO (A7 e) l;refine ⟨by rw [this];exact Nat.le_refl _,?_⟩;rw [List.take_of_length_le (by rw [this];exact Nat.le_refl _)];exact hk
  ·cases h;simp only [AE] at hs;subst hs;exact hk
  ·split at h
   ·rename_i e ls ho;split at h<;>cases h;rename_i hh _;subst hh;obtain ⟨loc,h1,h2⟩:=Dl st ho;simp only [AE] at hs;obtain ⟨hd,g1,rfl⟩:=hs;rw [h1] at g1;cases g1;cases loc with
    | none=>simp only [Cd] at h2;subst h2;exact hk
    | some q=>
     obtain ⟨p,v⟩:=q;simp only [K9,Nh];have:=BO (A7 e) ls;refine AP.2 ⟨_,_,h2,by rw [this];omega,?_⟩;rw [A6,List.drop_zero,List.take_of_length_le (by rw [this];exact Nat.le_refl _)];exact hk
   ·cases h
  ·rename_i l off len;split at h
   ·rename_i e ls ho;split at h<;>cases h;rename_i hh _;subst hh;obtain ⟨loc,h1,h2⟩:=Dl st ho;simp only [AE] at hs;obtain ⟨hd,g1,g2,g3,g4,rfl⟩:=hs;rw [h1] at g1;cases g1;simp only at g4;have hlen:((ls.drop off.toNat).take len.toNat).length=len.toNat:=by simp;omega
    rw [hlen] at hk;cases loc with
    | none=>
     simp only [Cd] at h2;subst h2;simp only [List.length_nil] at g4;have:len.toNat=0:=by omega
     rw [this] at hk;simpa [K9,Nh] using hk
    | some q=>
     obtain ⟨p,v⟩:=q;simp only [K9,Nh];have e1:=BO (A7 e) ls;refine AP.2 ⟨_,_,h2,?_,?_⟩
     ·rw [e1,<-Nat.add_mul];exact Nat.mul_le_mul_right _ (by omega)
     ·have e2:=BO (A7 e) ((ls.drop off.toNat).take len.toNat);rw [hlen] at e2;rw [A6,Oz ls off.toNat len.toNat,List.take_left' e2];exact hk
   ·cases h
  ·cases h
 unfold fM at h0;split at h0
 ·rename_i s;split at h0<;>cases h0;simp only [AE] at hs;subst hs;simp only [Nh,G9];refine ⟨trivial,?_⟩;have e:(s.map fun c=>AA.int .u8 (c.toNat:Int))=(s.map fun c=>(c.toNat:Int)).flatMap (BP (.int .u8)):=by
   clear hk
   induction s with
   | nil=>rfl
   | cons c s ih=>exact congrArg (AA.int .u8 (c.toNat:Int):: ·) (ih (fun h=>nomatch h))
  rw [e];have e2:List.length (α:=T (.int .u8)) (s.map fun c=>(c.toNat:Int))=s.length:=List.length_map _;exact Eq.mp (congrArg (fun n=>K n (List.flatMap (BP (Ty.int IntKind.u8)) (List.map (fun c=>(c.toNat:Int)) s))) e2) hk
 ·exact main h0
theorem dM: ∀l:List (T (.int .u8)),l.flatMap (BP (.int .u8))=List.map (AA.int .u8) (l:List Int)
 | []=>rfl
 | n::l=>congrArg (AA.int .u8 n:: ·) (dM l)
theorem cE (st:Dn H TS S) {y:TV} {Y:AA} {l:List (T (.int .u8))} (h0:Vm TS (.int .u8) y=some l) (hs:AE H y Y) {K:List UInt8->Prop} (hk:K (List.map (fun n:Int=>UInt8.ofNat n.toNat) l)):NL S Y K:=by
 have hns: ∀s,y≠ .str s:=fun s e=>by subst e;simp [Vm] at h0
 have hsrc:fM TS (.int .u8) y=some l:=by
  unfold fM;split
  ·exact (hns _ rfl).elim
  ·exact h0
 have hsl: ∀loc a b s,AA.str s≠K9 loc a b:=fun loc a b s e=>by
  cases loc with
  | none=>simp [K9] at e
  | some q=>obtain ⟨_,_⟩:=q;simp [K9] at e
 have hnY: ∀s,Y≠ .str s:=fun s e=>by
  subst e;cases y<;>simp only [Vm] at h0<;>first | (cases h0;done) | skip
  all_goals simp only [AE] at hs
  ·cases hs
  ·cases hs
  ·obtain ⟨_,_,e⟩:=hs;exact hsl _ _ _ _ e
  ·obtain ⟨_,_,_,_,_,e⟩:=hs;exact hsl _ _ _ _ e
 have h1:=QZ (K:=fun n ys=>n=l.length/\ys=l.flatMap (BP (.int .u8))) st hsrc hs ⟨rfl,rfl⟩;rw [dM] at h1;simp only [G9] at h1;cases Y<;>simp only [Nh] at h1<;>simp only [NL]
 case AL=>
  have:l=[]:=List.length_eq_zero_iff.1 h1.1.symm;subst this;exact hk
 case Ez n cs=>
  simp only [Nat.mul_one] at h1;exact ⟨h1.1,_,h1.2.2,hk⟩
 case sl q v off n=>
  obtain ⟨k',cs,g1,g2,g3,g4⟩:=AP.1 h1;rw [Nat.mul_one] at g2 g4;exact AP.2 ⟨k',cs,g1,g2,_,g4,hk⟩
 case str s=>exact (hnY s rfl).elim
mutual
theorem j9: ∀ {z b:TV} {qs:List Prop} {y Y:AA},w_ z b=some qs->GI qs->AE H z y->AE H b Y->y=Y:=by
 intro z b qs y Y h hp hy hb;unfold w_ at h;split at h
 ·split at h<;>cases h;rename_i hk;have:=H7 hk;subst this;have:=hp _ (List.mem_singleton.2 rfl);simp only [AE] at hy hb;rw [hy,hb,this]
 ·cases h;have:=hp _ (List.mem_singleton.2 rfl);simp only [AE] at hy hb;rw [hy,hb,this]
 ·cases h;have:=hp _ (List.mem_singleton.2 rfl);simp only [AE] at hy hb;rw [hy,hb,this]
 ·split at h<;>cases h;rename_i he _;subst he;have:=hp _ (List.mem_singleton.2 rfl);simp only at this;subst this;simp only [AE] at hy hb;rw [hy,hb]
 ·split at h<;>cases h;rename_i hl;have:=beq_eq hl;subst this;simp only [AE] at hy hb;obtain ⟨h1,e1,rfl⟩:=hy;obtain ⟨h2,e2,rfl⟩:=hb;rw [e1] at e2;cases e2;rfl
 ·split at h<;>cases h;rename_i hl ho;have:=beq_eq hl;subst this;have:=beq_eq ho;subst this;simp only [AE] at hy hb;obtain ⟨h1,p1,v1,e1,q1,rfl⟩:=hy;obtain ⟨h2,p2,v2,e2,q2,rfl⟩:=hb;rw [e1] at e2;cases e2;rw [q1] at q2;cases q2;rfl
 ·simp only [AE] at hy hb;obtain ⟨x1,rfl,g1⟩:=hy;obtain ⟨x2,rfl,g2⟩:=hb;rw [Vt h hp g1 g2]
 ·split at h
  ·rename_i hf;have:=beq_eq hf;subst this;simp only [AE] at hy hb;obtain ⟨x1,rfl,g1⟩:=hy;obtain ⟨x2,rfl,g2⟩:=hb;rw [Vt h hp g1 g2]
  ·cases h
 ·cases h
theorem Vt: ∀ {z b:List TV} {qs:List Prop} {y Y:List AA},iL z b=some qs->GI qs->AN H z y->AN H b Y->y=Y
 | [],[],qs,y,Y,h,hp,hy,hb=>by
  simp only [AN] at hy hb;rw [hy,hb]
 | [],_::_,qs,y,Y,h,hp,hy,hb=>by simp [iL] at h
 | _::_,[],qs,y,Y,h,hp,hy,hb=>by simp [iL] at h
 | z::zs,b::bs,qs,y,Y,h,hp,hy,hb=>by
  simp only [iL] at h;split at h
  ·rename_i ps rs h1 h2;cases h;simp only [AN] at hy hb;obtain ⟨y1,y2,rfl,g1,g2⟩:=hy;obtain ⟨Y1,Y2,rfl,k1,k2⟩:=hb;rw [j9 h1 (fun p hp'=>hp p (List.mem_append_left _ hp')) g1 k1,Vt h2 (fun p hp'=>hp p (List.mem_append_right _ hp')) g2 k2]
  ·cases h
end
theorem Ox (hΓ:Cons P Γ) (st:Dn H TS S) (hF:Cl H F A) (hp:holds A path) {so:EL} {ps:List Prop} {y:TV} (h:uQ Γ ht F path TS so=some (ps,y)) (FL:GI ps) {K:AA->AB->Prop} (hk: ∀z,AE H y z->K z S):
  DI P A S K so:=by
 have w1: ∀ {x:AO} {f:TV->Option (List Prop×TV)},Iy F path x f=some (ps,y)-> ∃a,f a=some (ps,y)/\AE H a (rd A x):=fun {x f} h=>by
  unfold Iy at h;split at h
  ·rename_i a hx;exact ⟨a,h,Bm hF hp hx⟩
  ·cases h
 have w2: ∀ {x z:AO} {f:TV->TV->Option (List Prop×TV)},ZU F path x z f=some (ps,y)-> ∃a b,f a b=some (ps,y)/\AE H a (rd A x)/\AE H b (rd A z):=fun {x z f} h=>by
  unfold ZU at h;split at h
  ·rename_i a b hx hz;exact ⟨a,b,h,Bm hF hp hx,Bm hF hp hz⟩
  ·cases h
 have wi: ∀ {x z:AO} {f:TV->Int->Option (List Prop×TV)},lK F path x z f=some (ps,y)-> ∃a k j,f a j=some (ps,y)/\AE H a (rd A x)/\rd A z= .int k j:=fun {x z f} h=>by
  unfold lK at h;split at h
  ·rename_i a b hx hz;split at h
   ·rename_i k j hi;exact ⟨a,k,j,h,Bm hF hp hx,E9 hi (Bm hF hp hz)⟩
   ·cases h
  ·cases h
 cases so<;>simp only [uQ] at h<;>(try (cases h;done))<;>simp only [DI]
 case CD x=>
  have h:(match O_ F path x with | some y=>some ([],y) | none=>none)=some (ps,y):=by
   unfold uO at h;split at h
   ·cases h
   ·exact h
  split at h<;>cases h;rename_i hx;simp only [AF,AD];exact hk _ (Bm hF hp hx)
 case pick c a b=>
  unfold pM at h;split at h
  ·split at h
   ·rename_i gs Q c' hl;split at h
    ·rename_i hs;have hg:=Qc hs hp;unfold kL at h;split at h
     ·split at h
      ·rename_i hx hy;split at h<;>cases h;rename_i hz;exact eI hF hl hg hx hy hz hk
      ·cases h
     ·split at h
      ·rename_i hc hx hy;split at h<;>cases h;rename_i hz;exact eK hF hp hl hg hc hx hy hz hk
      ·cases h
    ·cases h
   ·cases h
  ·cases h
 case build z parts=>
  unfold j_ at h;split at h
  ·rename_i cs hz;split at h<;>cases h;rename_i ys hf;simp only [AF];exact Oy hF hp hf (Ik hz) fun ws hw=>hk _ (by simp only [AE];exact ⟨_,rfl,hw⟩)
  ·cases h
 case Ax ro len k z parts=>
  split at h
  ·split at h<;>cases h;rename_i t xs hl;unfold kJ at hl;split at hl
   ·split at hl
    ·rename_i hsz hf;split at hl<;>cases hl;rename_i hd;rename_i cs hz _ _ _ _;simp only [AF];refine Oy hF hp hf (Ik hz) fun ws hw=>hk _ ?_;obtain ⟨e1,rfl⟩:=KZ len hd hw;simp only [AE,e1]
    ·cases hl
   ·cases hl
  ·cases h
 case load n ag x=>
  obtain ⟨a,h1,h2⟩:=w1 h;simp only [AF,AD];exact N_ st h1 h2 hk
 case Fg x=>
  obtain ⟨a,h1,h2⟩:=w1 h;simp only [AF,AD];unfold cy at h1;split at h1<;>cases h1<;>have h3:=h2<;>simp only [AE] at h2
  ·obtain ⟨xs,e,_⟩:=h2;rw [e] at h3 |-;exact hk _ h3
  ·obtain ⟨_,_,_,_,_,e⟩:=h2;rw [e] at h3 |-;exact hk _ h3
  ·obtain ⟨_,_,_,_,_,_,_,e⟩:=h2;rw [e] at h3 |-;exact hk _ h3
  ·obtain ⟨_,_,_,_,_,_,_,_,_,e⟩:=h2;rw [e] at h3 |-;exact hk _ h3
  ·obtain ⟨xs,e,_⟩:=h2;rw [e] at h3 |-;exact hk _ h3
 case bin q op x z=>
  obtain ⟨a,b,h1,h2,h3⟩:=w2 h;simp only [AF,AD];exact gN h1 h2 h3 FL hk
 case sA x=>
  obtain ⟨a,h1,h2⟩:=w1 h;simp only [AF,AD];split at h1<;>cases h1;rename_i l hl;exact cE st hl h2 (hk _ (by simp [AE]))
 case again t n ag x=>
  obtain ⟨a,b,h1,h2,h3⟩:=w2 h;split at h1
  case h_2=>cases h1
  rename_i qs z hz;split at h1<;>cases h1;rename_i rs hq;simp only [AF,AD];refine N_ st hz h2 (fun y hy=>⟨j9 hq (fun p hp=>FL p (by simp [hp])) hy h3,hk _ (by simp [AE])⟩)
 case Od x=>
  obtain ⟨a,h1,h2⟩:=w1 h;simp only [AF,AD];split at h1<;>cases h1;simp only [AE] at h2;rw [h2];exact hk _ (by simp [AE])
 case not x=>
  obtain ⟨a,h1,h2⟩:=w1 h;simp only [AF,AD];unfold uP at h1;split at h1
  ·cases h1;simp only [AE] at h2;rw [h2];exact hk _ (by simp [AE])
  ·cases h1;simp only [AE] at h2;rw [h2];exact hk _ (by simp [AE])
  ·split at h1<;>cases h1;rename_i p hp';exact lU hp' h2 fun b hb=>NB (K:=fun z=>K z S) (by simp [<-hb]) hk
 case neg x=>
  obtain ⟨a,h1,h2⟩:=w1 h;simp only [AF,AD];split at h1<;>simp only [Option.some.injEq,reduceCtorEq] at h1;simp only [AE] at h2;rw [h2];have e1:=congrArg Prod.fst h1;have e2:=congrArg Prod.snd h1;simp only at e1 e2;subst e1;subst e2;exact IH (K:=fun z=>K z S) FL hk
 case conv k x=>
  obtain ⟨a,h1,h2⟩:=w1 h;simp only [AF,AD];unfold uI at h1;split at h1
  ·simp only [Option.some.injEq] at h1;simp only [AE] at h2;rw [h2];have e1:=congrArg Prod.fst h1;have e2:=congrArg Prod.snd h1;simp only at e1 e2;subst e1;subst e2;exact IH (K:=fun z=>K z S) FL hk
  ·rename_i b;simp only [AE] at h2;rw [h2];have hb:b.toNat<256:=b.toNat_lt;split at h1
   ·cases h1;exact ⟨⟨by omega,by omega⟩,hk _ (by simp [AE])⟩
   ·cases h1;simp only [jn,f_];refine hk _ ?_;simp only [AE,IntKind.wrap,IntKind.bits,IntKind.signed];have e:((b.toNat:Int)%256)=b.toNat:=by omega
    simp [e]
   ·simp only [Option.some.injEq] at h1;have e1:=congrArg Prod.fst h1;have e2:=congrArg Prod.snd h1;simp only at e1 e2;subst e1;subst e2;exact IH (K:=fun z=>K z S) FL hk
  ·cases h1
 case slice k x lo hi=>
  obtain ⟨a,h1,h2⟩:=w1 h;cases k with
  | zero=>exact bM hF hp h1 FL h2 hk
  | succ k=>exact bO st hF hp h1 FL h2 hk
 case Bo off x=>
  obtain ⟨a,h1,h2⟩:=w1 h;simp only [AF,AD];unfold kE at h1;split at h1<;>cases h1<;>simp only [AE] at h2
  ·obtain ⟨hd,p,v,e1,e2,e⟩:=h2;rw [e];exact hk _ (by simp only [AE];exact ⟨hd,p,v,e1,e2,rfl⟩)
  ·obtain ⟨hd,p,v,e1,e2,e3,e4,e⟩:=h2;rw [e];exact hk _ (by simp only [AE];exact ⟨hd,p,v,e1,e2,e3,e4,by rw [Nat.add_assoc]⟩)
  ·obtain ⟨hd,p,v,m,e1,e2,e3,e4,e5,e⟩:=h2;rw [e];exact hk _ (by simp only [AE];exact ⟨hd,p,v,m,e1,e2,e3,e4,e5,by rw [Nat.add_assoc]⟩)
  ·obtain ⟨xs,e,hs⟩:=h2;rw [e];simp only [Cn];exact hk _ (by simp only [AE];exact ⟨_,rfl,hs.drop off⟩)
 case field off n ag x=>
  obtain ⟨a,h1,h2⟩:=w1 h;simp only [AF,AD];unfold kG at h1;split at h1
  ·simp only [AE] at h2;obtain ⟨xs,e,hs⟩:=h2;rw [e];obtain ⟨zs,g1,g2⟩:=Jm (K:=fun z=>K z S) h1 hk;obtain ⟨ys,q1,q2⟩:=(hs.drop off).I6 g1;simp only [Cn,Dz];exact ⟨ys,q1,g2 _ q2⟩
  ·cases h1
 case DT k ar x i=>
  split at h
  ·obtain ⟨a,kk,j,h1,h2,h3⟩:=wi h;simp only [AF,AD,h3,Lu];unfold kH at h1;split at h1
   ·rename_i t l;split at h1<;>cases h1;rename_i hz;have g1:=FL.cons;have g2:=g1.2.cons;simp only [AE] at h2;rw [h2];have hsz:=beq_eq hz;refine ⟨j.toNat,by have:=g1.1;omega,by have:=g2.1;have:=g1.1;omega,?_⟩;obtain ⟨hi,e⟩:=V4 (d:=zT t) g1.1 g2.1;refine ⟨BP t l[j.toNat],by rw [<-hsz];exact jf (A7 t) hi,hk _ ?_⟩;simp only [AE];exact ⟨_,rfl,by rw [e];exact Hv t _⟩
   ·rename_i l;split at h1
    ·rename_i t ls ho;split at h1<;>cases h1;rename_i hz;have g1:=FL.cons;have g2:=g1.2.cons;have hsz:=beq_eq hz;simp only [AE] at h2;obtain ⟨hd,e1,e⟩:=h2;obtain ⟨loc,q1,q2⟩:=Dl st ho;rw [q1] at e1;cases e1;cases loc with
     | none=>
      simp only [Cd] at q2;subst q2;have:=g1.1;have:=g2.1;simp only [List.length_nil] at this;omega
     | some q=>
      obtain ⟨p,v⟩:=q;rw [e];simp only [K9];refine ⟨j.toNat,by have:=g1.1;omega,by have:=g2.1;have:=g1.1;omega,AP.2 ⟨_,_,q2,.inl hsz,hk _ ?_⟩⟩;simp only [AE];exact ⟨_,p,v,q1,rfl,g1.1,g2.1,by rw [hsz];simp⟩
    ·rename_i t ls ho;split at h1<;>cases h1;rename_i hz;have g1:=FL.cons;have g2:=g1.2.cons;have hsz:=beq_eq hz;simp only [AE] at h2;obtain ⟨hd,e1,e⟩:=h2;obtain ⟨p,v,sub,q1,q2,q3⟩:=Jg st ho;rw [q1] at e1;cases e1;rw [e];simp only [K9];refine ⟨j.toNat,by have:=g1.1;omega,by have:=g2.1;have:=g1.1;omega,AP.2 ⟨_,_,q2,.inl hsz,hk _ ?_⟩⟩;simp only [AE];exact ⟨_,p,v,q1,rfl,g1.1,g2.1,by rw [<-hsz];simp⟩
    ·cases h1
   ·rename_i l i';split at h1
    ·rename_i t ls ho;split at h1<;>cases h1;rename_i hz;have g1:=FL.cons;have g2:=g1.2.cons;have hsz:=beq_eq hz;simp only [AE] at h2;obtain ⟨hd,q,e1,e2,e3,e⟩:=h2;obtain ⟨p,v,sub,q1,q2,q3⟩:=Jg st ho;rw [q1] at e1;cases e1;obtain ⟨r1,r2,r3⟩:=VU q3 e2 e3;obtain ⟨loc,m⟩:=q;have:=g1.1;have:=g2.1;simp only at r2 r3;cases loc with
     | none=>
      simp only [Cd] at r3;rw [r3] at this;simp only [List.length_nil] at this;omega
     | some pv=>
      obtain ⟨p2,v2⟩:=pv;rw [e];simp only [K9];refine ⟨j.toNat,by omega,by omega,AP.2 ⟨_,_,r3,.inl hsz,hk _ ?_⟩⟩;simp only [AE];exact ⟨_,p2,v2,m,q1,e2,e3,by omega,by omega,by simp⟩
    ·cases h1
   ·rename_i l off len;split at h1
    ·rename_i t ls ho;split at h1<;>cases h1;rename_i hz;have g1:=FL.cons;have g2:=g1.2.cons;have hsz:=beq_eq hz;simp only [AE] at h2;obtain ⟨hd,e1,e2,e3,e4,e⟩:=h2;obtain ⟨loc,q1,q2⟩:=Dl st ho;rw [q1] at e1;cases e1;simp only at e4;have:=g1.1;have:=g2.1;cases loc with
     | none=>
      simp only [Cd] at q2;subst q2;simp only [List.length_nil] at e4;omega
     | some q=>
      obtain ⟨p,v⟩:=q;rw [e];simp only [K9];refine ⟨j.toNat,by omega,by omega,AP.2 ⟨_,_,q2,.inl hsz,hk _ ?_⟩⟩;simp only [AE];refine ⟨_,p,v,q1,rfl,by omega,by simp only;omega,?_⟩;rw [hsz,show (off+j).toNat=off.toNat+j.toNat by omega,Nat.add_mul,Nat.add_zero]
    ·cases h1
   ·cases h1
  ·cases h
 case index k ar ag x i=>
  obtain ⟨a,kk,j,h1,h2,h3⟩:=wi h;simp only [AF,AD,h3,Lu];unfold kI at h1;split at h1
  ·split at h1<;>cases h1;rename_i s;have g1:=FL.cons;have g2:=g1.2.cons;simp only [AE] at h2;rw [h2];obtain ⟨hi,e⟩:=V4 (d:=(default:UInt8)) g1.1 g2.1;refine ⟨j.toNat,by have:=g1.1;omega,s[j.toNat],List.getElem?_eq_getElem hi,hk _ ?_⟩;simp only [AE];rw [<-e]
  ·split at h1
   ·split at h1<;>cases h1;rename_i hpk;have g1:=FL.cons;have g2:=g1.2.cons;simp only [AE] at h2;obtain ⟨xs,e,hs⟩:=h2;rw [e];obtain ⟨ys,q1,q2⟩:=UR hs _ 0 hpk g1.1 (by have:=g2.1;omega) hk;exact ⟨j.toNat,by have:=g1.1;omega,by have:=g2.1;have:=g1.1;omega,ys,q1,q2⟩
   ·cases h1
 case len str x=>
  obtain ⟨a,h1,h2⟩:=w1 h;simp only [AF,AD];unfold uM at h1;split at h1
  ·cases h1;simp only [AE] at h2;rw [h2];exact hk _ (by simp [AE])
  ·cases h1;simp only [AE] at h2;rw [h2];exact hk _ (by simp [AE])
  ·split at h1<;>cases h1;rename_i ho;simp only [AE] at h2;obtain ⟨hd,e1,e⟩:=h2;obtain ⟨loc,q1,q2⟩:=Dl st ho;rw [q1] at e1;cases e1;rw [e];cases loc with
   | none=>simp only [Cd] at q2;subst q2;exact hk _ (by simp [AE])
   | some q=>exact hk _ (by simp [AE])
   rename_i ho;simp only [AE] at h2;obtain ⟨hd,e1,e⟩:=h2;obtain ⟨p,v,sub,q1,q2,q3⟩:=Jg st ho;rw [q1] at e1;cases e1;rw [e];exact hk _ (by simp [AE])
  ·split at h1<;>cases h1;rename_i ho;simp only [AE] at h2;obtain ⟨hd,q,e1,e2,e3,e⟩:=h2;obtain ⟨p,v,sub,q1,q2,q3⟩:=Jg st ho;rw [q1] at e1;cases e1;obtain ⟨r1,r2,r3⟩:=VU q3 e2 e3;obtain ⟨loc,m⟩:=q;simp only at r2 r3 e;rw [e];cases loc with
   | none=>
    simp only [Cd] at r3;exact hk _ (by simp [AE,r3])
   | some pv=>exact hk _ (by simp [AE,r2])
  ·cases h1;simp only [AE] at h2;obtain ⟨hd,e1,e2,e3,e4,e⟩:=h2;rw [e];cases hl:hd.loc with
   | none=>
    have:=st.uU e1 hl;simp only [K9];refine hk _ ?_;simp only [AE];congr 1;omega
   | some q=>
    refine hk _ ?_;simp only [AE];congr 1;omega
  ·cases h1;simp only [AE] at h2;rw [h2];exact hk _ (by simp [AE])
  ·cases h1
 case min xs=>
  unfold P1 at h;split at h
  ·rename_i ys hy;have hs:=F_ hF hp hy;unfold sV at h;split at h
   ·split at h<;>cases h;rename_i hm;simp only [AN,AE] at hs;obtain ⟨z,zs,e,rfl,hs⟩:=hs;simp only [AF,Ar,e];exact WQ (K:=fun z=>K z S) _ _ hm hs hk
   ·cases h
  ·cases h
 case max xs=>
  unfold P1 at h;split at h
  ·rename_i ys hy;have hs:=F_ hF hp hy;unfold sV at h;split at h
   ·split at h<;>cases h;rename_i hm;simp only [AN,AE] at hs;obtain ⟨z,zs,e,rfl,hs⟩:=hs;simp only [AF,Ar,e];exact WO (K:=fun z=>K z S) _ _ hm hs hk
   ·cases h
  ·cases h
 case slice3 k x hh m=>
  unfold Iy at h;split at h
  ·rename_i y hy;dsimp only at h;unfold ZU at h;split at h
   ·rename_i a b ha hb;dsimp only at h;split at h
    ·rename_i k1 n k2 n' hn hn';split at h
     ·rename_i l;split at h
      ·rename_i t ls ho;split at h<;>cases h;rename_i hz hkk;have hkk:=H7 hkk;subst hkk;have h1:=FL.cons;have h2:=h1.2.cons;have h3:=h2.2.cons;have g1:=h1.1;have g2:=h2.1;have g3:=h3.1;have hx:=Bm hF hp hy;simp only [AE] at hx;obtain ⟨hd,e1,e2⟩:=hx;obtain ⟨loc,q1,q2⟩:=Dl st ho;rw [q1] at e1;cases e1;simp only [AF,AD,e2,E9 hn (Bm hF hp ha),E9 hn' (Bm hF hp hb),Lu];refine ⟨n.toNat,by omega,by rw [g1],?_⟩;cases loc with
       | none=>
        simp only [Cd] at q2;subst q2;simp only [List.length_nil] at g3;refine ⟨by omega,hk _ ?_⟩;simp only [AE];exact ⟨_,q1,by omega,g2,by simp only [List.length_nil];omega,rfl⟩
       | some pv=>
        obtain ⟨p,v⟩:=pv;refine ⟨by omega,AP.2 ⟨_,_,q2,beq_eq hz,hk _ ?_⟩⟩;simp only [AE];exact ⟨_,q1,by omega,g2,by simp only;omega,by simp [K9]⟩
      ·cases h
     ·cases h
    ·cases h
   ·cases h
  ·cases h
 case WR t x=>
  unfold Iy at h;split at h
  ·rename_i y hy;dsimp only at h;split at h<;>cases h;have hs:=Bm hF hp hy;simp only [AE] at hs;obtain ⟨hd,e1,e2⟩:=hs;simp only [AF,AD,e2];exact hk _ (by simp only [AE];exact ⟨_,e1,rfl⟩)
  ·cases h
 case HJ f first cap=>
  unfold pL at h;split at h
  ·split at h<;>cases h;rename_i hy;have hs:=F_ hF hp hy;simp only [AF,Ar,List.map_nil];exact hk _ (by simp only [AE];exact ⟨_,rfl,hs⟩)
  ·cases h
 case ext k xs=>
  unfold P1 at h;split at h
  ·rename_i ys hy;have hs:=F_ hF hp hy;unfold uL at h;split at h
   ·rename_i s c;split at h
    ·rename_i b hb;simp only [AN,AE] at hs;obtain ⟨z,zs,e,rfl,u,us,rfl,h2,rfl⟩:=hs;have e2: ∃n:Int,u= .int .u8 n/\n.toNat.toUInt8=b:=by
      unfold wA at hb;split at hb<;>cases hb
      ·simp only [AE] at h2;exact ⟨_,h2,by simp⟩
      ·simp only [AE] at h2;exact ⟨_,h2,rfl⟩
     obtain ⟨n,rfl,rfl⟩:=e2;simp only [AF,Ar,e];cases k<;>simp only [Option.some.injEq,Prod.mk.injEq] at h<;>obtain ⟨rfl,rfl⟩:=h<;>simp only [lH]<;>exact hk _ (by simp only [AE])
    ·cases h
   ·cases h
  ·cases h
 case extract x i=>
  obtain ⟨a,h1,h2⟩:=w1 h;simp only [AF,AD];unfold YU at h1;split at h1
  ·rename_i xs;simp only [AE] at h2;obtain ⟨ys,e,hs⟩:=h2;rw [e];simp only [Cn];have hd:=hs.drop i;split at h1<;>cases h1;rename_i r he;rw [he] at hd;simp only [AN] at hd;obtain ⟨z,zs,e2,h3,_⟩:=hd;rw [e2];exact hk _ h3
  ·cases h1
 case call f args=>
  unfold P1 at h;split at h
  ·rename_i ys hy;have hs:=F_ hF hp hy;unfold aC at h;split at h
   ·rename_i ct hc;split at h<;>cases h;rename_i hv hd hf;obtain ⟨r0,g1,g2⟩:=j3 (hΓ.look hc) st hd FL.cons.1 hs hf hv;simp only [Ar];exact ⟨r0,g2,hk _ g1⟩
   ·cases h
  ·cases h
 case GZ x args=>
  obtain ⟨a,h1,h2⟩:=w1 h;simp only [AD];split at h1
  ·rename_i f cap;simp only [AE] at h2;obtain ⟨ys,e,hc⟩:=h2;rw [e];unfold P1 at h1;split at h1
   ·rename_i xs hx;have hs:=(F_ hF hp hx).append hc;unfold aC at h1;split at h1
    ·rename_i ct hct;dsimp only at h1;split at h1<;>cases h1;rename_i hv hd hf;obtain ⟨r0,g1,g2⟩:=j3 (hΓ.look hct) st hd FL.cons.1 hs hf hv;simp only [Ar];exact ⟨trivial,r0,g2,hk _ g1⟩
    ·cases h1
   ·cases h1
  ·cases h1
end
end Go.Vc
end
section
namespace Go.Vc
theorem IM {S:AB} {l:Nat} {o:Ob} {K:AB->Prop} (h:l<S.length) (hk:K (S.set l o)):Lv S l o K:=Cj.2 ⟨h,hk⟩
theorem UN: ∀(a rest ys:List AA),ys.length<=a.length->over (a++rest) ys=over a ys++rest
 | [],rest,ys,h=>by
  have:ys=[]:=List.length_eq_zero_iff.1 (by simpa using h);subst this;cases rest<;>rfl
 | x::a,rest,[],h=>rfl
 | x::a,rest,y::ys,h=>by
  simp only [List.cons_append,over];rw [UN a rest ys (by simpa using h)]
theorem R3 {xs ys:List AA} (h:ys.length=xs.length):setCells xs 0 ys=ys:=by
 have e: ∀(xs ys:List AA),ys.length=xs.length->over xs ys=ys:=by
  intro xs
  induction xs with
  | nil=>intro ys h;cases ys with | nil=>rfl | cons=>simp at h
  | cons x xs ih=>intro ys h;cases ys with | nil=>simp at h | cons y ys=>simp only [over];rw [ih ys (by simpa using h)]
 cases xs with
 | nil=>cases ys with | nil=>rfl | cons=>simp at h
 | cons x xs=>exact e _ _ h
theorem J7: ∀(a:List AA) (n:Nat) (rest ys:List AA),n+ys.length<=a.length->setCells (a++rest) n ys=setCells a n ys++rest
 | a,0,rest,ys,h=>by
  have e1: ∀b,setCells b 0 ys=over b ys:=fun b=>by cases b<;>rfl
  rw [e1,e1,UN a rest ys (by omega)]
 | [],n+1,rest,ys,h=>by simp at h
 | x::a,n+1,rest,ys,h=>by
  simp only [List.cons_append,setCells];rw [J7 a n rest ys (by simp at h;omega)]
theorem Ls: ∀(a:List AA) (n:Nat) (rest ys:List AA),setCells (a++rest) (a.length+n) ys=a++setCells rest n ys
 | [],n,rest,ys=>by simp
 | x::a,n,rest,ys=>by
  rw [List.cons_append,List.length_cons,show a.length+1+n=(a.length+n)+1 by omega];simp only [setCells];rw [Ls a n rest ys,List.cons_append]
theorem Lr {α:Type} {enc:α->List AA} {k:Nat} (hk: ∀x,(enc x).length=k): ∀(ls:List α) (i:Nat) (hi:i<ls.length) (fo:Nat) (ys:List AA) (x:α),fo+ys.length<=k->setCells (enc ls[i]) fo ys=enc x->
  setCells (ls.flatMap enc) (i*k+fo) ys=(ls.set i x).flatMap enc
 | [],i,hi,fo,ys,x,h,e=>by simp at hi
 | a::ls,0,hi,fo,ys,x,h,e=>by
  simp only [List.flatMap_cons,List.set_cons_zero,Nat.zero_mul,Nat.zero_add];rw [J7 _ _ _ _ (by rw [hk];omega)];simp only [List.getElem_cons_zero] at e;rw [e]
 | a::ls,i+1,hi,fo,ys,x,h,e=>by
  simp only [List.flatMap_cons,List.set_cons_succ];rw [show (i+1)*k+fo=(enc a).length+(i*k+fo) by rw [hk,Nat.add_mul];omega,Ls];rw [Lr hk ls i (by simpa using hi) fo ys x h (by simpa using e)]
def LR (H:HF) (l:Nat) (hd:Hd):HF:=fun m=>if m=l then some hd else H m
theorem Qj {H:HF} {l:Nat} {hd:Hd}:LR H l hd l=some hd:=by simp [LR]
mutual
theorem dV {H H':HF} {l:Nat} (hl: ∀m,m≠l->H' m=H m): ∀ {x:TV} {y:AA},AE H x y->AE H' (Ej l x) y
 | .C3,_,_=>by simp [Ej,AE]
 | .tt,_,h=>by simpa [Ej,AE] using h
 | .ff,_,h=>by simpa [Ej,AE] using h
 | .bb _,_,h=>by simpa [Ej,AE] using h
 | .pr _,_,h=>by simpa [Ej,AE] using h
 | .gd _,_,h=>by simpa [Ej,AE] using h
 | .int _ _,_,h=>by simpa [Ej,AE] using h
 | .byte _,_,h=>by simpa [Ej,AE] using h
 | .str _,_,h=>by simpa [Ej,AE] using h
 | .B4,_,h=>by simpa [Ej,AE] using h
 | .I3,_,h=>by simpa [Ej,AE] using h
 | .I4,_,h=>by simpa [Ej,AE] using h
 | .M8,_,h=>by simpa [Ej,AE] using h
 | .bq _,_,h=>by simpa [Ej,AE] using h
 | .AL,_,h=>by simpa [Ej,AE] using h
 | .Ez _ _,_,h=>by simpa [Ej,AE] using h
 | .ptr m off,_,h=>by
  simp only [Ej];split
  ·simp [AE]
  ·rename_i hb;have:m≠l:=fun e=>by subst e;simp at hb
   simpa only [AE,hl m this] using h
 | .I0 m i fo,_,h=>by
  simp only [Ej];split
  ·simp [AE]
  ·rename_i hb;have:m≠l:=fun e=>by subst e;simp at hb
   simpa only [AE,hl m this] using h
 | .IU m,_,h=>by
  simp only [Ej];split
  ·simp [AE]
  ·rename_i hb;have:m≠l:=fun e=>by subst e;simp at hb
   simpa only [AE,hl m this] using h
 | .sl m _ _,_,h=>by
  simp only [Ej];split
  ·simp [AE]
  ·rename_i hb;have:m≠l:=fun e=>by subst e;simp at hb
   simpa only [AE,hl m this] using h
 | .Xc m i,_,h=>by
  simp only [Ej];split
  ·simp [AE]
  ·rename_i hb;have:m≠l:=fun e=>by subst e;simp at hb
   simpa only [AE,hl m this] using h
 | .F7 m i j k fo,_,h=>by
  simp only [Ej];split
  ·simp [AE]
  ·rename_i hb;have:m≠l:=fun e=>by subst e;simp at hb
   simpa only [AE,hl m this] using h
 | .ifs _ m,_,h=>by
  simp only [Ej];split
  ·simp [AE]
  ·rename_i hb;have:m≠l:=fun e=>by subst e;simp at hb
   simpa only [AE,hl m this] using h
 | .GX cs,_,h=>by
  simp only [Ej,AE] at*;obtain ⟨xs,h1,h2⟩:=h;exact ⟨xs,h1,IG hl h2⟩
 | .agg cs,_,h=>by
  simp only [Ej,AE] at*;obtain ⟨xs,h1,h2⟩:=h;exact ⟨xs,h1,IG hl h2⟩
 | .DH cs,_,h=>by
  simp only [Ej,AE] at*;obtain ⟨xs,h1,h2⟩:=h;exact ⟨xs,h1,IG hl h2⟩
 | .fn f cs,_,h=>by
  simp only [Ej,AE] at*;obtain ⟨xs,h1,h2⟩:=h;exact ⟨xs,h1,IG hl h2⟩
theorem IG {H H':HF} {l:Nat} (hl: ∀m,m≠l->H' m=H m): ∀ {x:List TV} {y:List AA},AN H x y->AN H' (Ji l x) y
 | [],_,h=>by simpa [Ji,AN] using h
 | x::xs,_,h=>by
  simp only [Ji,AN] at*;obtain ⟨y,zs,h1,h2,h3⟩:=h;exact ⟨y,zs,h1,dV hl h2,IG hl h3⟩
end
theorem KH {l:Nat}: ∀xs:List TV,(Ji l xs).length=xs.length
 | []=>rfl
 | x::xs=>by simp [Ji,KH xs]
theorem Yq {l:Nat}: ∀ {F:RF} {s:Nat} {gs:List (Nat×Bool)} {P:Prop} {x:TV},BL (NO l F) s=some (gs,P,x)-> ∃x0,BL F s=some (gs,P,x0)/\x=Ej l x0
 | [],s,gs,P,x,h=>by simp [NO,BL] at h
 | (t,g,q,z)::F,s,gs,P,x,h=>by
  simp only [NO,BL] at h |-;split at h
  ·cases h;exact ⟨z,rfl,rfl⟩
  ·exact Yq h
theorem Cl.kill {H H':HF} {l:Nat} (hl: ∀m,m≠l->H' m=H m) {F:RF} {A:Frame} (h:Cl H F A):Cl H' (NO l F) A:=fun s gs P x hx=>by
 obtain ⟨x0,h1,rfl⟩:=Yq hx;have e:=h _ _ _ _ h1;exact ⟨fun q=>dV hl (e.on q),e.off,e.iff⟩
theorem EE.kill {H H':HF} {l:Nat} (hl: ∀m,m≠l->H' m=H m) {G:List RF} {AG:List Frame} (h:EE H G AG):EE H' (UG l G) AG:=by
 induction h with
 | nil=>exact .nil
 | cons h _ ih=>exact .cons (h.kill hl) ih
def Yj (l:Nat):CI->CI
 | .cells k cs=>.cells k (Ji l cs)
 | o=>o
theorem O4 (l:Nat): ∀TS:List CI,N8 l TS=TS.map (Yj l)
 | []=>rfl
 | o::TS=>by cases o<;>simp [N8,Yj,O4 l TS]
theorem JH {TS:List CI} {l:Nat} {o:CI} (h:B5 TS l=some o):l<TS.length:=by
 rw [Jk] at h;exact (List.getElem?_eq_some_iff.1 h).1
theorem Dn.uj {H:HF} {TS:List CI} {S S':AB} (st:Dn H TS S) {l:Nat} (hl:l<TS.length) {o:CI} {hd:Hd} (ho:Qm (LR H l hd) S' l o) (hS: ∀m h p v,m≠l->H m=some h->h.loc=some (p,v)->S'[p]?=S[p]?)
  (hT: ∀(m:Nat) (h:Hd) (i p v n:Nat),m≠l->H m=some h->h.sub[i]?=some (some (p,v),n)->S'[p]?=S[p]?/\ ∀v',hd.loc≠some (p,v')) (hd0:hd.sub=[])
  (hn: ∀m h p v v',m≠l->H m=some h->h.loc=some (p,v)->hd.loc=some (p,v')->False):Dn (LR H l hd) ((TS.map (Yj l)).set l o) S':=by
 have he: ∀m,m≠l->LR H l hd m=H m:=fun m hm=>by simp [LR,hm]
 refine ⟨fun m o' hm=>?_,fun m hm=>?_,fun m m' h h' p v v' e1 e2 e3 e4=>?_,fun m i h p v n e1 e2=>?_⟩
 ·by_cases e:m=l
  ·subst e;rw [List.getElem?_set_self (by simpa using hl)] at hm;cases hm;exact ho
  ·rw [List.getElem?_set_ne (Ne.symm e),List.getElem?_map] at hm;cases hx:TS[m]? with
   | none=>rw [hx] at hm;cases hm
   | some o0=>
    rw [hx] at hm;simp at hm;subst hm;have:=st.ob m o0 hx;cases o0 with
    | dead=>simp only [Yj,Qm] at*;rw [he m e];exact this
    | cells k cs=>
     obtain ⟨p,v,xs,q1,q2,q3⟩:=this;exact ⟨p,v,xs,by rw [he m e,q1,KH],by rw [hS m _ p v e q1 rfl];exact q2,IG he q3⟩
    | row t ls=>
     obtain ⟨loc,q1,q2⟩:=this;refine ⟨loc,by rw [he m e,q1],?_⟩;cases loc with
     | none=>exact q2
     | some q=>simp only [Cd] at*;rw [hS m _ q.1 q.2 e q1 rfl];exact q2
    | Eg t ls=>
     obtain ⟨p,v,sub,q1,q2,q3⟩:=this;exact ⟨p,v,sub,by rw [he m e,q1],by rw [hS m _ p v e q1 rfl];exact q2,q3.ext fun p' x ⟨i,v',n,hi⟩ hp=>by rw [(hT m _ i p' v' n e q1 hi).1];exact hp⟩
 ·simp at hm;rw [he m (by omega)];exact st.out m hm
 ·by_cases a:m=l<;>by_cases b:m'=l
  ·rw [a,b]
  ·subst a;rw [he m' b] at e2;simp [LR] at e1;subst e1;exact (hn _ _ _ _ _ b e2 e4 e3).elim
  ·subst b;rw [he m a] at e1;simp [LR] at e2;subst e2;exact (hn _ _ _ _ _ a e1 e3 e4).elim
  ·rw [he m a] at e1;rw [he m' b] at e2;exact st.inj _ _ _ _ _ _ _ e1 e2 e3 e4
 ·have no: ∀ {m i:Nat} {h:Hd} {p v n:Nat},LR H l hd m=some h->h.sub[i]?=some (some (p,v),n)->m≠l/\H m=some h:=fun {m i h p v n} e1 e2=>by
   by_cases a:m=l
   ·subst a;simp [LR] at e1;subst e1;rw [hd0] at e2;simp at e2
   ·rw [he m a] at e1;exact ⟨a,e1⟩
  obtain ⟨a,e1⟩:=no e1 e2;obtain ⟨g1,g2,g3⟩:=st.sub m i h p v n e1 e2;obtain ⟨k1,k2⟩:=hT m h i p v n a e1 e2;refine ⟨?_,fun m' h' v' q1 q2=>?_,fun m' i' h' v' n' q1 q2=>?_⟩
  ·rw [List.getElem?_eq_getElem g1] at k1;exact (List.getElem?_eq_some_iff.1 k1).1
  ·by_cases b:m'=l
   ·subst b;simp [LR] at q1;subst q1;exact k2 _ q2
   ·rw [he m' b] at q1;exact g2 _ _ _ q1 q2
  ·obtain ⟨_,q1⟩:=no q1 q2;exact g3 _ _ _ _ _ q1 q2
theorem Dn.put {H:HF} {TS:List CI} {S:AB} (st:Dn H TS S) {l p:Nat} {o:CI} {b:Ob} {hd:Hd} {v:Nat} (hl:l<TS.length) (hh:H l=some hd) (hp:hd.loc=some (p,v)) (ho:Qm H (S.set p b) l o):Dn H (TS.set l o) (S.set p b):=by
 refine ⟨fun m o' hm=>?_,fun m hm=>st.out m (by simpa using hm),st.inj,fun m i h p' v' n e1 e2=>by rw [List.length_set];exact st.sub m i h p' v' n e1 e2⟩;by_cases e:m=l
 ·subst e;rw [List.getElem?_set_self hl] at hm;cases hm;exact ho
 ·rw [List.getElem?_set_ne (Ne.symm e)] at hm;have:=st.ob m o' hm;have AW: ∀q w hd',H m=some hd'->hd'.loc=some (q,w)->(S.set p b)[q]?=S[q]?:=fun q w hd' g1 g2=>by
   rw [List.getElem?_set_ne];intro e2;subst e2;exact e (st.inj _ _ _ _ _ _ _ g1 hh g2 hp)
  cases o' with
  | dead=>exact this
  | cells k cs=>
   obtain ⟨q,w,xs,q1,q2,q3⟩:=this;exact ⟨q,w,xs,q1,by rw [AW q w _ q1 rfl];exact q2,q3⟩
  | row t ls=>
   obtain ⟨loc,q1,q2⟩:=this;refine ⟨loc,q1,?_⟩;cases loc with
   | none=>exact q2
   | some q=>simp only [Cd] at*;rw [AW q.1 q.2 _ q1 rfl];exact q2
  | Eg t ls=>
   obtain ⟨q,w,sub,q1,q2,q3⟩:=this;refine ⟨q,w,sub,q1,by rw [AW q w _ q1 rfl];exact q2,q3.ext fun p' x ⟨i,v',n,hi⟩ hp'=>?_⟩;rw [List.getElem?_set_ne]
   ·exact hp'
   ·intro e2;subst e2;exact (st.sub m i _ _ v' n q1 hi).2.1 l hd v hh hp
theorem Dn.vN {H:HF} {TS:List CI} {S:AB} (st:Dn H TS S) {l p i n:Nat} {o:CI} {b:Ob} {hd:Hd} {v:Nat} (hl:l<TS.length) (hh:H l=some hd) (hp:hd.sub[i]?=some (some (p,v),n)) (ho:Qm H (S.set p b) l o):Dn H (TS.set l o) (S.set p b):=by
 obtain ⟨k1,k2,k3⟩:=st.sub l i hd p v n hh hp;refine ⟨fun m o' hm=>?_,fun m hm=>st.out m (by simpa using hm),st.inj,fun m i h p' v' n e1 e2=>by rw [List.length_set];exact st.sub m i h p' v' n e1 e2⟩;by_cases e:m=l
 ·subst e;rw [List.getElem?_set_self hl] at hm;cases hm;exact ho
 ·rw [List.getElem?_set_ne (Ne.symm e)] at hm;have:=st.ob m o' hm;have AW: ∀q w hd',H m=some hd'->hd'.loc=some (q,w)->(S.set p b)[q]?=S[q]?:=fun q w hd' g1 g2=>by
   rw [List.getElem?_set_ne];intro e2;subst e2;exact k2 _ _ _ g1 g2
  cases o' with
  | dead=>exact this
  | cells k cs=>
   obtain ⟨q,w,xs,q1,q2,q3⟩:=this;exact ⟨q,w,xs,q1,by rw [AW q w _ q1 rfl];exact q2,q3⟩
  | row t ls=>
   obtain ⟨loc,q1,q2⟩:=this;refine ⟨loc,q1,?_⟩;cases loc with
   | none=>exact q2
   | some q=>simp only [Cd] at*;rw [AW q.1 q.2 _ q1 rfl];exact q2
  | Eg t ls=>
   obtain ⟨q,w,sub,q1,q2,q3⟩:=this;refine ⟨q,w,sub,q1,by rw [AW q w _ q1 rfl];exact q2,q3.ext fun p' x ⟨i',v',n',hi⟩ hp'=>?_⟩;rw [List.getElem?_set_ne]
   ·exact hp'
   ·intro e2;subst e2;exact e (k3 _ _ _ _ _ q1 hi).1
mutual
theorem Yk {H H':HF} {l:Nat} (hl: ∀m,m≠l->H' m=H m) (hh: ∀h,H l=some h-> ∃s,H' l=some ⟨h.loc,h.k,h.len,s⟩): ∀ {x:TV} {y:AA},AE H x y->AE H' (DP l x) y
 | .C3,_,_=>by simp [DP,AE]
 | .tt,_,h=>by simpa [DP,AE] using h
 | .ff,_,h=>by simpa [DP,AE] using h
 | .bb _,_,h=>by simpa [DP,AE] using h
 | .pr _,_,h=>by simpa [DP,AE] using h
 | .gd _,_,h=>by simpa [DP,AE] using h
 | .int _ _,_,h=>by simpa [DP,AE] using h
 | .byte _,_,h=>by simpa [DP,AE] using h
 | .str _,_,h=>by simpa [DP,AE] using h
 | .B4,_,h=>by simpa [DP,AE] using h
 | .I3,_,h=>by simpa [DP,AE] using h
 | .I4,_,h=>by simpa [DP,AE] using h
 | .M8,_,h=>by simpa [DP,AE] using h
 | .bq _,_,h=>by simpa [DP,AE] using h
 | .AL,_,h=>by simpa [DP,AE] using h
 | .Ez _ _,_,h=>by simpa [DP,AE] using h
 | .ptr m off,_,h=>by
  simp only [DP];by_cases e:m=l
  ·subst e;simp only [AE] at*;obtain ⟨hd,p,v,h1,h2,h3⟩:=h;obtain ⟨s,hs⟩:=hh _ h1;exact ⟨_,p,v,hs,h2,h3⟩
  ·simpa only [AE,hl m e] using h
 | .I0 m i fo,_,h=>by
  simp only [DP];by_cases e:m=l
  ·subst e;simp only [AE] at*;obtain ⟨hd,p,v,h1,h2,h3⟩:=h;obtain ⟨s,hs⟩:=hh _ h1;exact ⟨_,p,v,hs,h2,h3⟩
  ·simpa only [AE,hl m e] using h
 | .IU m,_,h=>by
  simp only [DP];by_cases e:m=l
  ·subst e;simp only [AE] at*;obtain ⟨hd,h1,h2⟩:=h;obtain ⟨s,hs⟩:=hh _ h1;exact ⟨_,hs,h2⟩
  ·simpa only [AE,hl m e] using h
 | .sl m _ _,_,h=>by
  simp only [DP];by_cases e:m=l
  ·subst e;simp only [AE] at*;obtain ⟨hd,h1,h2⟩:=h;obtain ⟨s,hs⟩:=hh _ h1;exact ⟨_,hs,h2⟩
  ·simpa only [AE,hl m e] using h
 | .Xc m i,_,h=>by
  simp only [DP];split
  ·simp [AE]
  ·rename_i hb;have:m≠l:=fun e=>by subst e;simp at hb
   simpa only [AE,hl m this] using h
 | .F7 m i j k fo,_,h=>by
  simp only [DP];split
  ·simp [AE]
  ·rename_i hb;have:m≠l:=fun e=>by subst e;simp at hb
   simpa only [AE,hl m this] using h
 | .ifs _ m,_,h=>by
  simp only [DP];split
  ·simp [AE]
  ·rename_i hb;have:m≠l:=fun e=>by subst e;simp at hb
   simpa only [AE,hl m this] using h
 | .GX cs,_,h=>by
  simp only [DP,AE] at*;obtain ⟨xs,h1,h2⟩:=h;exact ⟨xs,h1,JG hl hh h2⟩
 | .agg cs,_,h=>by
  simp only [DP,AE] at*;obtain ⟨xs,h1,h2⟩:=h;exact ⟨xs,h1,JG hl hh h2⟩
 | .DH cs,_,h=>by
  simp only [DP,AE] at*;obtain ⟨xs,h1,h2⟩:=h;exact ⟨xs,h1,JG hl hh h2⟩
 | .fn f cs,_,h=>by
  simp only [DP,AE] at*;obtain ⟨xs,h1,h2⟩:=h;exact ⟨xs,h1,JG hl hh h2⟩
theorem JG {H H':HF} {l:Nat} (hl: ∀m,m≠l->H' m=H m) (hh: ∀h,H l=some h-> ∃s,H' l=some ⟨h.loc,h.k,h.len,s⟩): ∀ {x:List TV} {y:List AA},AN H x y->AN H' (JF l x) y
 | [],_,h=>by simpa [JF,AN] using h
 | x::xs,_,h=>by
  simp only [JF,AN] at*;obtain ⟨y,zs,h1,h2,h3⟩:=h;exact ⟨y,zs,h1,Yk hl hh h2,JG hl hh h3⟩
end
theorem Pm {l:Nat}: ∀xs:List TV,(JF l xs).length=xs.length
 | []=>rfl
 | x::xs=>by simp [JF,Pm xs]
theorem WN {l:Nat}: ∀ {F:RF} {s:Nat} {gs:List (Nat×Bool)} {P:Prop} {x:TV},BL (QG l F) s=some (gs,P,x)-> ∃x0,BL F s=some (gs,P,x0)/\x=DP l x0
 | [],s,gs,P,x,h=>by simp [QG,BL] at h
 | (t,g,q,z)::F,s,gs,P,x,h=>by
  simp only [QG,BL] at h |-;split at h
  ·cases h;exact ⟨z,rfl,rfl⟩
  ·exact WN h
theorem Cl.kS {H H':HF} {l:Nat} (hl: ∀m,m≠l->H' m=H m) (hh: ∀h,H l=some h-> ∃s,H' l=some ⟨h.loc,h.k,h.len,s⟩) {F:RF} {A:Frame} (h:Cl H F A):Cl H' (QG l F) A:=fun s gs P x hx=>by
 obtain ⟨x0,h1,rfl⟩:=WN hx;have e:=h _ _ _ _ h1;exact ⟨fun q=>Yk hl hh (e.on q),e.off,e.iff⟩
theorem EE.kS {H H':HF} {l:Nat} (hl: ∀m,m≠l->H' m=H m) (hh: ∀h,H l=some h-> ∃s,H' l=some ⟨h.loc,h.k,h.len,s⟩) {G:List RF} {AG:List Frame} (h:EE H G AG):EE H' (ig l G) AG:=by
 induction h with
 | nil=>exact .nil
 | cons h _ ih=>exact .cons (h.kS hl hh) ih
def ie (l:Nat):CI->CI
 | .cells k cs=>.cells k (JF l cs)
 | o=>o
theorem WC (l:Nat): ∀TS:List CI,Sm l TS=TS.map (ie l)
 | []=>rfl
 | o::TS=>by cases o<;>simp [Sm,ie,WC l TS]
section
variable {P : Program} {H : HF} {TS : List CI} {S : AB} {F : RF} {A : Frame} {Γ : List (Nat × Ct)} {ht : Option Ty} {G : List RF} {AG : List Frame}
theorem Ix {S:AB} {o:Ob} {K:Nat->AB->Prop} (h:K S.length (S++[o])):Iw S o K:=A5.2 h
theorem XP (st:Dn H TS S) (hF:Cl H F A) (hG:EE H G AG) {k bytes:Nat} {x y:TV} {X Y:AA} {ps:List Prop} {z:TV} {F':RF} {G':List RF} {TS':List CI} (h:Vv ht F G TS k bytes x y=some (ps,z,F',G',TS')) (FL:GI ps)
  (hx:AE H x X) (hy:AE H y Y) {K:AA->AB->Prop} (hk: ∀u S' H',Dn H' TS' S'->Cl H' F' A->EE H' G' AG->AE H' z u->K u S'):
  Nh S k Y fun n ys=>match (generalizing:=false) X with
  | .AL=>n*bytes<=140737488355328/\ ∀v,Iw S (.row v k ys) fun l S'=>K (.sl l v 0 n) S'
  | .sl l ver off len=>J9 S l ver fun k' cs=>k'=k/\off+len*k<=cs.length/\(len+n)*bytes<=140737488355328/\
    ∀v,Lv S l (.row v k (A6 cs off (len*k)++ys)) fun S'=>K (.sl l v 0 (len+n)) S'
  | _=>False:=by
 have main: ∀ {l:Nat} {t:Ty} {ls ys:List (T t)} {loc:Option (Nat×Nat)} {off len:Nat},B5 TS l=some (.row t ls)->H l=some ⟨loc,G9 t,ls.length,[]⟩->Cd S t ls loc->G9 t=k->off+len<=ls.length->fM TS t y=some ys->(len+ys.length)*bytes<=140737488355328->
   (∀u S' H',Dn H' (GU (N8 l TS) l (.row t ((ls.drop off).take len++ys))) S'->Cl H' (NO l F) A->EE H' (UG l G) AG->AE H' (.IU l) u->K u S')->X=K9 loc (off*G9 t) len->Nh S k Y fun n ys=>match (generalizing:=false) X with
  | .AL=>n*bytes<=140737488355328/\ ∀v,Iw S (.row v k ys) fun l S'=>K (.sl l v 0 n) S'
  | .sl l ver off len=>J9 S l ver fun k' cs=>k'=k/\off+len*k<=cs.length/\(len+n)*bytes<=140737488355328/\
    ∀v,Lv S l (.row v k (A6 cs off (len*k)++ys)) fun S'=>K (.sl l v 0 (len+n)) S'
  | _=>False:=by
  intro l t ls ys loc off len ho h1 h2 hsz hol hsrc hb hk hX;subst hX;rw [<-hsz];refine QZ st hsrc hy ?_;have hlt:=JH ho;rw [Fk,O4] at hk;have hlen:((ls.drop off).take len).length=len:=by simp;omega
  cases loc with
  | none=>
   simp only [Cd] at h2;subst h2;simp only [List.length_nil] at hol;have e1:len=0:=by omega
   subst e1;simp only [K9];simp only [Nat.zero_add] at hb;refine ⟨hb,fun v=>Ix ?_⟩;have he: ∀m,m≠l->LR H l ⟨some (S.length,v),G9 t,ys.length,[]⟩ m=H m:=fun m hm=>by simp [LR,hm]
   refine hk _ _ (LR H l ⟨some (S.length,v),G9 t,ys.length,[]⟩) (st.uj hlt ⟨_,Qj,by simp [Cd]⟩ (fun m h p w hm q1 q2=>?_) (fun m h i p w n hm q1 q2=>?_) rfl (fun m h p w w' hm q1 q2 q3=>?_)) (hF.kill he) (hG.kill he) ?_
   ·rw [List.getElem?_append_left (st.lt q1 q2)]
   ·have g:=(st.sub m i h p w n q1 q2).1;refine ⟨by rw [List.getElem?_append_left g],fun v' e=>?_⟩;cases e;omega
   ·have:=st.lt q1 q2;cases q3;omega
   ·simp only [AE];exact ⟨_,Qj,rfl⟩
  | some q=>
   obtain ⟨p,ver⟩:=q;simp only [K9];have e1:=BO (A7 t) ls;refine AP.2 ⟨_,_,h2,rfl,by rw [e1,<-Nat.add_mul];exact Nat.mul_le_mul_right _ hol,hb,fun v=>?_⟩;have hp:p<S.length:=st.lt h1 rfl;refine IM hp ?_;have he: ∀m,m≠l->LR H l ⟨some (p,v),G9 t,len+ys.length,[]⟩ m=H m:=fun m hm=>by simp [LR,hm]
   refine hk _ _ (LR H l ⟨some (p,v),G9 t,len+ys.length,[]⟩) (st.uj hlt ⟨_,by rw [List.length_append,hlen];exact Qj,?_⟩ (fun m h p' w hm q1 q2=>?_) (fun m h i p' w n hm q1 q2=>?_) rfl (fun m h p' w w' hm q1 q2 q3=>?_)) (hF.kill he) (hG.kill he) ?_
   ·simp only [Cd];rw [List.getElem?_set_self hp];have e2:=BO (A7 t) ((ls.drop off).take len);rw [hlen] at e2;rw [A6,Oz ls off len,List.take_left' e2,List.flatMap_append]
   ·rw [List.getElem?_set_ne];intro e;subst e;exact hm (st.inj _ _ _ _ _ _ _ q1 h1 q2 rfl)
   ·have g:=(st.sub m i h p' w n q1 q2).2.1 l _ ver h1;have ne:p'≠p:=fun e=>by subst e;exact g rfl
    exact ⟨by rw [List.getElem?_set_ne (Ne.symm ne)],fun v' e=>by cases e;exact ne rfl⟩
   ·cases q3;exact hm (st.inj _ _ _ _ _ _ _ q1 h1 q2 rfl)
   ·simp only [AE];exact ⟨_,Qj,rfl⟩
 unfold Vv at h;split at h
 ·split at h
  ·rename_i l _ t ls ho;split at h
   ·rename_i ys hsrc hz;cases h;simp only [AE] at hx;obtain ⟨hd,e1,hX⟩:=hx;obtain ⟨loc,q1,q2⟩:=Dl st ho;rw [q1] at e1;cases e1;refine main (off:=0) (len:=ls.length) ho q1 q2 (beq_eq hz) (by omega) hsrc ?_ (by simpa using hk) (by simpa using hX);exact FL.cons.1
   ·cases h
  ·cases h
 ·split at h
  ·rename_i l off len _ t ls ho;split at h
   ·rename_i ys hsrc hz;cases h;simp only [AE] at hx;obtain ⟨hd,e1,e2,e3,e4,hX⟩:=hx;obtain ⟨loc,q1,q2⟩:=Dl st ho;rw [q1] at e1;cases e1;simp only at e4;refine main (off:=off.toNat) (len:=len.toNat) ho q1 q2 (beq_eq hz) (by omega) hsrc ?_ hk hX;exact FL.cons.1
   ·cases h
  ·cases h
 ·split at h
  ·rename_i t;split at h
   ·rename_i ys hsrc hz;cases h;simp only [AE] at hx;subst hx;rw [<-beq_eq hz];refine QZ st hsrc hy ⟨FL.cons.1,fun v=>Ix ?_⟩;obtain ⟨H',g1,g2,g3⟩:=st.O8 t ys v;rw [F9,GP] at hk;exact hk _ _ H' g2 (hF.ext g1) (hG.ext g1) (by simp only [AE];exact ⟨_,g3,rfl⟩)
   ·cases h
  ·cases h
 ·cases h
theorem jF {TS:List CI} {n:Nat} {x y:TV} {l off k m:Nat} {cs:List TV} {t:Ty} (h:VP TS n x y=some (l,off,k,cs,m,t)):
  y= .AL/\n=1/\x= .ptr l off/\B5 TS l=some (.cells k cs)/\m≠l/\(∃ls,B5 TS m=some (.row t ls))/\off<cs.length:=by
 unfold VP at h;split at h
 ·split at h
  ·rename_i k' cs' ho;have off_lt: ∀ {c:TV} {r:List TV} {j:Nat},cs'.drop j=c::r->j<cs'.length:=fun {c r j} e=>by
    rcases Nat.lt_or_ge j cs'.length with q | q
    ·exact q
    ·rw [List.drop_of_length_le q] at e;cases e
   split at h
   ·rename_i m' r hd;split at h<;>cases h;exact ⟨rfl,rfl,rfl,ho,Nat.ne_of_beq_eq_false (by assumption),⟨_,by assumption⟩,off_lt hd⟩
   ·rename_i m' _ _ r hd;split at h<;>cases h;exact ⟨rfl,rfl,rfl,ho,Nat.ne_of_beq_eq_false (by assumption),⟨_,by assumption⟩,off_lt hd⟩
   ·cases h
  ·cases h
 ·cases h
theorem nD (st:Dn H TS S) (hF:Cl H F A) (hG:EE H G AG) {n:Nat} {x y:TV} {X Y:AA} {l off k m:Nat} {cs:List TV} {t:Ty} (h:VP TS n x y=some (l,off,k,cs,m,t))
  (hx:AE H x X) (hy:AE H y Y) {K:AA->AB->Prop} (hk: ∀u S' H',Dn H' (GU (GU (N8 m TS) m (.row t [])) l (.cells k (Kk (Ji m cs) off [.IU m]))) S'->Cl H' (NO m F) A->EE H' (UG m G) AG->AE H' .C3 u->K u S'):
  (match (generalizing:=false) X with
  | .ptr l ver off=>J9 S l ver fun k cs=>HR Y fun ys=>ys.length=n/\off+n<=cs.length/\
    PC k cs off ys fun cs'=>Lv S l (.row ver k cs') fun S'=>K .C3 S'
  | _=>False):=by
 obtain ⟨rfl,rfl,rfl,ho,hml,⟨ls,hm⟩,hlt⟩:=jF h;simp only [AE] at hx hy;obtain ⟨hd,p,v,e1,e2,rfl⟩:=hx;subst hy;obtain ⟨p',v',xs,q1,q2,q3⟩:=Oo st ho;rw [q1] at e1;cases e1;cases e2;have f2:=q3.length;refine AP.2 ⟨_,_,q2,?_⟩;simp only [HR];refine ⟨rfl,by omega,Fo.2 (IM (st.lt q1 rfl) ?_)⟩;have mlt:=JH hm;have he: ∀j,j≠m->LR H m ⟨none,G9 t,0,[]⟩ j=H j:=fun j hj=>by simp [LR,hj]
 have st1:=st.uj (S':=S) mlt (o:= .row t []) (hd:=⟨none,G9 t,0,[]⟩) ⟨none,by simp [LR],rfl⟩ (fun _ _ _ _ _ _ _=>rfl) (fun _ _ _ _ _ _ _ _ _=>⟨rfl,fun _ e=>by cases e⟩) rfl (fun _ _ _ _ _ _ _ _ e=>by cases e);have hl1:LR H m ⟨none,G9 t,0,[]⟩ l=H l:=he l (fun e=>hml e.symm);have hl2:l<((TS.map (Yj m)).set m (.row t [])).length:=by simpa using JH ho
 have q3':AN (LR H m ⟨none,G9 t,0,[]⟩) (Ji m cs) xs:=IG he q3;have st2:=st1.put (o:= .cells k (Kk (Ji m cs) off [.IU m])) (b:= .row _ k (setCells xs off [.AL])) hl2 (by rw [hl1];exact q1) rfl ⟨_,_,_,by rw [hl1,q1,OU,KH],by rw [List.getElem?_set_self (st.lt q1 rfl)],q3'.Kk (by simp only [AN,AE];exact ⟨_,[],rfl,⟨_,by simp only [LR,if_pos];rfl,rfl⟩,rfl⟩)⟩;rw [Fk,Fk,O4] at hk;exact hk _ _ _ st2 (hF.kill he) (hG.kill he) (by simp [AE])
theorem bT (st:Dn H TS S) (hF:Cl H F A) (hG:EE H G AG) {n:Nat} {x y:TV} {X Y:AA} {ps:List Prop} {z:TV} {F':RF} {G':List RF} {TS':List CI} (h:aD F G TS n x y=some (ps,z,F',G',TS')) (FL:GI ps)
  (hx:AE H x X) (hy:AE H y Y) {K:AA->AB->Prop} (hk: ∀u S' H',Dn H' TS' S'->Cl H' F' A->EE H' G' AG->AE H' z u->K u S'):
  (match (generalizing:=false) X with
  | .ptr l ver off=>J9 S l ver fun k cs=>HR Y fun ys=>ys.length=n/\off+n<=cs.length/\
    PC k cs off ys fun cs'=>Lv S l (.row ver k cs') fun S'=>K .C3 S'
  | _=>False):=by
 unfold aD at h;split at h
 ·rename_i l off k cs m t hn;cases h;exact nD st hF hG hn hx hy hk
 split at h
 ·rename_i l off ys hc _;split at h
  ·rename_i k cs ho;split at h
   ·rename_i hs1 hs2;cases h;simp only [AE] at hx;obtain ⟨hd,p,v,e1,e2,rfl⟩:=hx;obtain ⟨p',v',xs,q1,q2,q3⟩:=Oo st ho;rw [q1] at e1;cases e1;cases e2;refine AP.2 ⟨_,_,q2,IL hc hy fun ws hw=>?_⟩;have f1:=hw.length;have f2:=q3.length;have f3:=Km hs1;have f4:=Kn hs2;refine ⟨by omega,by omega,Fo.2 (IM (st.lt q1 rfl) ?_)⟩;rw [Fk] at hk;refine hk _ _ H (st.put (JH ho) q1 rfl ⟨_,_,_,by rw [q1,OU],?_,q3.Kk hw⟩) hF hG (by simp [AE]);rw [List.getElem?_set_self (st.lt q1 rfl)]
   ·cases h
  ·cases h
 ·rename_i l i fo ys hc _;split at h
  ·rename_i t ls ho;split at h
   ·rename_i x' _ hd _ hs1 hs2;cases h;simp only [AE] at hx;obtain ⟨hd',p,v,e1,e2,e3,e4,rfl⟩:=hx;obtain ⟨loc,q1,q2⟩:=Dl st ho;rw [q1] at e1;cases e1;simp only at e2 e4;subst e2;obtain ⟨hi,e⟩:=V4 (d:=zT t) e3 (by exact_mod_cast e4);rw [e] at hs2 hd;refine AP.2 ⟨_,_,q2,IL hc hy fun ws hw=>?_⟩;have f1:=hw.length;have f3:=Km hs1;have f4:=Kn hs2;rw [PU] at f4;have f5:=BO (A7 t) ls;have f6:i.toNat*G9 t+G9 t<=ls.length*G9 t:=by
     rw [<-Nat.succ_mul];exact Nat.mul_le_mul_right _ hi
    refine ⟨by omega,by rw [f5];simp only;omega,Fo.2 (IM (st.lt q1 rfl) ?_)⟩;rw [Fk] at hk;obtain ⟨zs,g1,g2⟩:=Nw (H:=H) t hd ((Hv t _).Kk hw);simp only [AN] at g2;subst g2;rw [List.append_nil] at g1;refine hk _ _ H (st.put (JH ho) q1 rfl ⟨_,by rw [q1,List.length_set],?_⟩) hF hG (by simp [AE]);simp only [Cd];rw [List.getElem?_set_self (st.lt q1 rfl),Lr (A7 t) ls i.toNat hi fo ws x' (by omega) g1]
   ·cases h
  ·cases h
 ·cases h
theorem FH: ∀(xs:List AA) (i:Nat) (y:AA),setCells xs i [y]=xs.set i y
 | [],0,y=>rfl
 | [],i+1,y=>rfl
 | x::xs,0,y=>by cases xs<;>rfl
 | x::xs,i+1,y=>by simp only [setCells,List.set_cons_succ,FH xs i y]
theorem tK (st:Dn H TS S) {l q i:Nat} {t:Ty} {ls:List (List (T t))} {xs:List (T t)} (hl:B5 TS l=some (.Eg t ls)) (hq:B5 TS q=some (.row t xs)) (hne:q≠l) (hi:i<ls.length)
  {p v:Nat} {sub:List (Option (Nat×Nat)×Nat)} (q1:H l=some ⟨some (p,v),1,ls.length,sub⟩) (q2:S[p]?=some (.row v 1 (sub.map bV))) (q3:P3 S t ls sub)
  {loc:Option (Nat×Nat)} (r1:H q=some ⟨loc,G9 t,xs.length,[]⟩) (r2:Cd S t xs loc):
  Dn (fun m=>if m=q then none else LR H l ⟨some (p,v),1,ls.length,sub.set i (loc,xs.length)⟩ m) (GU (GU (N8 q (Sm l TS)) q .dead) l (.Eg t (ls.set i xs))) (S.set p (.row v 1 ((sub.map bV).set i (K9 loc 0 xs.length)))):=by
 have hll:=JH hl;have hql:=JH hq;have hp:=st.lt q1 rfl;have hsl:i<sub.length:=by rw [q3.len];exact hi
 have old: ∀ {m:Nat} {h:Hd},(if m=q then none else LR H l ⟨some (p,v),1,ls.length,sub.set i (loc,xs.length)⟩ m)=some h->m≠q/\((m=l/\h=⟨some (p,v),1,ls.length,sub.set i (loc,xs.length)⟩)\/(m≠l/\H m=some h)):=fun {m h} e=>by
  by_cases a:m=q
  ·rw [if_pos a] at e;cases e
  ·rw [if_neg a] at e;refine ⟨a,?_⟩;by_cases b:m=l
   ·subst b;simp [LR] at e;exact .inl ⟨rfl,e.symm⟩
   ·simp [LR,b] at e;exact .inr ⟨b,e⟩
 have oldl: ∀ {m:Nat} {h:Hd},(if m=q then none else LR H l ⟨some (p,v),1,ls.length,sub.set i (loc,xs.length)⟩ m)=some h->m≠q/\ ∃h0,H m=some h0/\h0.loc=h.loc:=fun {m h} e=>by
  obtain ⟨a,b | b⟩:=old e
  ·rw [b.1];exact ⟨hne.symm,_,q1,by rw [b.2]⟩
  ·exact ⟨a,_,b.2,rfl⟩
 have hsub: ∀ {j:Nat} {x:Option (Nat×Nat)×Nat},(sub.set i (loc,xs.length))[j]?=some x->(j=i/\x=(loc,xs.length))\/(j≠i/\sub[j]?=some x):=fun {j x} e=>by
  by_cases a:j=i
  ·subst a;rw [List.getElem?_set_self hsl] at e;cases e;exact .inl ⟨rfl,rfl⟩
  ·rw [List.getElem?_set_ne (Ne.symm a)] at e;exact .inr ⟨a,e⟩
 have AW: ∀ {p':Nat},p'≠p->(S.set p (.row v 1 ((sub.map bV).set i (K9 loc 0 xs.length))))[p']?=S[p']?:=fun {p'} e=>by rw [List.getElem?_set_ne (Ne.symm e)]
 have nesub: ∀ {m j:Nat} {h:Hd} {p' v' n:Nat},H m=some h->h.sub[j]?=some (some (p',v'),n)->p'≠p:=fun {m j h p' v' n} e1 e2 e=>by
  subst e;exact (st.sub m j h _ v' n e1 e2).2.1 l _ v q1 rfl
 have off: ∀m,m≠q->m≠l->(if m=q then none else LR H l ⟨some (p,v),1,ls.length,sub.set i (loc,xs.length)⟩ m)=H m:=fun m a b=>by simp [LR,a,b]
 have simV: ∀ {x:List TV} {y:List AA},AN H x y->AN (fun m=>if m=q then none else LR H l ⟨some (p,v),1,ls.length,sub.set i (loc,xs.length)⟩ m) (Ji q (JF l x)) y:=fun {x y} h=>by
  refine IG (H:=LR H l ⟨some (p,v),1,ls.length,sub.set i (loc,xs.length)⟩) (fun m hm=>by simp [hm]) (JG (fun m hm=>by simp [LR,hm]) (fun h e=>?_) h);rw [q1] at e;cases e;exact ⟨_,by simp [LR];rfl⟩
 rw [Fk,Fk,O4,WC,List.map_map];refine ⟨fun m o hm=>?_,fun m hm=>?_,fun m m' h h' p1 v1 v2 e1 e2 e3 e4=>?_,fun m j h p1 v1 n1 e1 e2=>?_⟩
 ·by_cases a:m=l
  ·subst a;rw [List.getElem?_set_self (by simpa using hll)] at hm;cases hm;refine ⟨p,v,sub.set i (loc,xs.length),by simp [LR,hne.symm],?_,?_⟩
   ·rw [List.getElem?_set_self hp,List.map_set];rfl
   ·refine ⟨by simp [q3.len],fun j x y h1 h2=>?_⟩;rcases hsub h2 with ⟨rfl,rfl⟩ | ⟨b,h2⟩
    ·rw [List.getElem?_set_self hi] at h1;cases h1;refine ⟨rfl,?_⟩;cases loc with
     | none=>exact r2
     | some pv=>
      simp only [Cd] at*;rw [AW fun e=>hne (st.inj _ _ _ _ _ _ _ r1 q1 rfl (by rw [<-e]))];exact r2
    ·rw [List.getElem?_set_ne (Ne.symm b)] at h1;obtain ⟨g1,g2⟩:=q3.at_ j x y h1 h2;refine ⟨g1,?_⟩;obtain ⟨yl,yn⟩:=y;cases yl with
     | none=>exact g2
     | some pv=>
      simp only [Cd] at*;rw [AW (nesub q1 h2)];exact g2
  ·rw [List.getElem?_set_ne (Ne.symm a)] at hm;by_cases b:m=q
   ·subst b;rw [List.getElem?_set_self (by simpa using hql)] at hm;cases hm;simp [Qm]
   ·rw [List.getElem?_set_ne (Ne.symm b),List.getElem?_map] at hm;cases hx:TS[m]? with
    | none=>rw [hx] at hm;cases hm
    | some o0=>
     rw [hx] at hm;simp at hm;subst hm;have:=st.ob m o0 hx;have eo:=off m b a;have kl: ∀ {p' v':Nat} {h:Hd},H m=some h->h.loc=some (p',v')->p'≠p:=fun {p' v' h} e1 e2 e=>by
      subst e;exact a (st.inj _ _ _ _ _ _ _ e1 q1 e2 rfl)
     cases o0 with
     | dead=>simp only [ie,Yj,Qm] at*;rw [eo];exact this
     | cells k cs=>
      obtain ⟨p',v',ys,g1,g2,g3⟩:=this;exact ⟨p',v',ys,eo.trans (by rw [g1,KH,Pm]),by rw [AW (kl g1 rfl)];exact g2,simV g3⟩
     | row t' ls'=>
      obtain ⟨loc',g1,g2⟩:=this;refine ⟨loc',eo.trans g1,?_⟩;cases loc' with
      | none=>exact g2
      | some pv=>simp only [Cd] at*;rw [AW (kl g1 rfl)];exact g2
     | Eg t' ls'=>
      obtain ⟨p',v',sub',g1,g2,g3⟩:=this;exact ⟨p',v',sub',eo.trans g1,by rw [AW (kl g1 rfl)];exact g2,g3.ext fun p2 x ⟨j,v2,n2,hj⟩ hx=>by rw [AW (nesub g1 hj)];exact hx⟩
 ·simp at hm;have a:m≠q:=by omega
  have b:m≠l:=by omega
  rw [off m a b];exact st.out m hm
 ·obtain ⟨_,h0,a1,a2⟩:=oldl e1;obtain ⟨_,h0',b1,b2⟩:=oldl e2;exact st.inj _ _ _ _ _ _ _ a1 b1 (by rw [a2];exact e3) (by rw [b2];exact e4)
 ·have new: ∀ {p' v':Nat},loc=some (p',v')->(∀m' h' v2,(if m'=q then none else LR H l ⟨some (p,v),1,ls.length,sub.set i (loc,xs.length)⟩ m')=some h'->h'.loc≠some (p',v2))/\
    (∀(m' j':Nat) (h':Hd) (v2 n2:Nat),H m'=some h'->h'.sub[j']?=some (some (p',v2),n2)->False):=fun {p' v'} e=>by
   subst e;refine ⟨fun m' h' v2 e1 e2=>?_,fun m' j' h' v2 n2 e1 e2=>?_⟩
   ·obtain ⟨c,h0,a1,a2⟩:=oldl e1;exact c (st.inj _ _ _ _ _ _ _ a1 r1 (by rw [a2];exact e2) rfl)
   ·exact (st.sub m' j' h' p' v2 n2 e1 e2).2.1 q _ v' r1 rfl
  have KL: ∀ {m j:Nat} {h:Hd} {p' v' n':Nat},(if m=q then none else LR H l ⟨some (p,v),1,ls.length,sub.set i (loc,xs.length)⟩ m)=some h->h.sub[j]?=some (some (p',v'),n')->(m=l/\j=i/\loc=some (p',v'))\/(∃h0,H m=some h0/\h0.sub[j]?=some (some (p',v'),n')/\ ¬(m=l/\j=i)):=fun {m j h p' v' n'} e1 e2=>by
   obtain ⟨a,⟨b,c⟩ | ⟨b,c⟩⟩:=old e1
   ·subst c;rcases hsub e2 with ⟨d1,d2⟩ | ⟨d1,d2⟩
    ·cases d2;exact .inl ⟨b,d1,rfl⟩
    ·exact .inr ⟨_,by rw [b];exact q1,d2,fun e=>d1 e.2⟩
   ·exact .inr ⟨h,c,e2,fun e=>b e.1⟩
  rw [List.length_set];rcases KL e1 e2 with ⟨a1,a2,a3⟩ | ⟨h0,a1,a2,a3⟩
  ·obtain ⟨n1,n2⟩:=new a3;refine ⟨st.lt r1 a3,n1,fun m' j' h' v' n' f1 f2=>?_⟩;rcases KL f1 f2 with ⟨b1,b2,b3⟩ | ⟨h0',b1,b2,b3⟩
   ·exact ⟨by rw [a1,b1],by rw [a2,b2]⟩
   ·exact (n2 _ _ _ _ _ b1 b2).elim
  ·obtain ⟨k1,k2,k3⟩:=st.sub m j h0 p1 v1 n1 a1 a2;refine ⟨k1,fun m' h' v' f1 f2=>?_,fun m' j' h' v' n' f1 f2=>?_⟩
   ·obtain ⟨_,h0',b1,b2⟩:=oldl f1;exact k2 _ _ _ b1 (by rw [b2];exact f2)
   ·rcases KL f1 f2 with ⟨b1,b2,b3⟩ | ⟨h0',b1,b2,b3⟩
    ·exact ((new b3).2 _ _ _ _ _ a1 a2).elim
    ·exact k3 _ _ _ _ _ b1 b2
theorem bS (st:Dn H TS S) (hF:Cl H F A) (hG:EE H G AG) {n:Nat} {x y:TV} {X Y:AA} {ps:List Prop} {z:TV} {F':RF} {G':List RF} {TS':List CI} (h:Vy F G TS n x y=some (ps,z,F',G',TS'))
  (hx:AE H x X) (hy:AE H y Y) {K:AA->AB->Prop} (hk: ∀u S' H',Dn H' TS' S'->Cl H' F' A->EE H' G' AG->AE H' z u->K u S'):
  (match (generalizing:=false) X with
  | .ptr l ver off=>J9 S l ver fun k cs=>HR Y fun ys=>ys.length=n/\off+n<=cs.length/\
    PC k cs off ys fun cs'=>Lv S l (.row ver k cs') fun S'=>K .C3 S'
  | _=>False):=by
 unfold Vy at h;split at h
 ·rename_i l i fo q;split at h
  ·rename_i t ls t' xs ho hq;split at h<;>cases h;rename_i hh hne _;subst hh;have hne:=Nat.ne_of_beq_eq_false hne;simp only [AE] at hx;obtain ⟨hd,p,v,e1,e2,e3,e4,rfl⟩:=hx;obtain ⟨p',v',sub,q1,q2,q3⟩:=Jg st ho;rw [q1] at e1;cases e1;cases e2;simp only at e4;obtain ⟨loc,r1,r2⟩:=Dl st hq;have hY:Y=K9 loc 0 xs.length:=by
    simp only [AE] at hy;obtain ⟨h',g1,g2⟩:=hy;rw [r1] at g1;cases g1;exact g2
   have hi:i.toNat<ls.length:=by omega
   refine AP.2 ⟨_,_,q2,IL (x:= .IU q) (cs:=[.IU q]) rfl hy fun ws hw=>?_⟩;have hws:ws=[Y]:=by
    simp only [AN] at hw;obtain ⟨y',zs,e1,e2,e3⟩:=hw;subst e3;simp only [AE] at e2;obtain ⟨h',g1,g2⟩:=e2;rw [r1] at g1;cases g1;rw [e1,g2,hY]
   subst hws;refine ⟨rfl,by simp only [List.length_map,q3.len];omega,Fo.2 (IM (st.lt q1 rfl) ?_)⟩;rw [Nat.mul_one,Nat.add_zero,FH,hY];have he: ∀m,m≠l->LR H l ⟨some (p,v),1,ls.length,sub.set i.toNat (loc,xs.length)⟩ m=H m:=fun m hm=>by simp [LR,hm]
   have hh: ∀h,H l=some h-> ∃s,LR H l ⟨some (p,v),1,ls.length,sub.set i.toNat (loc,xs.length)⟩ l=some ⟨h.loc,h.k,h.len,s⟩:=fun h e=>by
    rw [q1] at e;cases e;exact ⟨_,by simp [LR];rfl⟩
   have hq': ∀m,m≠q->(if m=q then none else LR H l ⟨some (p,v),1,ls.length,sub.set i.toNat (loc,xs.length)⟩ m)=LR H l ⟨some (p,v),1,ls.length,sub.set i.toNat (loc,xs.length)⟩ m:=fun m hm=>by simp [hm]
   exact hk _ _ _ (tK st ho hq hne hi q1 q2 q3 r1 r2) ((hF.kS he hh).kill hq') ((hG.kS he hh).kill hq') (by simp [AE])
  ·cases h
 ·rename_i y l i j k fo;split at h
  ·rename_i t ls ys ho hc;split at h
   ·rename_i x' _ hz hd hs1 hs2;cases h;have hsz:=beq_eq hz;subst hsz;simp only [AE] at hx;obtain ⟨hd',p,v,m,e1,e2,e3,e4,e5,rfl⟩:=hx;obtain ⟨p',v',sub,q1,q2,q3⟩:=Jg st ho;rw [q1] at e1;cases e1;obtain ⟨s1,s2,s3⟩:=VU q3 e2 e3;simp only at s2 s3;obtain ⟨hi,e⟩:=V4 (d:=zT t) e4 (by rw [<-s2];exact e5);rw [e] at hs2 hd;refine AP.2 ⟨_,_,s3,IL hc hy fun ws hw=>?_⟩;have f1:=hw.length;have f3:=Km hs1;have f4:=Kn hs2;rw [PU] at f4;have f5:=BO (A7 t) (gt ls i);have f6:j.toNat*G9 t+G9 t<=(gt ls i).length*G9 t:=by
     rw [<-Nat.succ_mul];exact Nat.mul_le_mul_right _ hi
    have hp:=(st.sub l i.toNat _ p v m q1 e3).1;refine ⟨by omega,by rw [f5];omega,Fo.2 (IM hp ?_)⟩;rw [Fk] at hk;obtain ⟨zs,g1,g2⟩:=Nw (H:=H) t hd ((Hv t _).Kk hw);simp only [AN] at g2;subst g2;rw [List.append_nil] at g1;refine hk _ _ H (st.vN (JH ho) q1 e3 ⟨p',v',sub,by rw [q1,List.length_set],?_,?_⟩) hF hG (by simp [AE])
    ·rw [List.getElem?_set_ne]
     ·exact q2
     ·intro e;subst e;exact (st.sub l i.toNat _ _ v m q1 e3).2.1 l _ v' q1 rfl
    ·refine ⟨by simp [q3.len],fun j' x y h1 h2=>?_⟩;by_cases a:j'=i.toNat
     ·subst a;rw [e3] at h2;cases h2;rw [List.getElem?_set_self (by omega)] at h1;cases h1;refine ⟨by simp [s2],?_⟩;simp only [Cd];rw [List.getElem?_set_self hp,Lr (A7 t) (gt ls i) j.toNat hi fo ws x' (by omega) g1]
     ·rw [List.getElem?_set_ne (Ne.symm a)] at h1;obtain ⟨g1',g2'⟩:=q3.at_ j' x y h1 h2;refine ⟨g1',?_⟩;obtain ⟨yl,yn⟩:=y;cases yl with
      | none=>exact g2'
      | some pv=>
       simp only [Cd] at*;rw [List.getElem?_set_ne]
       ·exact g2'
       ·intro e;have:=(st.sub l i.toNat _ p v m q1 e3).2.2 l j' _ pv.2 yn q1 (by rw [e];exact h2);exact a this.2
   ·cases h
  ·cases h
 ·cases h
theorem mC (hΓ:Cons P Γ) (st:Dn H TS S) (hF:Cl H F A) (hG:EE H G AG) {so:EL} {ps:List Prop} {y:TV} {F':RF} {G':List RF} {TS':List CI} (h:xP Γ ht F G TS so=some (ps,y,F',G',TS')) (FL:GI ps)
  {K:AA->AB->Prop} (hk: ∀z S' H',Dn H' TS' S'->Cl H' F' A->EE H' G' AG->AE H' y z->K z S'):AF P A S K so:=by
 have hp:holds A []:=BD;have w2: ∀ {x z:AO} {f:TV->TV->ER},Qf F x z f=some (ps,y,F',G',TS')-> ∃a b,f a b=some (ps,y,F',G',TS')/\AE H a (rd A x)/\AE H b (rd A z):=fun {x z f} h=>by
  unfold Qf at h;split at h
  ·rename_i a b hx hz;exact ⟨a,b,h,Bm hF hp hx,Bm hF hp hz⟩
  ·cases h
 cases so<;>simp only [xP] at h<;>(try (cases h;done))
 case DE k=>
  split at h
  ·rename_i t;split at h
   ·rename_i hz;simp only [kK] at h;cases h;simp only [AF];intro v;refine Ix ?_;obtain ⟨H',g1,g2,g3⟩:=st.O8 t [] v;rw [F9,GP] at hk;refine hk _ _ H' ?_ (hF.ext g1) (hG.ext g1) (by simp only [AE];exact ⟨_,g3,rfl⟩);rw [<-beq_eq hz];exact g2
   ·cases h
  ·cases h
 case CD x=>
  split at h
  ·rename_i hn;have e:x= .c .AL:=by
    unfold iY at hn;split at hn
    ·rfl
    ·cases hn
   subst e;unfold kK at h;split at h<;>cases h;rename_i t;simp only [AF,Gt];obtain ⟨H',g1,g2,g3⟩:=st.aq t;rw [F9,GP] at hk;exact hk _ _ H' g2 (hF.ext g1) (hG.ext g1) (by simp only [AE];exact ⟨_,g3,rfl⟩)
  ·cases h
 case alloc k z=>
  split at h<;>cases h;rename_i cs hz;simp only [AF];intro v;refine Ix ?_;obtain ⟨H',g1,g2,g3⟩:=st.Y6 k (Ik hz) v;rw [F9,GP] at hk;exact hk _ _ H' g2 (hF.ext g1) (hG.ext g1) (by simp only [AE];exact ⟨_,_,_,g3,rfl,rfl⟩)
 case box k x=>
  split at h
  ·rename_i y hx;split at h<;>cases h;rename_i cs hc;simp only [AF,AD];refine IL hc (Bm hF hp hx) fun ys hs v=>Ix ?_;obtain ⟨H',g1,g2,g3⟩:=st.Y6 k hs v;rw [F9,GP] at hk;exact hk _ _ H' g2 (hF.ext g1) (hG.ext g1) (by simp only [AE];exact ⟨_,_,_,g3,rfl,rfl⟩)
  ·cases h
 case Ax ro len k z parts=>
  split at h
  ·split at h<;>cases h;rename_i t xs hl;unfold kJ at hl;split at hl
   ·split at hl
    ·rename_i hsz hf;split at hl<;>cases hl;rename_i hd;rename_i cs hz _ _ _ _;simp only [AF];refine Oy hF hp hf (Ik hz) fun ws hw v=>Ix ?_;obtain ⟨e1,rfl⟩:=KZ len hd hw;obtain ⟨H',g1,g2,g3⟩:=st.O8 t xs v;rw [F9,GP] at hk;refine hk _ _ H' ?_ (hF.ext g1) (hG.ext g1) (by simp only [AE];exact ⟨_,g3,by simp only [K9,e1]⟩);rw [<-beq_eq hsz];exact g2
    ·cases hl
   ·cases hl
  ·cases h
 case Hq k bytes z len cap=>
  obtain ⟨a,b,h1,h2,h3⟩:=w2 h;split at h1
  ·rename_i e hde;have hdk:z=[.AL]/\k=1:=by
    unfold pD at hde;split at hde
    ·exact ⟨rfl,rfl⟩
    ·cases hde
   obtain ⟨rfl,rfl⟩:=hdk;unfold uN at h1;split at h1
   ·rename_i k1 n k2 m hi1 hi2;split at h1<;>cases h1;rename_i hkk;have hkk:=H7 hkk;subst hkk;have g1:=FL.cons;have g2:=g1.2.cons;have g3:=g2.2.cons;have q1:=g1.1;have q2:=g2.1;have q3:=g3.1;simp only [AF,AD,E9 hi1 h2,E9 hi2 h3,Lu];refine ⟨n.toNat,by omega,.inl (by rw [q1]),q3,fun v=>Ix ?_⟩;obtain ⟨H',p1,p2,p3⟩:=st.qe e n.toNat v;rw [F9,GP] at hk;refine hk _ _ H' ?_ (hF.ext p1) (hG.ext p1) (by simp only [AE];exact ⟨_,p3,rfl⟩);have:(List.replicate n.toNat [AA.AL]).flatten=List.replicate n.toNat AA.AL:=by simp
    rw [this];exact p2
   ·cases h1
  rename_i hnd;clear hnd;unfold sX at h1;split at h1
  ·rename_i t cs k1 n k2 m hz hi1 hi2;split at h1<;>cases h1;rename_i x _ hd hsz hkk;have hkk:=H7 hkk;subst hkk;have g1:=FL.cons;have g2:=g1.2.cons;have g3:=g2.2.cons;have q1:=g1.1;have q2:=g2.1;have q3:=g3.1;simp only [AF,AD,E9 hi1 h2,E9 hi2 h3,Lu];refine ⟨n.toNat,by omega,.inl (by rw [q1]),q3,fun v=>Ix ?_⟩
   ·obtain ⟨e1,e2⟩:=KZ (H:=H) 1 hd (Ik hz);simp only [List.flatMap_cons,List.flatMap_nil,List.append_nil] at e2;obtain ⟨H',p1,p2,p3⟩:=st.O8 t (List.replicate n.toNat x) v;rw [F9,GP] at hk;refine hk _ _ H' ?_ (hF.ext p1) (hG.ext p1) (by simp only [AE];exact ⟨_,p3,by simp only [K9,List.length_replicate]⟩);rw [e2,<-beq_eq hsz];have:(List.replicate n.toNat (BP t x)).flatten=(List.replicate n.toNat x).flatMap (BP t):=by
     rw [List.flatMap,List.map_replicate]
    rw [this];exact p2
  ·cases h1
 case store n x v=>
  obtain ⟨a,b,h1,h2,h3⟩:=w2 h;simp only [AF,AD];split at h1
  ·rename_i hd;cases h1;exact bS st hF hG hd h2 h3 hk
  ·exact bT st hF hG h1 FL h2 h3 hk
 case append k bytes s x=>
  obtain ⟨a,b,h1,h2,h3⟩:=w2 h;have:=XP st hF hG h1 FL h2 h3 hk;simp only [AF,AD];exact this
 case mark x=>
  split at h
  ·rename_i l hx;split at h<;>cases h;rename_i t ls ho;have hs:=Bm hF hp hx;have hs':=hs;simp only [AE] at hs;obtain ⟨hd,e1,e2⟩:=hs;obtain ⟨loc,q1,q2⟩:=Dl st ho;rw [q1] at e1;cases e1;simp only [AF,AD];have hpos:=FL.cons.1;cases loc with
   | none=>simp only [Cd] at q2;subst q2;simp at hpos
   | some pv=>
    obtain ⟨p,v⟩:=pv;simp only [K9] at e2;simp only [Cd] at q2;rw [e2];refine ⟨hpos,AP.2 ⟨_,_,q2,by simp [G9],hk _ _ H st hF hG ?_⟩⟩;rw [<-e2];exact hs'
  ·cases h
 case rn x=>
  split at h
  ·rename_i b hx;cases h;have hs:=Bm hF hp hx;simp only [AE] at hs;simp only [AF,AD];rw [hs];intro v;refine Ix ?_;obtain ⟨H',g1,g2,g3⟩:=st.O8 (.int .u8) (b.map fun c=>(c.toNat:Int)) v;rw [F9,GP] at hk;have e:=lp b;rw [<-e] at g2;refine hk _ _ H' g2 (hF.ext g1) (hG.ext g1) ?_;simp only [AE];exact ⟨_,g3,by simp only [K9];congr 1;exact (List.length_map _).symm⟩
  ·cases h
 case clear k z x=>
  split at h
  ·rename_i a hx;have hs:=Bm hF hp hx;simp only [AF,AD];unfold kD at h;split at h
   ·cases h;simp only [AE] at hs;rw [hs];exact hk _ _ H st hF hG (by simp [AE])
   ·rename_i l cs hz;split at h
    ·rename_i t ls ho;split at h<;>cases h;rename_i z0 hd hb;have hb:=beq_eq hb;obtain ⟨loc,q1,q2⟩:=Dl st ho;simp only [AE] at hs;obtain ⟨hd',e1,e2⟩:=hs;rw [q1] at e1;cases e1;obtain ⟨d1,d2⟩:=KZ (H:=H) 1 hd (Ik hz);simp only [List.flatMap_cons,List.flatMap_nil,List.append_nil] at d2;rw [Fk] at hk;cases loc with
     | none=>
      simp only [Cd] at q2;subst q2;simp only [K9] at e2;rw [e2];refine hk _ _ H ?_ hF hG (by simp [AE]);rw [List.length_nil,List.replicate_zero];have:TS.set l (.row t [])=TS:=List.ext_getElem? fun i=>by
       rw [List.getElem?_set];split
       ·rename_i e;subst e;rw [Jk] at ho;split
        ·exact ho.symm
        ·rw [List.getElem?_eq_none (by omega)] at ho;cases ho
       ·rfl
      rw [this];exact st
     | some pv=>
      obtain ⟨p,v⟩:=pv;simp only [K9] at e2;rw [e2];simp only [Cd] at q2;have f5:=BO (A7 t) ls;refine AP.2 ⟨_,_,q2,hb,by rw [f5,<-hb];simp,IM (st.lt q1 rfl) ?_⟩;refine hk _ _ H (st.put (JH ho) q1 rfl ⟨_,by rw [q1,List.length_replicate],?_⟩) hF hG (by simp [AE]);simp only [Cd];rw [List.getElem?_set_self (st.lt q1 rfl),d2,hb];have e3:(List.replicate ls.length (BP t z0)).flatten=(List.replicate ls.length z0).flatMap (BP t):=by rw [List.flatMap,List.map_replicate]
      have e4:=BO (A7 t) (List.replicate ls.length z0);rw [List.length_replicate] at e4;rw [e3,R3 (by rw [e4,f5])]
    ·cases h
   ·rename_i l off len cs hz;split at h
    ·rename_i t ls ho;split at h<;>cases h;rename_i z0 hd hb;have hb:=beq_eq hb;obtain ⟨loc,q1,q2⟩:=Dl st ho;simp only [AE] at hs;obtain ⟨hd',e1,r1,r2,r3,e2⟩:=hs;rw [q1] at e1;cases e1;obtain ⟨d1,d2⟩:=KZ (H:=H) 1 hd (Ik hz);simp only [List.flatMap_cons,List.flatMap_nil,List.append_nil] at d2;rw [Fk] at hk;have hol:off.toNat+len.toNat<=ls.length:=by simp only at r3;omega
     have hlen2:(ls.take off.toNat++List.replicate len.toNat z0++ls.drop (off.toNat+len.toNat)).length=ls.length:=by simp;omega
     cases loc with
     | none=>
      simp only [Cd] at q2;subst q2;simp only [K9] at e2;rw [e2];simp only [List.length_nil] at hol;refine hk _ _ H ?_ hF hG (by simp [AE]);rw [show len.toNat=0 by omega];simp only [List.take_nil,List.replicate_zero,List.drop_nil,List.append_nil,List.nil_append];have:TS.set l (.row t [])=TS:=List.ext_getElem? fun i=>by
       rw [List.getElem?_set];split
       ·rename_i e;subst e;rw [Jk] at ho;split
        ·exact ho.symm
        ·rw [List.getElem?_eq_none (by omega)] at ho;cases ho
       ·rfl
      rw [this];exact st
     | some pv=>
      obtain ⟨p,v⟩:=pv;simp only [K9] at e2;rw [e2];simp only [Cd] at q2;have f5:=BO (A7 t) ls;refine AP.2 ⟨_,_,q2,hb,?_,IM (st.lt q1 rfl) ?_⟩
      ·rw [f5,<-hb,<-Nat.add_mul];exact Nat.mul_le_mul_right _ hol
      refine hk _ _ H (st.put (JH ho) q1 rfl ⟨_,by rw [q1,hlen2],?_⟩) hF hG (by simp [AE]);simp only [Cd];rw [List.getElem?_set_self (st.lt q1 rfl),d2,hb];have e3:(List.replicate len.toNat (BP t z0)).flatten=(List.replicate len.toNat z0).flatMap (BP t):=by rw [List.flatMap,List.map_replicate]
      have e4:=BO (A7 t) (List.replicate len.toNat z0);rw [List.length_replicate] at e4;have e5:ls.flatMap (BP t)=(ls.take off.toNat).flatMap (BP t)++(((ls.drop off.toNat).take len.toNat).flatMap (BP t)++(ls.drop (off.toNat+len.toNat)).flatMap (BP t)):=by
       rw [<-List.flatMap_append,<-List.flatMap_append];congr 1;have:ls.drop (off.toNat+len.toNat)=(ls.drop off.toNat).drop len.toNat:=by rw [List.drop_drop]
       rw [this,List.take_append_drop,List.take_append_drop]
      have e6:=BO (A7 t) (ls.take off.toNat);rw [List.length_take,Nat.min_eq_left (by omega)] at e6;have e7:=BO (A7 t) ((ls.drop off.toNat).take len.toNat);rw [List.length_take,List.length_drop,Nat.min_eq_left (by omega)] at e7;rw [e3,e5,<-hb,<-e6];have:=Ls ((ls.take off.toNat).flatMap (BP t)) 0 (((ls.drop off.toNat).take len.toNat).flatMap (BP t)++(ls.drop (off.toNat+len.toNat)).flatMap (BP t)) ((List.replicate len.toNat z0).flatMap (BP t));rw [Nat.add_zero] at this;rw [this,J7 _ _ _ _ (by rw [e4,e7];omega),R3 (by rw [e4,e7])];simp only [List.flatMap_append,List.append_assoc]
    ·cases h
   ·cases h
  ·cases h
 case call f args=>
  split at h
  ·rename_i xs hx;have hs:=F_ hF hp hx;unfold kC at h;split at h
   ·rename_i ct hc;split at h<;>cases h;rename_i hd hf;rw [Wl,GP] at hk;simp only [AF,Ar];exact sL (hΓ.look hc) st hd FL.cons.1 hs hf fun r S' H' g1 g2 g3=>hk _ _ H' g2 (hF.ext g1) (hG.ext g1) g3
   ·cases h
  ·cases h
end
end Go.Vc
end
