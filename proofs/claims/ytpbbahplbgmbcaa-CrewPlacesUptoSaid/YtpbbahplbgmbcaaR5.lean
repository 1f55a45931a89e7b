/- Part of the proof of crewPlacesUpto_holds: the whole is true of every input. Conditions: none. -/
import Derived.Test.YtpbbahplbgmbcaaR4
set_option linter.all false
section
namespace Go.Vc
theorem wLoad_ptr {S:Store} {n l v off:Nat} {ag:Bool} {K:AVal→Prop} {k:Nat} {cs xs:List AVal} (hl:S[l]?=some (.row v k cs)) (hx:takeN n (cs.drop off)=some xs) (hk:mkVK ag xs K):wLoad S n ag (.ptr l v off) K:=by
 simp only [wLoad]
 refine wRow_iff.2 ⟨k,cs,hl,?_⟩
 cases k with
 | zero=>simp only [dropK_iff,takeK_iff];exact ⟨xs,hx,hk⟩
 | succ k=>exact ⟨xs,hx,hk⟩
theorem mkVT_sound {H:HF} {ag:Bool} {xs:List TV} {y:TV} {ys:List AVal} {K:AVal→Prop} (h:mkVT ag xs=some y) (hs:SimL H xs ys) (hk: ∀z,SimV H y z→K z):mkVK ag ys K:=by
 cases ag
 ·unfold mkVT at h
  simp only at h
  split at h<;>cases h
  simp only [SimL] at hs
  obtain ⟨z,zs,rfl,h1,rfl⟩:=hs
  exact hk _ h1
 ·simp only [mkVT] at h
  cases h
  exact hk _ (by simp only [SimV];exact ⟨_,rfl,hs⟩)
theorem gt_get {α:Type} {d:α} {l:List α} {i:Int} (h0:0≤i) (h1:i<l.length): ∃hi:i.toNat<l.length,@gt α ⟨d⟩ l i=l[i.toNat]:=by
 have hi:i.toNat<l.length:=by omega
 exact ⟨hi,by simp [gt,List.getD_eq_getElem?_getD,List.getElem?_eq_getElem hi]⟩
theorem row_take {H:HF} {t:Ty} {ls:List (T t)} {i:Int} (h0:0≤i) (h1:i<ls.length) {n fo:Nat} {xs:List TV} (h:takeG n ((cellsT t (@gt (T t) ⟨zT t⟩ ls i)).drop fo)=some xs):
  ∃ys,takeN n ((ls.flatMap (encT t)).drop (i.toNat*szT t+fo))=some ys∧SimL H xs ys:=by
 obtain ⟨hi,e⟩:=gt_get (d:=zT t) h0 h1
 rw [e] at h
 obtain ⟨ys,g1,g2⟩:=((cellsT_sim (H:=H) t ls[i.toNat]).drop fo).takeG h
 refine ⟨ys,?_,g2⟩
 obtain ⟨e1,e2⟩:=takeN_eq g1
 simp only [List.length_drop,encT_length] at e2
 by_cases hn:n=0
 ·subst hn;simp [takeN] at g1 ⊢;exact g1
 ·rw [take_flat (encT_length t) hi fo n (by omega),e1]
theorem pickN_sound {H:HF} {k:Nat} {i:Int} {ag:Bool} {cs:List TV} {xs:List AVal} (hs:SimL H cs xs) {K:AVal→Prop}: ∀(n j:Nat) {z:TV},pickN k i ag cs n j=some z→(j:Int)≤i→i<(j:Int)+n→(∀u,SimV H z u→K u)→
  ∃ys,takeN k (xs.drop (i.toNat*k))=some ys∧mkVK ag ys K
 | 0,j,z,h,h1,h2,hk=>by simp [pickN] at h
 | n+1,j,z,h,h1,h2,hk=>by
  unfold pickN at h
  split at h
  ·rename_i ts ht
   split at h
   ·rename_i x hx
    split at h
    ·cases h
     have:i.toNat=j:=by omega
     rw [this]
     obtain ⟨ys,g1,g2⟩:=(hs.drop (j*k)).takeG ht
     exact ⟨ys,g1,mkVT_sound hx g2 hk⟩
    ·rename_i n
     split at h
     ·rename_i y hy
      have g:=pickV_sound (H:=H) h
      by_cases e:i=(j:Int)
      ·have:i.toNat=j:=by omega
       rw [this]
       obtain ⟨ys,g1,g2⟩:=(hs.drop (j*k)).takeG ht
       exact ⟨ys,g1,mkVT_sound hx g2 fun u hu=>hk u (g.1 e u hu)⟩
      ·exact pickN_sound hs (n+1) (j+1) hy (by omega) (by omega) fun u hu=>hk u (g.2 e u hu)
     ·cases h
   ·cases h
  ·cases h
theorem minV_sound {H:HF} {k:IntKind} {K:AVal→Prop}: ∀(r:List TV) (a:Int) {y:TV} {ys:List AVal},minV k a r=some y→SimL H r ys→(∀z,SimV H y z→K z)→vcMin (.int k a) K ys
 | [],a,y,ys,h,hs,hk=>by simp only [SimL] at hs;subst hs;simp only [minV,Option.some.injEq] at h;subst h;exact hk _ (by simp [SimV])
 | x::r,a,y,ys,h,hs,hk=>by
  unfold minV at h
  split at h<;>first | (cases h;done) | skip
  ·rename_i e;cases e
  ·rename_i e;cases e
   split at h
   ·rename_i hkk
    have hkk:=kEq_eq hkk
    subst hkk
    simp only [SimL,SimV] at hs
    obtain ⟨z,zs,rfl,rfl,hs⟩:=hs
    simp only [vcMin]
    exact ⟨trivial,minV_sound r _ h hs hk⟩
   ·cases h
theorem maxV_sound {H:HF} {k:IntKind} {K:AVal→Prop}: ∀(r:List TV) (a:Int) {y:TV} {ys:List AVal},maxV k a r=some y→SimL H r ys→(∀z,SimV H y z→K z)→vcMax (.int k a) K ys
 | [],a,y,ys,h,hs,hk=>by simp only [SimL] at hs;subst hs;simp only [maxV,Option.some.injEq] at h;subst h;exact hk _ (by simp [SimV])
 | x::r,a,y,ys,h,hs,hk=>by
  unfold maxV at h
  split at h<;>first | (cases h;done) | skip
  ·rename_i e;cases e
  ·rename_i e;cases e
   split at h
   ·rename_i hkk
    have hkk:=kEq_eq hkk
    subst hkk
    simp only [SimL,SimV] at hs
    obtain ⟨z,zs,rfl,rfl,hs⟩:=hs
    simp only [vcMax]
    exact ⟨trivial,maxV_sound r _ h hs hk⟩
   ·cases h
theorem decL_sim {H:HF} {t:Ty}: ∀(n:Nat) {cs:List TV} {xs:List (T t)} {ys:List AVal},decL t n cs=some xs→SimL H cs ys→xs.length=n∧ys=xs.flatMap (encT t)
 | 0,cs,xs,ys,h,hs=>by
  cases cs<;>simp [decL] at h
  subst h
  simp only [SimL] at hs
  subst hs
  simp
 | n+1,cs,xs,ys,h,hs=>by
  simp only [decL] at h
  split at h
  ·rename_i x r h1
   split at h<;>cases h
   rename_i xs' h2
   obtain ⟨zs,rfl,g1⟩:=decC_sim t h1 hs
   obtain ⟨g2,rfl⟩:=decL_sim n h2 g1
   exact ⟨by simp [g2],by simp⟩
  ·cases h
section
variable {P : Program} {H : HF} {TS : List TOb} {S : Store} {F : RF} {A : Frame} {path : List (Nat × Bool)} {Γ : List (Nat × Ct)} {ht : Option Ty}
theorem loV_sim (hF:SimF H F A) (hp:holds A path) {r:Option Rand} {a:Int} (h:loV F path r=some a) {K:Nat→Prop} (h0:0≤a) (hk:K a.toNat):wLo A r K:=by
 cases r with
 | none=>simp only [loV,Option.some.injEq] at h;subst h;exact hk
 | some r=>
  simp only [loV] at h
  split at h
  ·rename_i x hx
   split at h<;>cases h
   rename_i k hi
   have:=asI_sim hi (rdP_sim hF hp hx)
   simp only [wLo,rdK_iff,this,wIdx]
   exact ⟨a.toNat,by omega,hk⟩
  ·cases h
theorem hiV_sim (hF:SimF H F A) (hp:holds A path) {r:Option Rand} {a:Int} {n:Nat} (h:hiV F path (n:Int) r=some a) {K:Nat→Prop} (h0:0≤a) (hk:K a.toNat):wHi A n r K:=by
 cases r with
 | none=>simp only [hiV,Option.some.injEq] at h;subst h;simpa [wHi] using hk
 | some r=>
  simp only [hiV] at h
  split at h
  ·rename_i x hx
   split at h<;>cases h
   rename_i k hi
   have:=asI_sim hi (rdP_sim hF hp hx)
   simp only [wHi,rdK_iff,this,wIdx]
   exact ⟨a.toNat,by omega,hk⟩
  ·cases h
theorem pickG_sound (hF:SimF H F A) {n:Nat} {a b:Rand} {gs:List (Nat×Bool)} {Q:Prop} {p:Prop} (hl:lookN F n=some (gs,Q,.gd p)) (hg:holds A gs) {x y z:TV}
  (hx:rdP F ((n,true)::gs) a=some x) (hy:rdP F ((n,false)::gs) b=some y) (hz:pickV p x y=some z) {K:AVal→Store→Prop} (hk: ∀u,SimV H z u→K u S):vcOp P A S K (.pick (.t n) a b):=by
 have sc:=(hF _ _ _ _ hl).on hg
 have g:=pickV_sound (H:=H) hz
 simp only [vcOp,rdK_iff,rd]
 simp only [SimV] at sc
 rcases sc with ⟨e,hp'⟩ | ⟨e,hp'⟩<;>rw [e]
 ·exact hk _ (g.1 hp' _ (rdP_sim hF (fun q hq=>by
   rcases List.mem_cons.1 hq with rfl | hq
   ·simpa using e
   ·exact hg q hq) hx))
 ·exact hk _ (g.2 hp' _ (rdP_sim hF (fun q hq=>by
   rcases List.mem_cons.1 hq with rfl | hq
   ·simpa using e
   ·exact hg q hq) hy))
theorem pickQ_sound (hF:SimF H F A) (hp:holds A path) {n:Nat} {a b:Rand} {gs:List (Nat×Bool)} {Q:Prop} {c:TV} (hl:lookN F n=some (gs,Q,c)) (hg:holds A gs) {p:Prop} (hc:asQ c=some p) {x y z:TV}
  (hx:rdP F path a=some x) (hy:rdP F path b=some y) (hz:pickV p x y=some z) {K:AVal→Store→Prop} (hk: ∀u,SimV H z u→K u S):vcOp P A S K (.pick (.t n) a b):=by
 obtain ⟨u,e,hu⟩:=asQ_sim hc ((hF _ _ _ _ hl).on hg)
 have g:=pickV_sound (H:=H) hz
 simp only [vcOp,rdK_iff,rd]
 rw [e]
 exact ⟨fun e=>hk _ (g.1 (hu.1 e) _ (rdP_sim hF hp hx)),fun e=>hk _ (g.2 (fun q=>by rw [hu.2 q] at e;cases e) _ (rdP_sim hF hp hy))⟩
theorem partV_sound {ag:Bool} {n:Nat} {cs:List TV} {ps:List Prop} {y:TV} (h:partV ag n cs=some (ps,y)) {H:HF} {K:AVal→Prop} (hk: ∀z,SimV H y z→K z): ∃xs,takeG n cs=some xs∧ ∀ys,SimL H xs ys→mkVK ag ys K:=by
 unfold partV at h
 split at h
 ·rename_i xs hx
  split at h<;>cases h
  rename_i hm
  exact ⟨xs,hx,fun ys hs=>mkVT_sound hm hs hk⟩
 ·cases h
theorem sub_row {t:Ty} {ls:List (List (T t))} {sub:List (Option (Nat×Nat)×Nat)} {i:Int} {q:Option (Nat×Nat)×Nat} (h:SubsAt S t ls sub) (h0:0≤i) (hq:sub[i.toNat]?=some q):i<ls.length∧q.2=(gt ls i).length∧RowAt S t (gt ls i) q.1:=by
 have hi:=(List.getElem?_eq_some_iff.1 hq).1
 rw [h.len] at hi
 have e:gt ls i=ls[i.toNat]:=by simp [gt,List.getD_eq_getElem?_getD,List.getElem?_eq_getElem hi]
 rw [e]
 obtain ⟨a,b⟩:=h.at_ i.toNat _ q (List.getElem?_eq_getElem hi) hq
 exact ⟨by omega,a,b⟩
theorem load_sound' (st:St3 H TS S) {n:Nat} {ag:Bool} {x:TV} {X:AVal} {ps:List Prop} {y:TV} (h:evLoad TS n ag x=some (ps,y)) (hx:SimV H x X) {K:AVal→Prop} (hk: ∀z,SimV H y z→K z):wLoad S n ag X K:=by
 unfold evLoad at h
 split at h
 ·simp only [SimV] at hx
  obtain ⟨xs,rfl,hx⟩:=hx
  obtain ⟨zs,h1,h2⟩:=partV_sound h hk
  obtain ⟨ys,g1,g2⟩:=hx.takeG h1
  simp only [wLoad,takeK_iff]
  exact ⟨ys,g1,h2 _ g2⟩
 ·split at h
  ·rename_i k cs ho
   simp only [SimV] at hx
   obtain ⟨hd,p,v,e1,e2,rfl⟩:=hx
   obtain ⟨p',v',xs,q1,q2,q3⟩:=cells_get st ho
   rw [q1] at e1;cases e1;cases e2
   obtain ⟨zs,h1,h2⟩:=partV_sound h hk
   obtain ⟨ys,g1,g2⟩:=(q3.drop _).takeG h1
   exact wLoad_ptr q2 g1 (h2 _ g2)
  ·cases h
 ·rename_i l i fo
  split at h
  ·rename_i t ls ho
   simp only [SimV] at hx
   obtain ⟨hd,p,v,e1,e2,e3,e4,rfl⟩:=hx
   obtain ⟨loc,q1,q2⟩:=row_get st ho
   rw [q1] at e1;cases e1
   simp only at e2 e4
   subst e2
   obtain ⟨zs,h1,h2⟩:=partV_sound h hk
   obtain ⟨ys,g1,g2⟩:=row_take e3 (by exact_mod_cast e4) h1
   exact wLoad_ptr q2 g1 (h2 _ g2)
  ·rename_i t ls ho
   split at h<;>cases h
   simp only [SimV] at hx
   obtain ⟨hd,p,v,e1,e2,e3,e4,rfl⟩:=hx
   obtain ⟨p',v',sub,q1,q2,q3⟩:=drow_get st ho
   rw [q1] at e1;cases e1;cases e2
   simp only at e4
   obtain ⟨q,hq⟩: ∃q,sub[i.toNat]?=some q:=⟨_,List.getElem?_eq_getElem (by rw [q3.len];omega)⟩
   refine wLoad_ptr q2 (xs:=[subA q]) ?_ ?_
   ·rw [Nat.mul_one,Nat.add_zero]
    have:(sub.map subA)[i.toNat]?=some (subA q):=by rw [List.getElem?_map,hq];rfl
    obtain ⟨hi,hv⟩:=List.getElem?_eq_some_iff.1 this
    rw [List.drop_eq_getElem_cons hi,hv]
    simp [takeN]
   ·simp only [mkVK]
    exact hk _ (by simp only [SimV];exact ⟨_,q,q1,e3,hq,rfl⟩)
  ·cases h
 ·split at h
  ·rename_i t ls ho
   split at h
   ·rename_i hz
    have hsz:=beq_eq hz
    simp only [SimV] at hx
    obtain ⟨hd,p,v,m,e1,e2,e3,e4,e5,rfl⟩:=hx
    obtain ⟨p',v',sub,q1,q2,q3⟩:=drow_get st ho
    rw [q1] at e1;cases e1
    obtain ⟨r1,r2,r3⟩:=sub_row q3 e2 e3
    obtain ⟨zs,h1,h2⟩:=partV_sound h hk
    simp only at r2
    obtain ⟨ys,g1,g2⟩:=row_take e4 (by omega) h1
    rw [hsz] at g1
    exact wLoad_ptr r3 g1 (h2 _ g2)
   ·cases h
  ·cases h
 ·cases h
theorem slice0_sound (hF:SimF H F A) (hp:holds A path) {x:TV} {r:Rand} {lo hi:Option Rand} {ps:List Prop} {y:TV} (h:evSlice0 F path x lo hi=some (ps,y)) (hps:AllP ps) (hx:SimV H x (rd A r)) {K:AVal→Store→Prop} (hk: ∀z,SimV H y z→K z S):
  vcOp P A S K (.slice 0 r lo hi):=by
 simp only [vcOp,rdK_iff]
 unfold evSlice0 at h
 split at h
 ·rename_i s
  simp only [SimV] at hx
  rw [hx]
  split at h
  ·rename_i a b ha hb
   cases h
   have h1:=hps.cons
   have h2:=h1.2.cons
   have h3:=h2.2.cons
   refine hiV_sim hF hp hb (by omega) (loV_sim hF hp ha h1.1 ⟨?_,?_,hk _ (by simp [SimV])⟩)
   ·have:=h2.1;omega
   ·have:=h3.1;have:=h1.1;have:=h2.1;omega
  ·cases h
 ·cases h
theorem ros_sub {t:Ty} {l:List (T t)} {a b:Nat} (h1:a≤b) (h2:b≤l.length):subL (l.flatMap (encT t)) (a*szT t) ((b-a)*szT t)=((l.take b).drop a).flatMap (encT t)∧((l.take b).drop a).length=b-a:=by
 have e:(l.take b).drop a=(l.drop a).take (b-a):=by rw [List.drop_take]
 refine ⟨?_,by simp;omega⟩
 rw [e,subL,flat_part l a (b-a),List.take_left']
 rw [flatMap_length (encT_length t),List.length_take,List.length_drop]
 congr 1
 omega
theorem St3.noloc (st:St3 H TS S) {l:Nat} {hd:Hd} (hl:H l=some hd) (hn:hd.loc=none):hd.len=0:=by
 have hlt:l<TS.length:=by
  rcases Nat.lt_or_ge l TS.length with q | q
  ·exact q
  ·rw [st.out l q] at hl;cases hl
 obtain ⟨o,ho⟩: ∃o,TS[l]?=some o:=⟨_,List.getElem?_eq_getElem hlt⟩
 have:=st.ob l o ho
 cases o with
 | dead=>simp only [ObS] at this;rw [this] at hl;cases hl
 | cells k cs=>obtain ⟨p,v,xs,q1,_⟩:=this;rw [q1] at hl;cases hl;cases hn
 | row t ls=>obtain ⟨loc,q1,q2⟩:=this;rw [q1] at hl;cases hl;simp only at hn;subst hn;simp only [RowAt] at q2;simp [q2]
 | drow t ls=>obtain ⟨p,v,sub,q1,_⟩:=this;rw [q1] at hl;cases hl;cases hn
theorem slice1_sound (st:St3 H TS S) (hF:SimF H F A) (hp:holds A path) {k:Nat} {x:TV} {r:Rand} {lo hi:Option Rand} {ps:List Prop} {y:TV} (h:evSlice1 F path TS (k+1) x lo hi=some (ps,y)) (hps:AllP ps) (hx:SimV H x (rd A r)) {K:AVal→Store→Prop} (hk: ∀z,SimV H y z→K z S):
  vcOp P A S K (.slice (k+1) r lo hi):=by
 simp only [vcOp,rdK_iff]
 have main: ∀ {l:Nat} {t:Ty} {ls:List (T t)} {loc:Option (Nat×Nat)} {off len:Int} {a b:Int},H l=some ⟨loc,szT t,ls.length,[]⟩→RowAt S t ls loc→szT t=k+1→0≤off→0≤len→off+len≤ls.length→loV F path lo=some a→hiV F path len hi=some b→0≤a→a≤b→b≤len→
   (∀z,SimV H (.sl l (off+a) (b-a)) z→K z S)→(match slA loc (off.toNat*szT t) len.toNat with
   | .ros n cs=>wHi A n hi fun h=>wLo A lo fun j=>j≤h∧h≤n∧n*(k+1)≤cs.length∧K (.ros (h-j) (subL cs (j*(k+1)) ((h-j)*(k+1)))) S
   | .sl l v off n=>wHi A n hi fun h=>wLo A lo fun j=>j≤h∧h≤n∧wRow S l v fun k' _=>k'=k+1∧K (.sl l v (off+j*(k+1)) (h-j)) S
   | .nils=>wHi A 0 hi fun h=>wLo A lo fun j=>j=0∧h=0∧K .nils S
   | _=>False):=by
  intro l t ls loc off len a b h1 h2 hsz h0 hl hol ha hb q0 q1 q2 hk
  have hb':hiV F path ((len.toNat:Nat):Int) hi=some b:=by rw [Int.toNat_of_nonneg hl];exact hb
  cases loc with
  | none=>
   simp only [RowAt] at h2
   subst h2
   simp only [List.length_nil] at hol
   have:len.toNat=0:=by omega
   simp only [slA]
   rw [this] at hb'
   refine hiV_sim hF hp hb' (by omega) (loV_sim hF hp ha q0 ⟨by omega,by omega,hk _ ?_⟩)
   simp only [SimV]
   exact ⟨_,h1,by omega,by omega,by simp only [List.length_nil];omega,rfl⟩
  | some q=>
   obtain ⟨p,v⟩:=q
   simp only [slA]
   refine hiV_sim hF hp hb' (by omega) (loV_sim hF hp ha q0 ⟨by omega,by omega,wRow_iff.2 ⟨_,_,h2,hsz,hk _ ?_⟩⟩)
   simp only [SimV]
   refine ⟨_,h1,by omega,by omega,by simp only;omega,?_⟩
   simp only [slA]
   rw [←hsz,show (off+a).toNat=off.toNat+a.toNat by omega,Nat.add_mul,show (b-a).toNat=b.toNat-a.toNat by omega]
 unfold evSlice1 at h
 split at h
 ·rename_i t l
  simp only [SimV] at hx
  rw [hx]
  split at h
  ·rename_i a b ha hb hz
   cases h
   have h1:=hps.cons
   have h2:=h1.2.cons
   have h3:=h2.2.cons
   have hsz:=beq_eq hz
   have g1:=h1.1
   have g2:=h2.1
   have g3:=h3.1
   obtain ⟨e1,e2⟩:=ros_sub (t:=t) (l:=l) (a:=a.toNat) (b:=b.toNat) (by omega) (by omega)
   refine hiV_sim hF hp hb (by omega) (loV_sim hF hp ha g1 ⟨by omega,by omega,?_,?_⟩)
   ·rw [flatMap_length (encT_length t),hsz];exact Nat.le_refl _
   ·rw [←hsz,e1]
    refine hk _ ?_
    simp only [SimV]
    rw [e2]
  ·cases h
 ·split at h
  ·rename_i l t ls ho
   simp only [SimV] at hx
   obtain ⟨hd,e1,hx⟩:=hx
   rw [hx]
   obtain ⟨loc,q1,q2⟩:=row_get st ho
   rw [q1] at e1;cases e1
   split at h
   ·rename_i a b ha hb hz
    cases h
    have h1:=hps.cons
    have h2:=h1.2.cons
    have h3:=h2.2.cons
    have:=main (off:=0) (len:=ls.length) q1 q2 (beq_eq hz) (by omega) (by omega) (by omega) ha hb h1.1 h2.1 h3.1 (by rw [Int.zero_add];exact hk)
    simp only [Int.toNat_zero,Nat.zero_mul,Int.toNat_natCast] at this
    exact this
   ·cases h
  ·cases h
 ·split at h
  ·rename_i l off len t ls ho
   simp only [SimV] at hx
   obtain ⟨hd,e1,e2,e3,e4,hx⟩:=hx
   rw [hx]
   obtain ⟨loc,q1,q2⟩:=row_get st ho
   rw [q1] at e1;cases e1
   split at h
   ·rename_i a b ha hb hz
    cases h
    have h1:=hps.cons
    have h2:=h1.2.cons
    have h3:=h2.2.cons
    exact main q1 q2 (beq_eq hz) e2 e3 (by exact_mod_cast e4) ha hb h1.1 h2.1 h3.1 hk
   ·cases h
  ·cases h
 ·simp only [SimV] at hx
  rw [hx]
  split at h
  ·rename_i a b ha hb
   cases h
   have h1:=hps.cons
   have h2:=h1.2.cons
   refine hiV_sim hF hp (n:=0) hb (by have:=h2.1;omega) (loV_sim hF hp ha (by have:=h1.1;omega) ⟨?_,?_,hk _ (by simp [SimV])⟩)
   ·have:=h1.1;omega
   ·have:=h2.1;omega
  ·cases h
 ·cases h
theorem bytes_enc (s:List UInt8):(s.map fun c=>AVal.int .u8 (c.toNat:Int))=List.flatMap (encT (.int .u8)) (s.map fun c=>(c.toNat:Int)):=by
 induction s with
 | nil=>rfl
 | cons c s ih=>exact congrArg (AVal.int .u8 (c.toNat:Int):: ·) ih
theorem srcV_sound (st:St3 H TS S) {t:Ty} {y:TV} {Y:AVal} {ys:List (T t)} (h0:srcV TS t y=some ys) (hs:SimV H y Y) {K:Nat→List AVal→Prop} (hk:K ys.length (ys.flatMap (encT t))):wSrc S (szT t) Y K:=by
 have main:decS TS t y=some ys→wSrc S (szT t) Y K:=fun h=>by
  unfold decS at h
  split at h
  ·rename_i e l
   split at h<;>cases h
   rename_i hh _
   subst hh
   simp only [SimV] at hs
   subst hs
   simp only [wSrc]
   have:=flatMap_length (encT_length e) l
   refine ⟨by rw [this];exact Nat.le_refl _,?_⟩
   rw [List.take_of_length_le (by rw [this];exact Nat.le_refl _)]
   exact hk
  ·cases h
   simp only [SimV] at hs
   subst hs
   exact hk
  ·split at h
   ·rename_i e ls ho
    split at h<;>cases h
    rename_i hh _
    subst hh
    obtain ⟨loc,h1,h2⟩:=row_get st ho
    simp only [SimV] at hs
    obtain ⟨hd,g1,rfl⟩:=hs
    rw [h1] at g1;cases g1
    cases loc with
    | none=>simp only [RowAt] at h2;subst h2;exact hk
    | some q=>
     obtain ⟨p,v⟩:=q
     simp only [slA,wSrc]
     have:=flatMap_length (encT_length e) ls
     refine wRow_iff.2 ⟨_,_,h2,by rw [this];omega,?_⟩
     rw [subL,List.drop_zero,List.take_of_length_le (by rw [this];exact Nat.le_refl _)]
     exact hk
   ·cases h
  ·rename_i l off len
   split at h
   ·rename_i e ls ho
    split at h<;>cases h
    rename_i hh _
    subst hh
    obtain ⟨loc,h1,h2⟩:=row_get st ho
    simp only [SimV] at hs
    obtain ⟨hd,g1,g2,g3,g4,rfl⟩:=hs
    rw [h1] at g1;cases g1
    simp only at g4
    have hlen:((ls.drop off.toNat).take len.toNat).length=len.toNat:=by simp;omega
    rw [hlen] at hk
    cases loc with
    | none=>
     simp only [RowAt] at h2;subst h2
     simp only [List.length_nil] at g4
     have:len.toNat=0:=by omega
     rw [this] at hk
     simpa [slA,wSrc] using hk
    | some q=>
     obtain ⟨p,v⟩:=q
     simp only [slA,wSrc]
     have e1:=flatMap_length (encT_length e) ls
     refine wRow_iff.2 ⟨_,_,h2,?_,?_⟩
     ·rw [e1,←Nat.add_mul]
      exact Nat.mul_le_mul_right _ (by omega)
     ·have e2:=flatMap_length (encT_length e) ((ls.drop off.toNat).take len.toNat)
      rw [hlen] at e2
      rw [subL,flat_part ls off.toNat len.toNat,List.take_left' e2]
      exact hk
   ·cases h
  ·cases h
 unfold srcV at h0
 split at h0
 ·rename_i s
  split at h0<;>cases h0
  simp only [SimV] at hs
  subst hs
  simp only [wSrc,szT]
  refine ⟨trivial,?_⟩
  have e:(s.map fun c=>AVal.int .u8 (c.toNat:Int))=(s.map fun c=>(c.toNat:Int)).flatMap (encT (.int .u8)):=by
   clear hk
   induction s with
   | nil=>rfl
   | cons c s ih=>exact congrArg (AVal.int .u8 (c.toNat:Int):: ·) (ih (fun h=>nomatch h))
  rw [e]
  have e2:List.length (α:=T (.int .u8)) (s.map fun c=>(c.toNat:Int))=s.length:=List.length_map _
  exact Eq.mp (congrArg (fun n=>K n (List.flatMap (encT (Ty.int IntKind.u8)) (List.map (fun c=>(c.toNat:Int)) s))) e2) hk
 ·exact main h0
theorem ints_enc: ∀l:List (T (.int .u8)),l.flatMap (encT (.int .u8))=List.map (AVal.int .u8) (l:List Int)
 | []=>rfl
 | n::l=>congrArg (AVal.int .u8 n:: ·) (ints_enc l)
theorem bytes_sound (st:St3 H TS S) {y:TV} {Y:AVal} {l:List (T (.int .u8))} (h0:decS TS (.int .u8) y=some l) (hs:SimV H y Y) {K:List UInt8→Prop} (hk:K (List.map (fun n:Int=>UInt8.ofNat n.toNat) l)):wBytes S Y K:=by
 have hns: ∀s,y≠ .str s:=fun s e=>by subst e;simp [decS] at h0
 have hsrc:srcV TS (.int .u8) y=some l:=by
  unfold srcV
  split
  ·exact (hns _ rfl).elim
  ·exact h0
 have hsl: ∀loc a b s,AVal.str s≠slA loc a b:=fun loc a b s e=>by
  cases loc with
  | none=>simp [slA] at e
  | some q=>obtain ⟨_,_⟩:=q;simp [slA] at e
 have hnY: ∀s,Y≠ .str s:=fun s e=>by
  subst e
  cases y<;>simp only [decS] at h0<;>first | (cases h0;done) | skip
  all_goals simp only [SimV] at hs
  ·cases hs
  ·cases hs
  ·obtain ⟨_,_,e⟩:=hs;exact hsl _ _ _ _ e
  ·obtain ⟨_,_,_,_,_,e⟩:=hs;exact hsl _ _ _ _ e
 have h1:=srcV_sound (K:=fun n ys=>n=l.length∧ys=l.flatMap (encT (.int .u8))) st hsrc hs ⟨rfl,rfl⟩
 rw [ints_enc] at h1
 simp only [szT] at h1
 cases Y<;>simp only [wSrc] at h1<;>simp only [wBytes]
 case nils=>
  have:l=[]:=List.length_eq_zero_iff.1 h1.1.symm
  subst this
  exact hk
 case ros n cs=>
  simp only [Nat.mul_one] at h1
  exact ⟨h1.1,_,h1.2.2,hk⟩
 case sl q v off n=>
  obtain ⟨k',cs,g1,g2,g3,g4⟩:=wRow_iff.1 h1
  rw [Nat.mul_one] at g2 g4
  exact wRow_iff.2 ⟨k',cs,g1,g2,_,g4,hk⟩
 case str s=>exact (hnY s rfl).elim
mutual
theorem eqB_sim: ∀ {z b:TV} {qs:List Prop} {y Y:AVal},eqB z b=some qs→AllP qs→SimV H z y→SimV H b Y→y=Y:=by
 intro z b qs y Y h hp hy hb
 unfold eqB at h
 split at h
 ·split at h<;>cases h
  rename_i hk
  have:=kEq_eq hk
  subst this
  have:=hp _ (List.mem_singleton.2 rfl)
  simp only [SimV] at hy hb
  rw [hy,hb,this]
 ·cases h
  have:=hp _ (List.mem_singleton.2 rfl)
  simp only [SimV] at hy hb
  rw [hy,hb,this]
 ·cases h
  have:=hp _ (List.mem_singleton.2 rfl)
  simp only [SimV] at hy hb
  rw [hy,hb,this]
 ·split at h<;>cases h
  rename_i he _
  subst he
  have:=hp _ (List.mem_singleton.2 rfl)
  simp only at this
  subst this
  simp only [SimV] at hy hb
  rw [hy,hb]
 ·split at h<;>cases h
  rename_i hl
  have:=beq_eq hl
  subst this
  simp only [SimV] at hy hb
  obtain ⟨h1,e1,rfl⟩:=hy
  obtain ⟨h2,e2,rfl⟩:=hb
  rw [e1] at e2;cases e2;rfl
 ·split at h<;>cases h
  rename_i hl ho
  have:=beq_eq hl
  subst this
  have:=beq_eq ho
  subst this
  simp only [SimV] at hy hb
  obtain ⟨h1,p1,v1,e1,q1,rfl⟩:=hy
  obtain ⟨h2,p2,v2,e2,q2,rfl⟩:=hb
  rw [e1] at e2;cases e2
  rw [q1] at q2;cases q2;rfl
 ·simp only [SimV] at hy hb
  obtain ⟨x1,rfl,g1⟩:=hy
  obtain ⟨x2,rfl,g2⟩:=hb
  rw [eqBL_sim h hp g1 g2]
 ·split at h
  ·rename_i hf
   have:=beq_eq hf
   subst this
   simp only [SimV] at hy hb
   obtain ⟨x1,rfl,g1⟩:=hy
   obtain ⟨x2,rfl,g2⟩:=hb
   rw [eqBL_sim h hp g1 g2]
  ·cases h
 ·cases h
theorem eqBL_sim: ∀ {z b:List TV} {qs:List Prop} {y Y:List AVal},eqBL z b=some qs→AllP qs→SimL H z y→SimL H b Y→y=Y
 | [],[],qs,y,Y,h,hp,hy,hb=>by
  simp only [SimL] at hy hb
  rw [hy,hb]
 | [],_::_,qs,y,Y,h,hp,hy,hb=>by simp [eqBL] at h
 | _::_,[],qs,y,Y,h,hp,hy,hb=>by simp [eqBL] at h
 | z::zs,b::bs,qs,y,Y,h,hp,hy,hb=>by
  simp only [eqBL] at h
  split at h
  ·rename_i ps rs h1 h2
   cases h
   simp only [SimL] at hy hb
   obtain ⟨y1,y2,rfl,g1,g2⟩:=hy
   obtain ⟨Y1,Y2,rfl,k1,k2⟩:=hb
   rw [eqB_sim h1 (fun p hp'=>hp p (List.mem_append_left _ hp')) g1 k1,eqBL_sim h2 (fun p hp'=>hp p (List.mem_append_right _ hp')) g2 k2]
  ·cases h
end
theorem evP_sound (hΓ:Cons P Γ) (st:St3 H TS S) (hF:SimF H F A) (hp:holds A path) {so:SOp} {ps:List Prop} {y:TV} (h:evP Γ ht F path TS so=some (ps,y)) (hps:AllP ps) {K:AVal→Store→Prop} (hk: ∀z,SimV H y z→K z S):
  vcOpD P A S K so:=by
 have w1: ∀ {x:Rand} {f:TV→Option (List Prop×TV)},with1 F path x f=some (ps,y)→ ∃a,f a=some (ps,y)∧SimV H a (rd A x):=fun {x f} h=>by
  unfold with1 at h
  split at h
  ·rename_i a hx;exact ⟨a,h,rdP_sim hF hp hx⟩
  ·cases h
 have w2: ∀ {x z:Rand} {f:TV→TV→Option (List Prop×TV)},with2 F path x z f=some (ps,y)→ ∃a b,f a b=some (ps,y)∧SimV H a (rd A x)∧SimV H b (rd A z):=fun {x z f} h=>by
  unfold with2 at h
  split at h
  ·rename_i a b hx hz;exact ⟨a,b,h,rdP_sim hF hp hx,rdP_sim hF hp hz⟩
  ·cases h
 have wi: ∀ {x z:Rand} {f:TV→Int→Option (List Prop×TV)},withI F path x z f=some (ps,y)→ ∃a k j,f a j=some (ps,y)∧SimV H a (rd A x)∧rd A z= .int k j:=fun {x z f} h=>by
  unfold withI at h
  split at h
  ·rename_i a b hx hz
   split at h
   ·rename_i k j hi
    exact ⟨a,k,j,h,rdP_sim hF hp hx,asI_sim hi (rdP_sim hF hp hz)⟩
   ·cases h
  ·cases h
 cases so<;>simp only [evP] at h<;>(try (cases h;done))<;>simp only [vcOpD]
 case mov x=>
  have h:(match rdP F path x with | some y=>some ([],y) | none=>none)=some (ps,y):=by
   unfold evMov at h
   split at h
   ·cases h
   ·exact h
  split at h<;>cases h
  rename_i hx
  simp only [vcOp,rdK_iff]
  exact hk _ (rdP_sim hF hp hx)
 case pick c a b=>
  unfold evPick at h
  split at h
  ·split at h
   ·rename_i gs Q c' hl
    split at h
    ·rename_i hs
     have hg:=sufx_holds hs hp
     unfold evPick1 at h
     split at h
     ·split at h
      ·rename_i hx hy
       split at h<;>cases h
       rename_i hz
       exact pickG_sound hF hl hg hx hy hz hk
      ·cases h
     ·split at h
      ·rename_i hc hx hy
       split at h<;>cases h
       rename_i hz
       exact pickQ_sound hF hp hl hg hc hx hy hz hk
      ·cases h
    ·cases h
   ·cases h
  ·cases h
 case build z parts=>
  unfold evBuild at h
  split at h
  ·rename_i cs hz
   split at h<;>cases h
   rename_i ys hf
   simp only [vcOp]
   exact fillT_sim hF hp hf (ofL_sim hz) fun ws hw=>hk _ (by simp only [SimV];exact ⟨_,rfl,hw⟩)
  ·cases h
 case bslice ro len k z parts=>
  split at h
  ·split at h<;>cases h
   rename_i t xs hl
   unfold evLit at hl
   split at hl
   ·split at hl
    ·rename_i hsz hf
     split at hl<;>cases hl
     rename_i hd
     rename_i cs hz _ _ _ _
     simp only [vcOp]
     refine fillT_sim hF hp hf (ofL_sim hz) fun ws hw=>hk _ ?_
     obtain ⟨e1,rfl⟩:=decL_sim len hd hw
     simp only [SimV,e1]
    ·cases hl
   ·cases hl
  ·cases h
 case load n ag x=>
  obtain ⟨a,h1,h2⟩:=w1 h
  simp only [vcOp,rdK_iff]
  exact load_sound' st h1 h2 hk
 case nilchk x=>
  obtain ⟨a,h1,h2⟩:=w1 h
  simp only [vcOp,rdK_iff]
  unfold evNilchk at h1
  split at h1<;>cases h1<;>have h3:=h2<;>simp only [SimV] at h2
  ·obtain ⟨xs,e,_⟩:=h2;rw [e] at h3 ⊢;exact hk _ h3
  ·obtain ⟨_,_,_,_,_,e⟩:=h2;rw [e] at h3 ⊢;exact hk _ h3
  ·obtain ⟨_,_,_,_,_,_,_,e⟩:=h2;rw [e] at h3 ⊢;exact hk _ h3
  ·obtain ⟨_,_,_,_,_,_,_,_,_,e⟩:=h2;rw [e] at h3 ⊢;exact hk _ h3
  ·obtain ⟨xs,e,_⟩:=h2;rw [e] at h3 ⊢;exact hk _ h3
 case bin q op x z=>
  obtain ⟨a,b,h1,h2,h3⟩:=w2 h
  simp only [vcOp,rdK_iff]
  exact binV_sound h1 h2 h3 hps hk
 case b2s x=>
  obtain ⟨a,h1,h2⟩:=w1 h
  simp only [vcOp,rdK_iff]
  split at h1<;>cases h1
  rename_i l hl
  exact bytes_sound st hl h2 (hk _ (by simp [SimV]))
 case again t n ag x=>
  obtain ⟨a,b,h1,h2,h3⟩:=w2 h
  split at h1
  case h_2=>cases h1
  rename_i qs z hz
  split at h1<;>cases h1
  rename_i rs hq
  simp only [vcOp,rdK_iff]
  refine load_sound' st hz h2 (fun y hy=>⟨eqB_sim hq (fun p hp=>hps p (by simp [hp])) hy h3,hk _ (by simp [SimV])⟩)
 case strid x=>
  obtain ⟨a,h1,h2⟩:=w1 h
  simp only [vcOp,rdK_iff]
  split at h1<;>cases h1
  simp only [SimV] at h2
  rw [h2]
  exact hk _ (by simp [SimV])
 case not x=>
  obtain ⟨a,h1,h2⟩:=w1 h
  simp only [vcOp,rdK_iff]
  unfold evNot at h1
  split at h1
  ·cases h1
   simp only [SimV] at h2
   rw [h2]
   exact hk _ (by simp [SimV])
  ·cases h1
   simp only [SimV] at h2
   rw [h2]
   exact hk _ (by simp [SimV])
  ·split at h1<;>cases h1
   rename_i p hp'
   exact asP_wBool hp' h2 fun b hb=>pr_sim' (K:=fun z=>K z S) (by simp [←hb]) hk
 case neg x=>
  obtain ⟨a,h1,h2⟩:=w1 h
  simp only [vcOp,rdK_iff]
  split at h1<;>simp only [Option.some.injEq,reduceCtorEq] at h1
  simp only [SimV] at h2
  rw [h2]
  have e1:=congrArg Prod.fst h1;have e2:=congrArg Prod.snd h1
  simp only at e1 e2;subst e1;subst e2
  exact mkI_sound (K:=fun z=>K z S) hps hk
 case conv k x=>
  obtain ⟨a,h1,h2⟩:=w1 h
  simp only [vcOp,rdK_iff]
  unfold convV at h1
  split at h1
  ·simp only [Option.some.injEq] at h1
   simp only [SimV] at h2
   rw [h2]
   have e1:=congrArg Prod.fst h1;have e2:=congrArg Prod.snd h1
   simp only at e1 e2;subst e1;subst e2
   exact mkI_sound (K:=fun z=>K z S) hps hk
  ·rename_i b
   simp only [SimV] at h2
   rw [h2]
   have hb:b.toNat<256:=b.toNat_lt
   split at h1
   ·cases h1
    exact ⟨⟨by omega,by omega⟩,hk _ (by simp [SimV])⟩
   ·cases h1
    simp only [wInt,wMk]
    refine hk _ ?_
    simp only [SimV,IntKind.wrap,IntKind.bits,IntKind.signed]
    have e:((b.toNat:Int)%256)=b.toNat:=by omega
    simp [e]
   ·simp only [Option.some.injEq] at h1
    have e1:=congrArg Prod.fst h1;have e2:=congrArg Prod.snd h1
    simp only at e1 e2;subst e1;subst e2
    exact mkI_sound (K:=fun z=>K z S) hps hk
  ·cases h1
 case slice k x lo hi=>
  obtain ⟨a,h1,h2⟩:=w1 h
  cases k with
  | zero=>exact slice0_sound hF hp h1 hps h2 hk
  | succ k=>exact slice1_sound st hF hp h1 hps h2 hk
 case faddr off x=>
  obtain ⟨a,h1,h2⟩:=w1 h
  simp only [vcOp,rdK_iff]
  unfold evFaddr at h1
  split at h1<;>cases h1<;>simp only [SimV] at h2
  ·obtain ⟨hd,p,v,e1,e2,e⟩:=h2
   rw [e]
   exact hk _ (by simp only [SimV];exact ⟨hd,p,v,e1,e2,rfl⟩)
  ·obtain ⟨hd,p,v,e1,e2,e3,e4,e⟩:=h2
   rw [e]
   exact hk _ (by simp only [SimV];exact ⟨hd,p,v,e1,e2,e3,e4,by rw [Nat.add_assoc]⟩)
  ·obtain ⟨hd,p,v,m,e1,e2,e3,e4,e5,e⟩:=h2
   rw [e]
   exact hk _ (by simp only [SimV];exact ⟨hd,p,v,m,e1,e2,e3,e4,e5,by rw [Nat.add_assoc]⟩)
  ·obtain ⟨xs,e,hs⟩:=h2
   rw [e]
   simp only [dropK_iff]
   exact hk _ (by simp only [SimV];exact ⟨_,rfl,hs.drop off⟩)
 case field off n ag x=>
  obtain ⟨a,h1,h2⟩:=w1 h
  simp only [vcOp,rdK_iff]
  unfold evField at h1
  split at h1
  ·simp only [SimV] at h2
   obtain ⟨xs,e,hs⟩:=h2
   rw [e]
   obtain ⟨zs,g1,g2⟩:=partV_sound (K:=fun z=>K z S) h1 hk
   obtain ⟨ys,q1,q2⟩:=(hs.drop off).takeG g1
   simp only [dropK_iff,takeK_iff]
   exact ⟨ys,q1,g2 _ q2⟩
  ·cases h1
 case iaddr k ar x i=>
  split at h
  ·obtain ⟨a,kk,j,h1,h2,h3⟩:=wi h
   simp only [vcOp,rdK_iff,h3,wIdx]
   unfold evIaddr at h1
   split at h1
   ·rename_i t l
    split at h1<;>cases h1
    rename_i hz
    have g1:=hps.cons
    have g2:=g1.2.cons
    simp only [SimV] at h2
    rw [h2]
    have hsz:=beq_eq hz
    refine ⟨j.toNat,by have:=g1.1;omega,by have:=g2.1;have:=g1.1;omega,?_⟩
    obtain ⟨hi,e⟩:=gt_get (d:=zT t) g1.1 g2.1
    refine ⟨encT t l[j.toNat],by rw [←hsz];exact take_flat0 (encT_length t) hi,hk _ ?_⟩
    simp only [SimV]
    exact ⟨_,rfl,by rw [e];exact cellsT_sim t _⟩
   ·rename_i l
    split at h1
    ·rename_i t ls ho
     split at h1<;>cases h1
     rename_i hz
     have g1:=hps.cons
     have g2:=g1.2.cons
     have hsz:=beq_eq hz
     simp only [SimV] at h2
     obtain ⟨hd,e1,e⟩:=h2
     obtain ⟨loc,q1,q2⟩:=row_get st ho
     rw [q1] at e1;cases e1
     cases loc with
     | none=>
      simp only [RowAt] at q2;subst q2
      have:=g1.1;have:=g2.1
      simp only [List.length_nil] at this
      omega
     | some q=>
      obtain ⟨p,v⟩:=q
      rw [e]
      simp only [slA]
      refine ⟨j.toNat,by have:=g1.1;omega,by have:=g2.1;have:=g1.1;omega,wRow_iff.2 ⟨_,_,q2,.inl hsz,hk _ ?_⟩⟩
      simp only [SimV]
      exact ⟨_,p,v,q1,rfl,g1.1,g2.1,by rw [hsz];simp⟩
    ·rename_i t ls ho
     split at h1<;>cases h1
     rename_i hz
     have g1:=hps.cons
     have g2:=g1.2.cons
     have hsz:=beq_eq hz
     simp only [SimV] at h2
     obtain ⟨hd,e1,e⟩:=h2
     obtain ⟨p,v,sub,q1,q2,q3⟩:=drow_get st ho
     rw [q1] at e1;cases e1
     rw [e]
     simp only [slA]
     refine ⟨j.toNat,by have:=g1.1;omega,by have:=g2.1;have:=g1.1;omega,wRow_iff.2 ⟨_,_,q2,.inl hsz,hk _ ?_⟩⟩
     simp only [SimV]
     exact ⟨_,p,v,q1,rfl,g1.1,g2.1,by rw [←hsz];simp⟩
    ·cases h1
   ·rename_i l i'
    split at h1
    ·rename_i t ls ho
     split at h1<;>cases h1
     rename_i hz
     have g1:=hps.cons
     have g2:=g1.2.cons
     have hsz:=beq_eq hz
     simp only [SimV] at h2
     obtain ⟨hd,q,e1,e2,e3,e⟩:=h2
     obtain ⟨p,v,sub,q1,q2,q3⟩:=drow_get st ho
     rw [q1] at e1;cases e1
     obtain ⟨r1,r2,r3⟩:=sub_row q3 e2 e3
     obtain ⟨loc,m⟩:=q
     have:=g1.1;have:=g2.1
     simp only at r2 r3
     cases loc with
     | none=>
      simp only [RowAt] at r3
      rw [r3] at this
      simp only [List.length_nil] at this
      omega
     | some pv=>
      obtain ⟨p2,v2⟩:=pv
      rw [e]
      simp only [slA]
      refine ⟨j.toNat,by omega,by omega,wRow_iff.2 ⟨_,_,r3,.inl hsz,hk _ ?_⟩⟩
      simp only [SimV]
      exact ⟨_,p2,v2,m,q1,e2,e3,by omega,by omega,by simp⟩
    ·cases h1
   ·rename_i l off len
    split at h1
    ·rename_i t ls ho
     split at h1<;>cases h1
     rename_i hz
     have g1:=hps.cons
     have g2:=g1.2.cons
     have hsz:=beq_eq hz
     simp only [SimV] at h2
     obtain ⟨hd,e1,e2,e3,e4,e⟩:=h2
     obtain ⟨loc,q1,q2⟩:=row_get st ho
     rw [q1] at e1;cases e1
     simp only at e4
     have:=g1.1;have:=g2.1
     cases loc with
     | none=>
      simp only [RowAt] at q2;subst q2
      simp only [List.length_nil] at e4
      omega
     | some q=>
      obtain ⟨p,v⟩:=q
      rw [e]
      simp only [slA]
      refine ⟨j.toNat,by omega,by omega,wRow_iff.2 ⟨_,_,q2,.inl hsz,hk _ ?_⟩⟩
      simp only [SimV]
      refine ⟨_,p,v,q1,rfl,by omega,by simp only;omega,?_⟩
      rw [hsz,show (off+j).toNat=off.toNat+j.toNat by omega,Nat.add_mul,Nat.add_zero]
    ·cases h1
   ·cases h1
  ·cases h
 case index k ar ag x i=>
  obtain ⟨a,kk,j,h1,h2,h3⟩:=wi h
  simp only [vcOp,rdK_iff,h3,wIdx]
  unfold evIndex at h1
  split at h1
  ·split at h1<;>cases h1
   rename_i s
   have g1:=hps.cons
   have g2:=g1.2.cons
   simp only [SimV] at h2
   rw [h2]
   obtain ⟨hi,e⟩:=gt_get (d:=(default:UInt8)) g1.1 g2.1
   refine ⟨j.toNat,by have:=g1.1;omega,s[j.toNat],List.getElem?_eq_getElem hi,hk _ ?_⟩
   simp only [SimV]
   rw [←e]
  ·split at h1
   ·split at h1<;>cases h1
    rename_i hpk
    have g1:=hps.cons
    have g2:=g1.2.cons
    simp only [SimV] at h2
    obtain ⟨xs,e,hs⟩:=h2
    rw [e]
    obtain ⟨ys,q1,q2⟩:=pickN_sound hs _ 0 hpk g1.1 (by have:=g2.1;omega) hk
    exact ⟨j.toNat,by have:=g1.1;omega,by have:=g2.1;have:=g1.1;omega,ys,q1,q2⟩
   ·cases h1
 case len str x=>
  obtain ⟨a,h1,h2⟩:=w1 h
  simp only [vcOp,rdK_iff]
  unfold evLen at h1
  split at h1
  ·cases h1;simp only [SimV] at h2;rw [h2];exact hk _ (by simp [SimV])
  ·cases h1;simp only [SimV] at h2;rw [h2];exact hk _ (by simp [SimV])
  ·split at h1<;>cases h1
   rename_i ho
   simp only [SimV] at h2
   obtain ⟨hd,e1,e⟩:=h2
   obtain ⟨loc,q1,q2⟩:=row_get st ho
   rw [q1] at e1;cases e1
   rw [e]
   cases loc with
   | none=>simp only [RowAt] at q2;subst q2;exact hk _ (by simp [SimV])
   | some q=>exact hk _ (by simp [SimV])
   rename_i ho
   simp only [SimV] at h2
   obtain ⟨hd,e1,e⟩:=h2
   obtain ⟨p,v,sub,q1,q2,q3⟩:=drow_get st ho
   rw [q1] at e1;cases e1
   rw [e]
   exact hk _ (by simp [SimV])
  ·split at h1<;>cases h1
   rename_i ho
   simp only [SimV] at h2
   obtain ⟨hd,q,e1,e2,e3,e⟩:=h2
   obtain ⟨p,v,sub,q1,q2,q3⟩:=drow_get st ho
   rw [q1] at e1;cases e1
   obtain ⟨r1,r2,r3⟩:=sub_row q3 e2 e3
   obtain ⟨loc,m⟩:=q
   simp only at r2 r3 e
   rw [e]
   cases loc with
   | none=>
    simp only [RowAt] at r3
    exact hk _ (by simp [SimV,r3])
   | some pv=>exact hk _ (by simp [SimV,r2])
  ·cases h1
   simp only [SimV] at h2
   obtain ⟨hd,e1,e2,e3,e4,e⟩:=h2
   rw [e]
   cases hl:hd.loc with
   | none=>
    have:=st.noloc e1 hl
    simp only [slA]
    refine hk _ ?_
    simp only [SimV]
    congr 1
    omega
   | some q=>
    refine hk _ ?_
    simp only [SimV]
    congr 1
    omega
  ·cases h1;simp only [SimV] at h2;rw [h2];exact hk _ (by simp [SimV])
  ·cases h1
 case min xs=>
  unfold withL at h
  split at h
  ·rename_i ys hy
   have hs:=rdPs_sim hF hp hy
   unfold evMM at h
   split at h
   ·split at h<;>cases h
    rename_i hm
    simp only [SimL,SimV] at hs
    obtain ⟨z,zs,e,rfl,hs⟩:=hs
    simp only [vcOp,rdsK_iff,e]
    exact minV_sound (K:=fun z=>K z S) _ _ hm hs hk
   ·cases h
  ·cases h
 case max xs=>
  unfold withL at h
  split at h
  ·rename_i ys hy
   have hs:=rdPs_sim hF hp hy
   unfold evMM at h
   split at h
   ·split at h<;>cases h
    rename_i hm
    simp only [SimL,SimV] at hs
    obtain ⟨z,zs,e,rfl,hs⟩:=hs
    simp only [vcOp,rdsK_iff,e]
    exact maxV_sound (K:=fun z=>K z S) _ _ hm hs hk
   ·cases h
  ·cases h
 case slice3 k x hh m=>
  unfold with1 at h
  split at h
  ·rename_i y hy
   dsimp only at h
   unfold with2 at h
   split at h
   ·rename_i a b ha hb
    dsimp only at h
    split at h
    ·rename_i k1 n k2 n' hn hn'
     split at h
     ·rename_i l
      split at h
      ·rename_i t ls ho
       split at h<;>cases h
       rename_i hz hkk
       have hkk:=kEq_eq hkk
       subst hkk
       have h1:=hps.cons
       have h2:=h1.2.cons
       have h3:=h2.2.cons
       have g1:=h1.1
       have g2:=h2.1
       have g3:=h3.1
       have hx:=rdP_sim hF hp hy
       simp only [SimV] at hx
       obtain ⟨hd,e1,e2⟩:=hx
       obtain ⟨loc,q1,q2⟩:=row_get st ho
       rw [q1] at e1;cases e1
       simp only [vcOp,rdK_iff,e2,asI_sim hn (rdP_sim hF hp ha),asI_sim hn' (rdP_sim hF hp hb),wIdx]
       refine ⟨n.toNat,by omega,by rw [g1],?_⟩
       cases loc with
       | none=>
        simp only [RowAt] at q2
        subst q2
        simp only [List.length_nil] at g3
        refine ⟨by omega,hk _ ?_⟩
        simp only [SimV]
        exact ⟨_,q1,by omega,g2,by simp only [List.length_nil];omega,rfl⟩
       | some pv=>
        obtain ⟨p,v⟩:=pv
        refine ⟨by omega,wRow_iff.2 ⟨_,_,q2,beq_eq hz,hk _ ?_⟩⟩
        simp only [SimV]
        exact ⟨_,q1,by omega,g2,by simp only;omega,by simp [slA]⟩
      ·cases h
     ·cases h
    ·cases h
   ·cases h
  ·cases h
 case mkif t x=>
  unfold with1 at h
  split at h
  ·rename_i y hy
   dsimp only at h
   split at h<;>cases h
   have hs:=rdP_sim hF hp hy
   simp only [SimV] at hs
   obtain ⟨hd,e1,e2⟩:=hs
   simp only [vcOp,rdK_iff,e2]
   exact hk _ (by simp only [SimV];exact ⟨_,e1,rfl⟩)
  ·cases h
 case mkfunc f first cap=>
  unfold evFunc at h
  split at h
  ·split at h<;>cases h
   rename_i hy
   have hs:=rdPs_sim hF hp hy
   simp only [vcOp,rdsK_iff,List.map_nil]
   exact hk _ (by simp only [SimV];exact ⟨_,rfl,hs⟩)
  ·cases h
 case ext k xs=>
  unfold withL at h
  split at h
  ·rename_i ys hy
   have hs:=rdPs_sim hF hp hy
   unfold evExt at h
   split at h
   ·rename_i s c
    split at h
    ·rename_i b hb
     simp only [SimL,SimV] at hs
     obtain ⟨z,zs,e,rfl,u,us,rfl,h2,rfl⟩:=hs
     have e2: ∃n:Int,u= .int .u8 n∧n.toNat.toUInt8=b:=by
      unfold asBy at hb
      split at hb<;>cases hb
      ·simp only [SimV] at h2
       exact ⟨_,h2,by simp⟩
      ·simp only [SimV] at h2
       exact ⟨_,h2,rfl⟩
     obtain ⟨n,rfl,rfl⟩:=e2
     simp only [vcOp,rdsK_iff,e]
     cases k<;>simp only [Option.some.injEq,Prod.mk.injEq] at h<;>obtain ⟨rfl,rfl⟩:=h<;>simp only [vcExt]<;>exact hk _ (by simp only [SimV])
    ·cases h
   ·cases h
  ·cases h
 case extract x i=>
  obtain ⟨a,h1,h2⟩:=w1 h
  simp only [vcOp,rdK_iff]
  unfold evExtract at h1
  split at h1
  ·rename_i xs
   simp only [SimV] at h2
   obtain ⟨ys,e,hs⟩:=h2
   rw [e]
   simp only [dropK_iff]
   have hd:=hs.drop i
   split at h1<;>cases h1
   rename_i r he
   rw [he] at hd
   simp only [SimL] at hd
   obtain ⟨z,zs,e2,h3,_⟩:=hd
   rw [e2]
   exact hk _ h3
  ·cases h1
 case call f args=>
  unfold withL at h
  split at h
  ·rename_i ys hy
   have hs:=rdPs_sim hF hp hy
   unfold evCall at h
   split at h
   ·rename_i ct hc
    split at h<;>cases h
    rename_i hv hd hf
    obtain ⟨r0,g1,g2⟩:=con_det (hΓ.look hc) st hd hps.cons.1 hs hf hv
    simp only [rdsK_iff]
    exact ⟨r0,g2,hk _ g1⟩
   ·cases h
  ·cases h
 case callv x args=>
  obtain ⟨a,h1,h2⟩:=w1 h
  simp only [rdK_iff]
  split at h1
  ·rename_i f cap
   simp only [SimV] at h2
   obtain ⟨ys,e,hc⟩:=h2
   rw [e]
   unfold withL at h1
   split at h1
   ·rename_i xs hx
    have hs:=(rdPs_sim hF hp hx).append hc
    unfold evCall at h1
    split at h1
    ·rename_i ct hct
     dsimp only at h1
     split at h1<;>cases h1
     rename_i hv hd hf
     obtain ⟨r0,g1,g2⟩:=con_det (hΓ.look hct) st hd hps.cons.1 hs hf hv
     simp only [rdsK_iff]
     exact ⟨trivial,r0,g2,hk _ g1⟩
    ·cases h1
   ·cases h1
  ·cases h1
end
end Go.Vc
end
section
namespace Go.Vc
theorem wSet_iff' {S:Store} {l:Nat} {o:Ob} {K:Store→Prop} (h:l<S.length) (hk:K (S.set l o)):wSet S l o K:=wSet_iff.2 ⟨h,hk⟩
theorem over_append: ∀(a rest ys:List AVal),ys.length≤a.length→over (a++rest) ys=over a ys++rest
 | [],rest,ys,h=>by
  have:ys=[]:=List.length_eq_zero_iff.1 (by simpa using h)
  subst this
  cases rest<;>rfl
 | x::a,rest,[],h=>rfl
 | x::a,rest,y::ys,h=>by
  simp only [List.cons_append,over]
  rw [over_append a rest ys (by simpa using h)]
theorem setCells_all {xs ys:List AVal} (h:ys.length=xs.length):setCells xs 0 ys=ys:=by
 have e: ∀(xs ys:List AVal),ys.length=xs.length→over xs ys=ys:=by
  intro xs
  induction xs with
  | nil=>intro ys h;cases ys with | nil=>rfl | cons=>simp at h
  | cons x xs ih=>intro ys h;cases ys with | nil=>simp at h | cons y ys=>simp only [over];rw [ih ys (by simpa using h)]
 cases xs with
 | nil=>cases ys with | nil=>rfl | cons=>simp at h
 | cons x xs=>exact e _ _ h
theorem setCells_append: ∀(a:List AVal) (n:Nat) (rest ys:List AVal),n+ys.length≤a.length→setCells (a++rest) n ys=setCells a n ys++rest
 | a,0,rest,ys,h=>by
  have e1: ∀b,setCells b 0 ys=over b ys:=fun b=>by cases b<;>rfl
  rw [e1,e1,over_append a rest ys (by omega)]
 | [],n+1,rest,ys,h=>by simp at h
 | x::a,n+1,rest,ys,h=>by
  simp only [List.cons_append,setCells]
  rw [setCells_append a n rest ys (by simp at h;omega)]
theorem setCells_skip: ∀(a:List AVal) (n:Nat) (rest ys:List AVal),setCells (a++rest) (a.length+n) ys=a++setCells rest n ys
 | [],n,rest,ys=>by simp
 | x::a,n,rest,ys=>by
  rw [List.cons_append,List.length_cons,show a.length+1+n=(a.length+n)+1 by omega]
  simp only [setCells]
  rw [setCells_skip a n rest ys,List.cons_append]
theorem setCells_flat {α:Type} {enc:α→List AVal} {k:Nat} (hk: ∀x,(enc x).length=k): ∀(ls:List α) (i:Nat) (hi:i<ls.length) (fo:Nat) (ys:List AVal) (x:α),fo+ys.length≤k→setCells (enc ls[i]) fo ys=enc x→
  setCells (ls.flatMap enc) (i*k+fo) ys=(ls.set i x).flatMap enc
 | [],i,hi,fo,ys,x,h,e=>by simp at hi
 | a::ls,0,hi,fo,ys,x,h,e=>by
  simp only [List.flatMap_cons,List.set_cons_zero,Nat.zero_mul,Nat.zero_add]
  rw [setCells_append _ _ _ _ (by rw [hk];omega)]
  simp only [List.getElem_cons_zero] at e
  rw [e]
 | a::ls,i+1,hi,fo,ys,x,h,e=>by
  simp only [List.flatMap_cons,List.set_cons_succ]
  rw [show (i+1)*k+fo=(enc a).length+(i*k+fo) by rw [hk,Nat.add_mul];omega,setCells_skip]
  rw [setCells_flat hk ls i (by simpa using hi) fo ys x h (by simpa using e)]
def HAt (H:HF) (l:Nat) (hd:Hd):HF:=fun m=>if m=l then some hd else H m
theorem HAt_self {H:HF} {l:Nat} {hd:Hd}:HAt H l hd l=some hd:=by simp [HAt]
mutual
theorem kill_sim {H H':HF} {l:Nat} (hl: ∀m,m≠l→H' m=H m): ∀ {x:TV} {y:AVal},SimV H x y→SimV H' (killV l x) y
 | .junk,_,_=>by simp [killV,SimV]
 | .tt,_,h=>by simpa [killV,SimV] using h
 | .ff,_,h=>by simpa [killV,SimV] using h
 | .bb _,_,h=>by simpa [killV,SimV] using h
 | .pr _,_,h=>by simpa [killV,SimV] using h
 | .gd _,_,h=>by simpa [killV,SimV] using h
 | .int _ _,_,h=>by simpa [killV,SimV] using h
 | .byte _,_,h=>by simpa [killV,SimV] using h
 | .str _,_,h=>by simpa [killV,SimV] using h
 | .nilp,_,h=>by simpa [killV,SimV] using h
 | .nilf,_,h=>by simpa [killV,SimV] using h
 | .nilm,_,h=>by simpa [killV,SimV] using h
 | .nili,_,h=>by simpa [killV,SimV] using h
 | .cst _,_,h=>by simpa [killV,SimV] using h
 | .nils,_,h=>by simpa [killV,SimV] using h
 | .ros _ _,_,h=>by simpa [killV,SimV] using h
 | .ptr m off,_,h=>by
  simp only [killV]
  split
  ·simp [SimV]
  ·rename_i hb
   have:m≠l:=fun e=>by subst e;simp at hb
   simpa only [SimV,hl m this] using h
 | .eptr m i fo,_,h=>by
  simp only [killV]
  split
  ·simp [SimV]
  ·rename_i hb
   have:m≠l:=fun e=>by subst e;simp at hb
   simpa only [SimV,hl m this] using h
 | .slf m,_,h=>by
  simp only [killV]
  split
  ·simp [SimV]
  ·rename_i hb
   have:m≠l:=fun e=>by subst e;simp at hb
   simpa only [SimV,hl m this] using h
 | .sl m _ _,_,h=>by
  simp only [killV]
  split
  ·simp [SimV]
  ·rename_i hb
   have:m≠l:=fun e=>by subst e;simp at hb
   simpa only [SimV,hl m this] using h
 | .inn m i,_,h=>by
  simp only [killV]
  split
  ·simp [SimV]
  ·rename_i hb
   have:m≠l:=fun e=>by subst e;simp at hb
   simpa only [SimV,hl m this] using h
 | .ieptr m i j k fo,_,h=>by
  simp only [killV]
  split
  ·simp [SimV]
  ·rename_i hb
   have:m≠l:=fun e=>by subst e;simp at hb
   simpa only [SimV,hl m this] using h
 | .ifs _ m,_,h=>by
  simp only [killV]
  split
  ·simp [SimV]
  ·rename_i hb
   have:m≠l:=fun e=>by subst e;simp at hb
   simpa only [SimV,hl m this] using h
 | .rop cs,_,h=>by
  simp only [killV,SimV] at*
  obtain ⟨xs,h1,h2⟩:=h
  exact ⟨xs,h1,killL_sim hl h2⟩
 | .agg cs,_,h=>by
  simp only [killV,SimV] at*
  obtain ⟨xs,h1,h2⟩:=h
  exact ⟨xs,h1,killL_sim hl h2⟩
 | .tup cs,_,h=>by
  simp only [killV,SimV] at*
  obtain ⟨xs,h1,h2⟩:=h
  exact ⟨xs,h1,killL_sim hl h2⟩
 | .fn f cs,_,h=>by
  simp only [killV,SimV] at*
  obtain ⟨xs,h1,h2⟩:=h
  exact ⟨xs,h1,killL_sim hl h2⟩
theorem killL_sim {H H':HF} {l:Nat} (hl: ∀m,m≠l→H' m=H m): ∀ {x:List TV} {y:List AVal},SimL H x y→SimL H' (killL l x) y
 | [],_,h=>by simpa [killL,SimL] using h
 | x::xs,_,h=>by
  simp only [killL,SimL] at*
  obtain ⟨y,zs,h1,h2,h3⟩:=h
  exact ⟨y,zs,h1,kill_sim hl h2,killL_sim hl h3⟩
end
theorem killL_length {l:Nat}: ∀xs:List TV,(killL l xs).length=xs.length
 | []=>rfl
 | x::xs=>by simp [killL,killL_length xs]
theorem look_kill {l:Nat}: ∀ {F:RF} {s:Nat} {gs:List (Nat×Bool)} {P:Prop} {x:TV},lookN (killF l F) s=some (gs,P,x)→ ∃x0,lookN F s=some (gs,P,x0)∧x=killV l x0
 | [],s,gs,P,x,h=>by simp [killF,lookN] at h
 | (t,g,q,z)::F,s,gs,P,x,h=>by
  simp only [killF,lookN] at h ⊢
  split at h
  ·cases h;exact ⟨z,rfl,rfl⟩
  ·exact look_kill h
theorem SimF.kill {H H':HF} {l:Nat} (hl: ∀m,m≠l→H' m=H m) {F:RF} {A:Frame} (h:SimF H F A):SimF H' (killF l F) A:=fun s gs P x hx=>by
 obtain ⟨x0,h1,rfl⟩:=look_kill hx
 have e:=h _ _ _ _ h1
 exact ⟨fun q=>kill_sim hl (e.on q),e.off,e.iff⟩
theorem SimG.kill {H H':HF} {l:Nat} (hl: ∀m,m≠l→H' m=H m) {G:List RF} {AG:List Frame} (h:SimG H G AG):SimG H' (killG l G) AG:=by
 induction h with
 | nil=>exact .nil
 | cons h _ ih=>exact .cons (h.kill hl) ih
def killB (l:Nat):TOb→TOb
 | .cells k cs=>.cells k (killL l cs)
 | o=>o
theorem killO_map (l:Nat): ∀TS:List TOb,killO l TS=TS.map (killB l)
 | []=>rfl
 | o::TS=>by cases o<;>simp [killO,killB,killO_map l TS]
theorem obj_lt {TS:List TOb} {l:Nat} {o:TOb} (h:objAt TS l=some o):l<TS.length:=by
 rw [objAt_eq] at h
 exact (List.getElem?_eq_some_iff.1 h).1
theorem St3.anew {H:HF} {TS:List TOb} {S S':Store} (st:St3 H TS S) {l:Nat} (hl:l<TS.length) {o:TOb} {hd:Hd} (ho:ObS (HAt H l hd) S' l o) (hS: ∀m h p v,m≠l→H m=some h→h.loc=some (p,v)→S'[p]?=S[p]?)
  (hT: ∀(m:Nat) (h:Hd) (i p v n:Nat),m≠l→H m=some h→h.sub[i]?=some (some (p,v),n)→S'[p]?=S[p]?∧ ∀v',hd.loc≠some (p,v')) (hd0:hd.sub=[])
  (hn: ∀m h p v v',m≠l→H m=some h→h.loc=some (p,v)→hd.loc=some (p,v')→False):St3 (HAt H l hd) ((TS.map (killB l)).set l o) S':=by
 have he: ∀m,m≠l→HAt H l hd m=H m:=fun m hm=>by simp [HAt,hm]
 refine ⟨fun m o' hm=>?_,fun m hm=>?_,fun m m' h h' p v v' e1 e2 e3 e4=>?_,fun m i h p v n e1 e2=>?_⟩
 ·by_cases e:m=l
  ·subst e
   rw [List.getElem?_set_self (by simpa using hl)] at hm
   cases hm
   exact ho
  ·rw [List.getElem?_set_ne (Ne.symm e),List.getElem?_map] at hm
   cases hx:TS[m]? with
   | none=>rw [hx] at hm;cases hm
   | some o0=>
    rw [hx] at hm
    simp at hm
    subst hm
    have:=st.ob m o0 hx
    cases o0 with
    | dead=>simp only [killB,ObS] at*;rw [he m e];exact this
    | cells k cs=>
     obtain ⟨p,v,xs,q1,q2,q3⟩:=this
     exact ⟨p,v,xs,by rw [he m e,q1,killL_length],by rw [hS m _ p v e q1 rfl];exact q2,killL_sim he q3⟩
    | row t ls=>
     obtain ⟨loc,q1,q2⟩:=this
     refine ⟨loc,by rw [he m e,q1],?_⟩
     cases loc with
     | none=>exact q2
     | some q=>simp only [RowAt] at*;rw [hS m _ q.1 q.2 e q1 rfl];exact q2
    | drow t ls=>
     obtain ⟨p,v,sub,q1,q2,q3⟩:=this
     exact ⟨p,v,sub,by rw [he m e,q1],by rw [hS m _ p v e q1 rfl];exact q2,q3.ext fun p' x ⟨i,v',n,hi⟩ hp=>by rw [(hT m _ i p' v' n e q1 hi).1];exact hp⟩
 ·simp at hm
  rw [he m (by omega)]
  exact st.out m hm
 ·by_cases a:m=l<;>by_cases b:m'=l
  ·rw [a,b]
  ·subst a
   rw [he m' b] at e2
   simp [HAt] at e1
   subst e1
   exact (hn _ _ _ _ _ b e2 e4 e3).elim
  ·subst b
   rw [he m a] at e1
   simp [HAt] at e2
   subst e2
   exact (hn _ _ _ _ _ a e1 e3 e4).elim
  ·rw [he m a] at e1
   rw [he m' b] at e2
   exact st.inj _ _ _ _ _ _ _ e1 e2 e3 e4
 ·have no: ∀ {m i:Nat} {h:Hd} {p v n:Nat},HAt H l hd m=some h→h.sub[i]?=some (some (p,v),n)→m≠l∧H m=some h:=fun {m i h p v n} e1 e2=>by
   by_cases a:m=l
   ·subst a
    simp [HAt] at e1
    subst e1
    rw [hd0] at e2
    simp at e2
   ·rw [he m a] at e1;exact ⟨a,e1⟩
  obtain ⟨a,e1⟩:=no e1 e2
  obtain ⟨g1,g2,g3⟩:=st.sub m i h p v n e1 e2
  obtain ⟨k1,k2⟩:=hT m h i p v n a e1 e2
  refine ⟨?_,fun m' h' v' q1 q2=>?_,fun m' i' h' v' n' q1 q2=>?_⟩
  ·rw [List.getElem?_eq_getElem g1] at k1
   exact (List.getElem?_eq_some_iff.1 k1).1
  ·by_cases b:m'=l
   ·subst b
    simp [HAt] at q1
    subst q1
    exact k2 _ q2
   ·rw [he m' b] at q1;exact g2 _ _ _ q1 q2
  ·obtain ⟨_,q1⟩:=no q1 q2
   exact g3 _ _ _ _ _ q1 q2
theorem St3.put {H:HF} {TS:List TOb} {S:Store} (st:St3 H TS S) {l p:Nat} {o:TOb} {b:Ob} {hd:Hd} {v:Nat} (hl:l<TS.length) (hh:H l=some hd) (hp:hd.loc=some (p,v)) (ho:ObS H (S.set p b) l o):St3 H (TS.set l o) (S.set p b):=by
 refine ⟨fun m o' hm=>?_,fun m hm=>st.out m (by simpa using hm),st.inj,fun m i h p' v' n e1 e2=>by rw [List.length_set];exact st.sub m i h p' v' n e1 e2⟩
 by_cases e:m=l
 ·subst e
  rw [List.getElem?_set_self hl] at hm
  cases hm
  exact ho
 ·rw [List.getElem?_set_ne (Ne.symm e)] at hm
  have:=st.ob m o' hm
  have keep: ∀q w hd',H m=some hd'→hd'.loc=some (q,w)→(S.set p b)[q]?=S[q]?:=fun q w hd' g1 g2=>by
   rw [List.getElem?_set_ne]
   intro e2
   subst e2
   exact e (st.inj _ _ _ _ _ _ _ g1 hh g2 hp)
  cases o' with
  | dead=>exact this
  | cells k cs=>
   obtain ⟨q,w,xs,q1,q2,q3⟩:=this
   exact ⟨q,w,xs,q1,by rw [keep q w _ q1 rfl];exact q2,q3⟩
  | row t ls=>
   obtain ⟨loc,q1,q2⟩:=this
   refine ⟨loc,q1,?_⟩
   cases loc with
   | none=>exact q2
   | some q=>simp only [RowAt] at*;rw [keep q.1 q.2 _ q1 rfl];exact q2
  | drow t ls=>
   obtain ⟨q,w,sub,q1,q2,q3⟩:=this
   refine ⟨q,w,sub,q1,by rw [keep q w _ q1 rfl];exact q2,q3.ext fun p' x ⟨i,v',n,hi⟩ hp'=>?_⟩
   rw [List.getElem?_set_ne]
   ·exact hp'
   ·intro e2
    subst e2
    exact (st.sub m i _ _ v' n q1 hi).2.1 l hd v hh hp
theorem St3.putSub {H:HF} {TS:List TOb} {S:Store} (st:St3 H TS S) {l p i n:Nat} {o:TOb} {b:Ob} {hd:Hd} {v:Nat} (hl:l<TS.length) (hh:H l=some hd) (hp:hd.sub[i]?=some (some (p,v),n)) (ho:ObS H (S.set p b) l o):St3 H (TS.set l o) (S.set p b):=by
 obtain ⟨k1,k2,k3⟩:=st.sub l i hd p v n hh hp
 refine ⟨fun m o' hm=>?_,fun m hm=>st.out m (by simpa using hm),st.inj,fun m i h p' v' n e1 e2=>by rw [List.length_set];exact st.sub m i h p' v' n e1 e2⟩
 by_cases e:m=l
 ·subst e
  rw [List.getElem?_set_self hl] at hm
  cases hm
  exact ho
 ·rw [List.getElem?_set_ne (Ne.symm e)] at hm
  have:=st.ob m o' hm
  have keep: ∀q w hd',H m=some hd'→hd'.loc=some (q,w)→(S.set p b)[q]?=S[q]?:=fun q w hd' g1 g2=>by
   rw [List.getElem?_set_ne]
   intro e2
   subst e2
   exact k2 _ _ _ g1 g2
  cases o' with
  | dead=>exact this
  | cells k cs=>
   obtain ⟨q,w,xs,q1,q2,q3⟩:=this
   exact ⟨q,w,xs,q1,by rw [keep q w _ q1 rfl];exact q2,q3⟩
  | row t ls=>
   obtain ⟨loc,q1,q2⟩:=this
   refine ⟨loc,q1,?_⟩
   cases loc with
   | none=>exact q2
   | some q=>simp only [RowAt] at*;rw [keep q.1 q.2 _ q1 rfl];exact q2
  | drow t ls=>
   obtain ⟨q,w,sub,q1,q2,q3⟩:=this
   refine ⟨q,w,sub,q1,by rw [keep q w _ q1 rfl];exact q2,q3.ext fun p' x ⟨i',v',n',hi⟩ hp'=>?_⟩
   rw [List.getElem?_set_ne]
   ·exact hp'
   ·intro e2
    subst e2
    exact e (k3 _ _ _ _ _ q1 hi).1
mutual
theorem killI_sim {H H':HF} {l:Nat} (hl: ∀m,m≠l→H' m=H m) (hh: ∀h,H l=some h→ ∃s,H' l=some ⟨h.loc,h.k,h.len,s⟩): ∀ {x:TV} {y:AVal},SimV H x y→SimV H' (killIV l x) y
 | .junk,_,_=>by simp [killIV,SimV]
 | .tt,_,h=>by simpa [killIV,SimV] using h
 | .ff,_,h=>by simpa [killIV,SimV] using h
 | .bb _,_,h=>by simpa [killIV,SimV] using h
 | .pr _,_,h=>by simpa [killIV,SimV] using h
 | .gd _,_,h=>by simpa [killIV,SimV] using h
 | .int _ _,_,h=>by simpa [killIV,SimV] using h
 | .byte _,_,h=>by simpa [killIV,SimV] using h
 | .str _,_,h=>by simpa [killIV,SimV] using h
 | .nilp,_,h=>by simpa [killIV,SimV] using h
 | .nilf,_,h=>by simpa [killIV,SimV] using h
 | .nilm,_,h=>by simpa [killIV,SimV] using h
 | .nili,_,h=>by simpa [killIV,SimV] using h
 | .cst _,_,h=>by simpa [killIV,SimV] using h
 | .nils,_,h=>by simpa [killIV,SimV] using h
 | .ros _ _,_,h=>by simpa [killIV,SimV] using h
 | .ptr m off,_,h=>by
  simp only [killIV]
  by_cases e:m=l
  ·subst e
   simp only [SimV] at*
   obtain ⟨hd,p,v,h1,h2,h3⟩:=h
   obtain ⟨s,hs⟩:=hh _ h1
   exact ⟨_,p,v,hs,h2,h3⟩
  ·simpa only [SimV,hl m e] using h
 | .eptr m i fo,_,h=>by
  simp only [killIV]
  by_cases e:m=l
  ·subst e
   simp only [SimV] at*
   obtain ⟨hd,p,v,h1,h2,h3⟩:=h
   obtain ⟨s,hs⟩:=hh _ h1
   exact ⟨_,p,v,hs,h2,h3⟩
  ·simpa only [SimV,hl m e] using h
 | .slf m,_,h=>by
  simp only [killIV]
  by_cases e:m=l
  ·subst e
   simp only [SimV] at*
   obtain ⟨hd,h1,h2⟩:=h
   obtain ⟨s,hs⟩:=hh _ h1
   exact ⟨_,hs,h2⟩
  ·simpa only [SimV,hl m e] using h
 | .sl m _ _,_,h=>by
  simp only [killIV]
  by_cases e:m=l
  ·subst e
   simp only [SimV] at*
   obtain ⟨hd,h1,h2⟩:=h
   obtain ⟨s,hs⟩:=hh _ h1
   exact ⟨_,hs,h2⟩
  ·simpa only [SimV,hl m e] using h
 | .inn m i,_,h=>by
  simp only [killIV]
  split
  ·simp [SimV]
  ·rename_i hb
   have:m≠l:=fun e=>by subst e;simp at hb
   simpa only [SimV,hl m this] using h
 | .ieptr m i j k fo,_,h=>by
  simp only [killIV]
  split
  ·simp [SimV]
  ·rename_i hb
   have:m≠l:=fun e=>by subst e;simp at hb
   simpa only [SimV,hl m this] using h
 | .ifs _ m,_,h=>by
  simp only [killIV]
  split
  ·simp [SimV]
  ·rename_i hb
   have:m≠l:=fun e=>by subst e;simp at hb
   simpa only [SimV,hl m this] using h
 | .rop cs,_,h=>by
  simp only [killIV,SimV] at*
  obtain ⟨xs,h1,h2⟩:=h
  exact ⟨xs,h1,killIL_sim hl hh h2⟩
 | .agg cs,_,h=>by
  simp only [killIV,SimV] at*
  obtain ⟨xs,h1,h2⟩:=h
  exact ⟨xs,h1,killIL_sim hl hh h2⟩
 | .tup cs,_,h=>by
  simp only [killIV,SimV] at*
  obtain ⟨xs,h1,h2⟩:=h
  exact ⟨xs,h1,killIL_sim hl hh h2⟩
 | .fn f cs,_,h=>by
  simp only [killIV,SimV] at*
  obtain ⟨xs,h1,h2⟩:=h
  exact ⟨xs,h1,killIL_sim hl hh h2⟩
theorem killIL_sim {H H':HF} {l:Nat} (hl: ∀m,m≠l→H' m=H m) (hh: ∀h,H l=some h→ ∃s,H' l=some ⟨h.loc,h.k,h.len,s⟩): ∀ {x:List TV} {y:List AVal},SimL H x y→SimL H' (killIL l x) y
 | [],_,h=>by simpa [killIL,SimL] using h
 | x::xs,_,h=>by
  simp only [killIL,SimL] at*
  obtain ⟨y,zs,h1,h2,h3⟩:=h
  exact ⟨y,zs,h1,killI_sim hl hh h2,killIL_sim hl hh h3⟩
end
theorem killIL_length {l:Nat}: ∀xs:List TV,(killIL l xs).length=xs.length
 | []=>rfl
 | x::xs=>by simp [killIL,killIL_length xs]
theorem look_killI {l:Nat}: ∀ {F:RF} {s:Nat} {gs:List (Nat×Bool)} {P:Prop} {x:TV},lookN (killIF l F) s=some (gs,P,x)→ ∃x0,lookN F s=some (gs,P,x0)∧x=killIV l x0
 | [],s,gs,P,x,h=>by simp [killIF,lookN] at h
 | (t,g,q,z)::F,s,gs,P,x,h=>by
  simp only [killIF,lookN] at h ⊢
  split at h
  ·cases h;exact ⟨z,rfl,rfl⟩
  ·exact look_killI h
theorem SimF.killI {H H':HF} {l:Nat} (hl: ∀m,m≠l→H' m=H m) (hh: ∀h,H l=some h→ ∃s,H' l=some ⟨h.loc,h.k,h.len,s⟩) {F:RF} {A:Frame} (h:SimF H F A):SimF H' (killIF l F) A:=fun s gs P x hx=>by
 obtain ⟨x0,h1,rfl⟩:=look_killI hx
 have e:=h _ _ _ _ h1
 exact ⟨fun q=>killI_sim hl hh (e.on q),e.off,e.iff⟩
theorem SimG.killI {H H':HF} {l:Nat} (hl: ∀m,m≠l→H' m=H m) (hh: ∀h,H l=some h→ ∃s,H' l=some ⟨h.loc,h.k,h.len,s⟩) {G:List RF} {AG:List Frame} (h:SimG H G AG):SimG H' (killIG l G) AG:=by
 induction h with
 | nil=>exact .nil
 | cons h _ ih=>exact .cons (h.killI hl hh) ih
def killIB (l:Nat):TOb→TOb
 | .cells k cs=>.cells k (killIL l cs)
 | o=>o
theorem killIO_map (l:Nat): ∀TS:List TOb,killIO l TS=TS.map (killIB l)
 | []=>rfl
 | o::TS=>by cases o<;>simp [killIO,killIB,killIO_map l TS]
section
variable {P : Program} {H : HF} {TS : List TOb} {S : Store} {F : RF} {A : Frame} {Γ : List (Nat × Ct)} {ht : Option Ty} {G : List RF} {AG : List Frame}
theorem wPush_mk {S:Store} {o:Ob} {K:Nat→Store→Prop} (h:K S.length (S++[o])):wPush S o K:=wPush_iff.2 h
theorem append_sound' (st:St3 H TS S) (hF:SimF H F A) (hG:SimG H G AG) {k bytes:Nat} {x y:TV} {X Y:AVal} {ps:List Prop} {z:TV} {F':RF} {G':List RF} {TS':List TOb} (h:evAppend ht F G TS k bytes x y=some (ps,z,F',G',TS')) (hps:AllP ps)
  (hx:SimV H x X) (hy:SimV H y Y) {K:AVal→Store→Prop} (hk: ∀u S' H',St3 H' TS' S'→SimF H' F' A→SimG H' G' AG→SimV H' z u→K u S'):
  wSrc S k Y fun n ys=>match (generalizing:=false) X with
  | .nils=>n*bytes≤140737488355328∧ ∀v,wPush S (.row v k ys) fun l S'=>K (.sl l v 0 n) S'
  | .sl l ver off len=>wRow S l ver fun k' cs=>k'=k∧off+len*k≤cs.length∧(len+n)*bytes≤140737488355328∧
    ∀v,wSet S l (.row v k (subL cs off (len*k)++ys)) fun S'=>K (.sl l v 0 (len+n)) S'
  | _=>False:=by
 have main: ∀ {l:Nat} {t:Ty} {ls ys:List (T t)} {loc:Option (Nat×Nat)} {off len:Nat},objAt TS l=some (.row t ls)→H l=some ⟨loc,szT t,ls.length,[]⟩→RowAt S t ls loc→szT t=k→off+len≤ls.length→srcV TS t y=some ys→(len+ys.length)*bytes≤140737488355328→
   (∀u S' H',St3 H' (setOb (killO l TS) l (.row t ((ls.drop off).take len++ys))) S'→SimF H' (killF l F) A→SimG H' (killG l G) AG→SimV H' (.slf l) u→K u S')→X=slA loc (off*szT t) len→wSrc S k Y fun n ys=>match (generalizing:=false) X with
  | .nils=>n*bytes≤140737488355328∧ ∀v,wPush S (.row v k ys) fun l S'=>K (.sl l v 0 n) S'
  | .sl l ver off len=>wRow S l ver fun k' cs=>k'=k∧off+len*k≤cs.length∧(len+n)*bytes≤140737488355328∧
    ∀v,wSet S l (.row v k (subL cs off (len*k)++ys)) fun S'=>K (.sl l v 0 (len+n)) S'
  | _=>False:=by
  intro l t ls ys loc off len ho h1 h2 hsz hol hsrc hb hk hX
  subst hX
  rw [←hsz]
  refine srcV_sound st hsrc hy ?_
  have hlt:=obj_lt ho
  rw [setOb_eq,killO_map] at hk
  have hlen:((ls.drop off).take len).length=len:=by simp;omega
  cases loc with
  | none=>
   simp only [RowAt] at h2
   subst h2
   simp only [List.length_nil] at hol
   have e1:len=0:=by omega
   subst e1
   simp only [slA]
   simp only [Nat.zero_add] at hb
   refine ⟨hb,fun v=>wPush_mk ?_⟩
   have he: ∀m,m≠l→HAt H l ⟨some (S.length,v),szT t,ys.length,[]⟩ m=H m:=fun m hm=>by simp [HAt,hm]
   refine hk _ _ (HAt H l ⟨some (S.length,v),szT t,ys.length,[]⟩) (st.anew hlt ⟨_,HAt_self,by simp [RowAt]⟩ (fun m h p w hm q1 q2=>?_) (fun m h i p w n hm q1 q2=>?_) rfl (fun m h p w w' hm q1 q2 q3=>?_)) (hF.kill he) (hG.kill he) ?_
   ·rw [List.getElem?_append_left (st.lt q1 q2)]
   ·have g:=(st.sub m i h p w n q1 q2).1
    refine ⟨by rw [List.getElem?_append_left g],fun v' e=>?_⟩
    cases e;omega
   ·have:=st.lt q1 q2
    cases q3
    omega
   ·simp only [SimV]
    exact ⟨_,HAt_self,rfl⟩
  | some q=>
   obtain ⟨p,ver⟩:=q
   simp only [slA]
   have e1:=flatMap_length (encT_length t) ls
   refine wRow_iff.2 ⟨_,_,h2,rfl,by rw [e1,←Nat.add_mul];exact Nat.mul_le_mul_right _ hol,hb,fun v=>?_⟩
   have hp:p<S.length:=st.lt h1 rfl
   refine wSet_iff' hp ?_
   have he: ∀m,m≠l→HAt H l ⟨some (p,v),szT t,len+ys.length,[]⟩ m=H m:=fun m hm=>by simp [HAt,hm]
   refine hk _ _ (HAt H l ⟨some (p,v),szT t,len+ys.length,[]⟩) (st.anew hlt ⟨_,by rw [List.length_append,hlen];exact HAt_self,?_⟩ (fun m h p' w hm q1 q2=>?_) (fun m h i p' w n hm q1 q2=>?_) rfl (fun m h p' w w' hm q1 q2 q3=>?_)) (hF.kill he) (hG.kill he) ?_
   ·simp only [RowAt]
    rw [List.getElem?_set_self hp]
    have e2:=flatMap_length (encT_length t) ((ls.drop off).take len)
    rw [hlen] at e2
    rw [subL,flat_part ls off len,List.take_left' e2,List.flatMap_append]
   ·rw [List.getElem?_set_ne]
    intro e
    subst e
    exact hm (st.inj _ _ _ _ _ _ _ q1 h1 q2 rfl)
   ·have g:=(st.sub m i h p' w n q1 q2).2.1 l _ ver h1
    have ne:p'≠p:=fun e=>by subst e;exact g rfl
    exact ⟨by rw [List.getElem?_set_ne (Ne.symm ne)],fun v' e=>by cases e;exact ne rfl⟩
   ·cases q3
    exact hm (st.inj _ _ _ _ _ _ _ q1 h1 q2 rfl)
   ·simp only [SimV]
    exact ⟨_,HAt_self,rfl⟩
 unfold evAppend at h
 split at h
 ·split at h
  ·rename_i l _ t ls ho
   split at h
   ·rename_i ys hsrc hz
    cases h
    simp only [SimV] at hx
    obtain ⟨hd,e1,hX⟩:=hx
    obtain ⟨loc,q1,q2⟩:=row_get st ho
    rw [q1] at e1;cases e1
    refine main (off:=0) (len:=ls.length) ho q1 q2 (beq_eq hz) (by omega) hsrc ?_ (by simpa using hk) (by simpa using hX)
    exact hps.cons.1
   ·cases h
  ·cases h
 ·split at h
  ·rename_i l off len _ t ls ho
   split at h
   ·rename_i ys hsrc hz
    cases h
    simp only [SimV] at hx
    obtain ⟨hd,e1,e2,e3,e4,hX⟩:=hx
    obtain ⟨loc,q1,q2⟩:=row_get st ho
    rw [q1] at e1;cases e1
    simp only at e4
    refine main (off:=off.toNat) (len:=len.toNat) ho q1 q2 (beq_eq hz) (by omega) hsrc ?_ hk hX
    exact hps.cons.1
   ·cases h
  ·cases h
 ·split at h
  ·rename_i t
   split at h
   ·rename_i ys hsrc hz
    cases h
    simp only [SimV] at hx
    subst hx
    rw [←beq_eq hz]
    refine srcV_sound st hsrc hy ⟨hps.cons.1,fun v=>wPush_mk ?_⟩
    obtain ⟨H',g1,g2,g3⟩:=st.pushRow t ys v
    rw [pushO_eq,lenT_eq] at hk
    exact hk _ _ H' g2 (hF.ext g1) (hG.ext g1) (by simp only [SimV];exact ⟨_,g3,rfl⟩)
   ·cases h
  ·cases h
 ·cases h
theorem nilOver_eq {TS:List TOb} {n:Nat} {x y:TV} {l off k m:Nat} {cs:List TV} {t:Ty} (h:nilOver TS n x y=some (l,off,k,cs,m,t)):
  y= .nils∧n=1∧x= .ptr l off∧objAt TS l=some (.cells k cs)∧m≠l∧(∃ls,objAt TS m=some (.row t ls))∧off<cs.length:=by
 unfold nilOver at h
 split at h
 ·split at h
  ·rename_i k' cs' ho
   have off_lt: ∀ {c:TV} {r:List TV} {j:Nat},cs'.drop j=c::r→j<cs'.length:=fun {c r j} e=>by
    rcases Nat.lt_or_ge j cs'.length with q | q
    ·exact q
    ·rw [List.drop_of_length_le q] at e;cases e
   split at h
   ·rename_i m' r hd
    split at h<;>cases h
    exact ⟨rfl,rfl,rfl,ho,Nat.ne_of_beq_eq_false (by assumption),⟨_,by assumption⟩,off_lt hd⟩
   ·rename_i m' _ _ r hd
    split at h<;>cases h
    exact ⟨rfl,rfl,rfl,ho,Nat.ne_of_beq_eq_false (by assumption),⟨_,by assumption⟩,off_lt hd⟩
   ·cases h
  ·cases h
 ·cases h
theorem nil_store (st:St3 H TS S) (hF:SimF H F A) (hG:SimG H G AG) {n:Nat} {x y:TV} {X Y:AVal} {l off k m:Nat} {cs:List TV} {t:Ty} (h:nilOver TS n x y=some (l,off,k,cs,m,t))
  (hx:SimV H x X) (hy:SimV H y Y) {K:AVal→Store→Prop} (hk: ∀u S' H',St3 H' (setOb (setOb (killO m TS) m (.row t [])) l (.cells k (setG (killL m cs) off [.slf m]))) S'→SimF H' (killF m F) A→SimG H' (killG m G) AG→SimV H' .junk u→K u S'):
  (match (generalizing:=false) X with
  | .ptr l ver off=>wRow S l ver fun k cs=>wCells Y fun ys=>ys.length=n∧off+n≤cs.length∧
    setRowK k cs off ys fun cs'=>wSet S l (.row ver k cs') fun S'=>K .junk S'
  | _=>False):=by
 obtain ⟨rfl,rfl,rfl,ho,hml,⟨ls,hm⟩,hlt⟩:=nilOver_eq h
 simp only [SimV] at hx hy
 obtain ⟨hd,p,v,e1,e2,rfl⟩:=hx
 subst hy
 obtain ⟨p',v',xs,q1,q2,q3⟩:=cells_get st ho
 rw [q1] at e1;cases e1;cases e2
 have f2:=q3.length
 refine wRow_iff.2 ⟨_,_,q2,?_⟩
 simp only [wCells]
 refine ⟨rfl,by omega,setRowK_iff.2 (wSet_iff' (st.lt q1 rfl) ?_)⟩
 have mlt:=obj_lt hm
 have he: ∀j,j≠m→HAt H m ⟨none,szT t,0,[]⟩ j=H j:=fun j hj=>by simp [HAt,hj]
 have st1:=st.anew (S':=S) mlt (o:= .row t []) (hd:=⟨none,szT t,0,[]⟩) ⟨none,by simp [HAt],rfl⟩ (fun _ _ _ _ _ _ _=>rfl) (fun _ _ _ _ _ _ _ _ _=>⟨rfl,fun _ e=>by cases e⟩) rfl (fun _ _ _ _ _ _ _ _ e=>by cases e)
 have hl1:HAt H m ⟨none,szT t,0,[]⟩ l=H l:=he l (fun e=>hml e.symm)
 have hl2:l<((TS.map (killB m)).set m (.row t [])).length:=by simpa using obj_lt ho
 have q3':SimL (HAt H m ⟨none,szT t,0,[]⟩) (killL m cs) xs:=killL_sim he q3
 have st2:=st1.put (o:= .cells k (setG (killL m cs) off [.slf m])) (b:= .row _ k (setCells xs off [.nils])) hl2 (by rw [hl1];exact q1) rfl ⟨_,_,_,by rw [hl1,q1,setG_length,killL_length],by rw [List.getElem?_set_self (st.lt q1 rfl)],q3'.setG (by simp only [SimL,SimV];exact ⟨_,[],rfl,⟨_,by simp only [HAt,if_pos];rfl,rfl⟩,rfl⟩)⟩
 rw [setOb_eq,setOb_eq,killO_map] at hk
 exact hk _ _ _ st2 (hF.kill he) (hG.kill he) (by simp [SimV])
theorem store_sound' (st:St3 H TS S) (hF:SimF H F A) (hG:SimG H G AG) {n:Nat} {x y:TV} {X Y:AVal} {ps:List Prop} {z:TV} {F':RF} {G':List RF} {TS':List TOb} (h:evStore F G TS n x y=some (ps,z,F',G',TS')) (hps:AllP ps)
  (hx:SimV H x X) (hy:SimV H y Y) {K:AVal→Store→Prop} (hk: ∀u S' H',St3 H' TS' S'→SimF H' F' A→SimG H' G' AG→SimV H' z u→K u S'):
  (match (generalizing:=false) X with
  | .ptr l ver off=>wRow S l ver fun k cs=>wCells Y fun ys=>ys.length=n∧off+n≤cs.length∧
    setRowK k cs off ys fun cs'=>wSet S l (.row ver k cs') fun S'=>K .junk S'
  | _=>False):=by
 unfold evStore at h
 split at h
 ·rename_i l off k cs m t hn
  cases h
  exact nil_store st hF hG hn hx hy hk
 split at h
 ·rename_i l off ys hc _
  split at h
  ·rename_i k cs ho
   split at h
   ·rename_i hs1 hs2
    cases h
    simp only [SimV] at hx
    obtain ⟨hd,p,v,e1,e2,rfl⟩:=hx
    obtain ⟨p',v',xs,q1,q2,q3⟩:=cells_get st ho
    rw [q1] at e1;cases e1;cases e2
    refine wRow_iff.2 ⟨_,_,q2,tvCells_sim hc hy fun ws hw=>?_⟩
    have f1:=hw.length
    have f2:=q3.length
    have f3:=sizeIs_len hs1
    have f4:=sizeLe_len hs2
    refine ⟨by omega,by omega,setRowK_iff.2 (wSet_iff' (st.lt q1 rfl) ?_)⟩
    rw [setOb_eq] at hk
    refine hk _ _ H (st.put (obj_lt ho) q1 rfl ⟨_,_,_,by rw [q1,setG_length],?_,q3.setG hw⟩) hF hG (by simp [SimV])
    rw [List.getElem?_set_self (st.lt q1 rfl)]
   ·cases h
  ·cases h
 ·rename_i l i fo ys hc _
  split at h
  ·rename_i t ls ho
   split at h
   ·rename_i x' _ hd _ hs1 hs2
    cases h
    simp only [SimV] at hx
    obtain ⟨hd',p,v,e1,e2,e3,e4,rfl⟩:=hx
    obtain ⟨loc,q1,q2⟩:=row_get st ho
    rw [q1] at e1;cases e1
    simp only at e2 e4
    subst e2
    obtain ⟨hi,e⟩:=gt_get (d:=zT t) e3 (by exact_mod_cast e4)
    rw [e] at hs2 hd
    refine wRow_iff.2 ⟨_,_,q2,tvCells_sim hc hy fun ws hw=>?_⟩
    have f1:=hw.length
    have f3:=sizeIs_len hs1
    have f4:=sizeLe_len hs2
    rw [cellsT_length] at f4
    have f5:=flatMap_length (encT_length t) ls
    have f6:i.toNat*szT t+szT t≤ls.length*szT t:=by
     rw [←Nat.succ_mul]
     exact Nat.mul_le_mul_right _ hi
    refine ⟨by omega,by rw [f5];simp only;omega,setRowK_iff.2 (wSet_iff' (st.lt q1 rfl) ?_)⟩
    rw [setOb_eq] at hk
    obtain ⟨zs,g1,g2⟩:=decC_sim (H:=H) t hd ((cellsT_sim t _).setG hw)
    simp only [SimL] at g2
    subst g2
    rw [List.append_nil] at g1
    refine hk _ _ H (st.put (obj_lt ho) q1 rfl ⟨_,by rw [q1,List.length_set],?_⟩) hF hG (by simp [SimV])
    simp only [RowAt]
    rw [List.getElem?_set_self (st.lt q1 rfl),setCells_flat (encT_length t) ls i.toNat hi fo ws x' (by omega) g1]
   ·cases h
  ·cases h
 ·cases h
theorem setCells_one: ∀(xs:List AVal) (i:Nat) (y:AVal),setCells xs i [y]=xs.set i y
 | [],0,y=>rfl
 | [],i+1,y=>rfl
 | x::xs,0,y=>by cases xs<;>rfl
 | x::xs,i+1,y=>by simp only [setCells,List.set_cons_succ,setCells_one xs i y]
theorem move_st (st:St3 H TS S) {l q i:Nat} {t:Ty} {ls:List (List (T t))} {xs:List (T t)} (hl:objAt TS l=some (.drow t ls)) (hq:objAt TS q=some (.row t xs)) (hne:q≠l) (hi:i<ls.length)
  {p v:Nat} {sub:List (Option (Nat×Nat)×Nat)} (q1:H l=some ⟨some (p,v),1,ls.length,sub⟩) (q2:S[p]?=some (.row v 1 (sub.map subA))) (q3:SubsAt S t ls sub)
  {loc:Option (Nat×Nat)} (r1:H q=some ⟨loc,szT t,xs.length,[]⟩) (r2:RowAt S t xs loc):
  St3 (fun m=>if m=q then none else HAt H l ⟨some (p,v),1,ls.length,sub.set i (loc,xs.length)⟩ m) (setOb (setOb (killO q (killIO l TS)) q .dead) l (.drow t (ls.set i xs))) (S.set p (.row v 1 ((sub.map subA).set i (slA loc 0 xs.length)))):=by
 have hll:=obj_lt hl
 have hql:=obj_lt hq
 have hp:=st.lt q1 rfl
 have hsl:i<sub.length:=by rw [q3.len];exact hi
 have old: ∀ {m:Nat} {h:Hd},(if m=q then none else HAt H l ⟨some (p,v),1,ls.length,sub.set i (loc,xs.length)⟩ m)=some h→m≠q∧((m=l∧h=⟨some (p,v),1,ls.length,sub.set i (loc,xs.length)⟩)∨(m≠l∧H m=some h)):=fun {m h} e=>by
  by_cases a:m=q
  ·rw [if_pos a] at e;cases e
  ·rw [if_neg a] at e
   refine ⟨a,?_⟩
   by_cases b:m=l
   ·subst b
    simp [HAt] at e
    exact .inl ⟨rfl,e.symm⟩
   ·simp [HAt,b] at e
    exact .inr ⟨b,e⟩
 have oldl: ∀ {m:Nat} {h:Hd},(if m=q then none else HAt H l ⟨some (p,v),1,ls.length,sub.set i (loc,xs.length)⟩ m)=some h→m≠q∧ ∃h0,H m=some h0∧h0.loc=h.loc:=fun {m h} e=>by
  obtain ⟨a,b | b⟩:=old e
  ·rw [b.1];exact ⟨hne.symm,_,q1,by rw [b.2]⟩
  ·exact ⟨a,_,b.2,rfl⟩
 have hsub: ∀ {j:Nat} {x:Option (Nat×Nat)×Nat},(sub.set i (loc,xs.length))[j]?=some x→(j=i∧x=(loc,xs.length))∨(j≠i∧sub[j]?=some x):=fun {j x} e=>by
  by_cases a:j=i
  ·subst a
   rw [List.getElem?_set_self hsl] at e
   cases e;exact .inl ⟨rfl,rfl⟩
  ·rw [List.getElem?_set_ne (Ne.symm a)] at e
   exact .inr ⟨a,e⟩
 have keep: ∀ {p':Nat},p'≠p→(S.set p (.row v 1 ((sub.map subA).set i (slA loc 0 xs.length))))[p']?=S[p']?:=fun {p'} e=>by rw [List.getElem?_set_ne (Ne.symm e)]
 have nesub: ∀ {m j:Nat} {h:Hd} {p' v' n:Nat},H m=some h→h.sub[j]?=some (some (p',v'),n)→p'≠p:=fun {m j h p' v' n} e1 e2 e=>by
  subst e
  exact (st.sub m j h _ v' n e1 e2).2.1 l _ v q1 rfl
 have off: ∀m,m≠q→m≠l→(if m=q then none else HAt H l ⟨some (p,v),1,ls.length,sub.set i (loc,xs.length)⟩ m)=H m:=fun m a b=>by simp [HAt,a,b]
 have simV: ∀ {x:List TV} {y:List AVal},SimL H x y→SimL (fun m=>if m=q then none else HAt H l ⟨some (p,v),1,ls.length,sub.set i (loc,xs.length)⟩ m) (killL q (killIL l x)) y:=fun {x y} h=>by
  refine killL_sim (H:=HAt H l ⟨some (p,v),1,ls.length,sub.set i (loc,xs.length)⟩) (fun m hm=>by simp [hm]) (killIL_sim (fun m hm=>by simp [HAt,hm]) (fun h e=>?_) h)
  rw [q1] at e;cases e
  exact ⟨_,by simp [HAt];rfl⟩
 rw [setOb_eq,setOb_eq,killO_map,killIO_map,List.map_map]
 refine ⟨fun m o hm=>?_,fun m hm=>?_,fun m m' h h' p1 v1 v2 e1 e2 e3 e4=>?_,fun m j h p1 v1 n1 e1 e2=>?_⟩
 ·by_cases a:m=l
  ·subst a
   rw [List.getElem?_set_self (by simpa using hll)] at hm
   cases hm
   refine ⟨p,v,sub.set i (loc,xs.length),by simp [HAt,hne.symm],?_,?_⟩
   ·rw [List.getElem?_set_self hp,List.map_set];rfl
   ·refine ⟨by simp [q3.len],fun j x y h1 h2=>?_⟩
    rcases hsub h2 with ⟨rfl,rfl⟩ | ⟨b,h2⟩
    ·rw [List.getElem?_set_self hi] at h1
     cases h1
     refine ⟨rfl,?_⟩
     cases loc with
     | none=>exact r2
     | some pv=>
      simp only [RowAt] at*
      rw [keep fun e=>hne (st.inj _ _ _ _ _ _ _ r1 q1 rfl (by rw [←e]))]
      exact r2
    ·rw [List.getElem?_set_ne (Ne.symm b)] at h1
     obtain ⟨g1,g2⟩:=q3.at_ j x y h1 h2
     refine ⟨g1,?_⟩
     obtain ⟨yl,yn⟩:=y
     cases yl with
     | none=>exact g2
     | some pv=>
      simp only [RowAt] at*
      rw [keep (nesub q1 h2)]
      exact g2
  ·rw [List.getElem?_set_ne (Ne.symm a)] at hm
   by_cases b:m=q
   ·subst b
    rw [List.getElem?_set_self (by simpa using hql)] at hm
    cases hm
    simp [ObS]
   ·rw [List.getElem?_set_ne (Ne.symm b),List.getElem?_map] at hm
    cases hx:TS[m]? with
    | none=>rw [hx] at hm;cases hm
    | some o0=>
     rw [hx] at hm
     simp at hm
     subst hm
     have:=st.ob m o0 hx
     have eo:=off m b a
     have kl: ∀ {p' v':Nat} {h:Hd},H m=some h→h.loc=some (p',v')→p'≠p:=fun {p' v' h} e1 e2 e=>by
      subst e
      exact a (st.inj _ _ _ _ _ _ _ e1 q1 e2 rfl)
     cases o0 with
     | dead=>simp only [killIB,killB,ObS] at*;rw [eo];exact this
     | cells k cs=>
      obtain ⟨p',v',ys,g1,g2,g3⟩:=this
      exact ⟨p',v',ys,eo.trans (by rw [g1,killL_length,killIL_length]),by rw [keep (kl g1 rfl)];exact g2,simV g3⟩
     | row t' ls'=>
      obtain ⟨loc',g1,g2⟩:=this
      refine ⟨loc',eo.trans g1,?_⟩
      cases loc' with
      | none=>exact g2
      | some pv=>simp only [RowAt] at*;rw [keep (kl g1 rfl)];exact g2
     | drow t' ls'=>
      obtain ⟨p',v',sub',g1,g2,g3⟩:=this
      exact ⟨p',v',sub',eo.trans g1,by rw [keep (kl g1 rfl)];exact g2,g3.ext fun p2 x ⟨j,v2,n2,hj⟩ hx=>by rw [keep (nesub g1 hj)];exact hx⟩
 ·simp at hm
  have a:m≠q:=by omega
  have b:m≠l:=by omega
  rw [off m a b]
  exact st.out m hm
 ·obtain ⟨_,h0,a1,a2⟩:=oldl e1
  obtain ⟨_,h0',b1,b2⟩:=oldl e2
  exact st.inj _ _ _ _ _ _ _ a1 b1 (by rw [a2];exact e3) (by rw [b2];exact e4)
 ·have new: ∀ {p' v':Nat},loc=some (p',v')→(∀m' h' v2,(if m'=q then none else HAt H l ⟨some (p,v),1,ls.length,sub.set i (loc,xs.length)⟩ m')=some h'→h'.loc≠some (p',v2))∧
    (∀(m' j':Nat) (h':Hd) (v2 n2:Nat),H m'=some h'→h'.sub[j']?=some (some (p',v2),n2)→False):=fun {p' v'} e=>by
   subst e
   refine ⟨fun m' h' v2 e1 e2=>?_,fun m' j' h' v2 n2 e1 e2=>?_⟩
   ·obtain ⟨c,h0,a1,a2⟩:=oldl e1
    exact c (st.inj _ _ _ _ _ _ _ a1 r1 (by rw [a2];exact e2) rfl)
   ·exact (st.sub m' j' h' p' v2 n2 e1 e2).2.1 q _ v' r1 rfl
  have subs: ∀ {m j:Nat} {h:Hd} {p' v' n':Nat},(if m=q then none else HAt H l ⟨some (p,v),1,ls.length,sub.set i (loc,xs.length)⟩ m)=some h→h.sub[j]?=some (some (p',v'),n')→(m=l∧j=i∧loc=some (p',v'))∨(∃h0,H m=some h0∧h0.sub[j]?=some (some (p',v'),n')∧ ¬(m=l∧j=i)):=fun {m j h p' v' n'} e1 e2=>by
   obtain ⟨a,⟨b,c⟩ | ⟨b,c⟩⟩:=old e1
   ·subst c
    rcases hsub e2 with ⟨d1,d2⟩ | ⟨d1,d2⟩
    ·cases d2;exact .inl ⟨b,d1,rfl⟩
    ·exact .inr ⟨_,by rw [b];exact q1,d2,fun e=>d1 e.2⟩
   ·exact .inr ⟨h,c,e2,fun e=>b e.1⟩
  rw [List.length_set]
  rcases subs e1 e2 with ⟨a1,a2,a3⟩ | ⟨h0,a1,a2,a3⟩
  ·obtain ⟨n1,n2⟩:=new a3
   refine ⟨st.lt r1 a3,n1,fun m' j' h' v' n' f1 f2=>?_⟩
   rcases subs f1 f2 with ⟨b1,b2,b3⟩ | ⟨h0',b1,b2,b3⟩
   ·exact ⟨by rw [a1,b1],by rw [a2,b2]⟩
   ·exact (n2 _ _ _ _ _ b1 b2).elim
  ·obtain ⟨k1,k2,k3⟩:=st.sub m j h0 p1 v1 n1 a1 a2
   refine ⟨k1,fun m' h' v' f1 f2=>?_,fun m' j' h' v' n' f1 f2=>?_⟩
   ·obtain ⟨_,h0',b1,b2⟩:=oldl f1
    exact k2 _ _ _ b1 (by rw [b2];exact f2)
   ·rcases subs f1 f2 with ⟨b1,b2,b3⟩ | ⟨h0',b1,b2,b3⟩
    ·exact ((new b3).2 _ _ _ _ _ a1 a2).elim
    ·exact k3 _ _ _ _ _ b1 b2
theorem storeD_sound (st:St3 H TS S) (hF:SimF H F A) (hG:SimG H G AG) {n:Nat} {x y:TV} {X Y:AVal} {ps:List Prop} {z:TV} {F':RF} {G':List RF} {TS':List TOb} (h:evStoreD F G TS n x y=some (ps,z,F',G',TS'))
  (hx:SimV H x X) (hy:SimV H y Y) {K:AVal→Store→Prop} (hk: ∀u S' H',St3 H' TS' S'→SimF H' F' A→SimG H' G' AG→SimV H' z u→K u S'):
  (match (generalizing:=false) X with
  | .ptr l ver off=>wRow S l ver fun k cs=>wCells Y fun ys=>ys.length=n∧off+n≤cs.length∧
    setRowK k cs off ys fun cs'=>wSet S l (.row ver k cs') fun S'=>K .junk S'
  | _=>False):=by
 unfold evStoreD at h
 split at h
 ·rename_i l i fo q
  split at h
  ·rename_i t ls t' xs ho hq
   split at h<;>cases h
   rename_i hh hne _
   subst hh
   have hne:=Nat.ne_of_beq_eq_false hne
   simp only [SimV] at hx
   obtain ⟨hd,p,v,e1,e2,e3,e4,rfl⟩:=hx
   obtain ⟨p',v',sub,q1,q2,q3⟩:=drow_get st ho
   rw [q1] at e1;cases e1;cases e2
   simp only at e4
   obtain ⟨loc,r1,r2⟩:=row_get st hq
   have hY:Y=slA loc 0 xs.length:=by
    simp only [SimV] at hy
    obtain ⟨h',g1,g2⟩:=hy
    rw [r1] at g1;cases g1
    exact g2
   have hi:i.toNat<ls.length:=by omega
   refine wRow_iff.2 ⟨_,_,q2,tvCells_sim (x:= .slf q) (cs:=[.slf q]) rfl hy fun ws hw=>?_⟩
   have hws:ws=[Y]:=by
    simp only [SimL] at hw
    obtain ⟨y',zs,e1,e2,e3⟩:=hw
    subst e3
    simp only [SimV] at e2
    obtain ⟨h',g1,g2⟩:=e2
    rw [r1] at g1;cases g1
    rw [e1,g2,hY]
   subst hws
   refine ⟨rfl,by simp only [List.length_map,q3.len];omega,setRowK_iff.2 (wSet_iff' (st.lt q1 rfl) ?_)⟩
   rw [Nat.mul_one,Nat.add_zero,setCells_one,hY]
   have he: ∀m,m≠l→HAt H l ⟨some (p,v),1,ls.length,sub.set i.toNat (loc,xs.length)⟩ m=H m:=fun m hm=>by simp [HAt,hm]
   have hh: ∀h,H l=some h→ ∃s,HAt H l ⟨some (p,v),1,ls.length,sub.set i.toNat (loc,xs.length)⟩ l=some ⟨h.loc,h.k,h.len,s⟩:=fun h e=>by
    rw [q1] at e;cases e;exact ⟨_,by simp [HAt];rfl⟩
   have hq': ∀m,m≠q→(if m=q then none else HAt H l ⟨some (p,v),1,ls.length,sub.set i.toNat (loc,xs.length)⟩ m)=HAt H l ⟨some (p,v),1,ls.length,sub.set i.toNat (loc,xs.length)⟩ m:=fun m hm=>by simp [hm]
   exact hk _ _ _ (move_st st ho hq hne hi q1 q2 q3 r1 r2) ((hF.killI he hh).kill hq') ((hG.killI he hh).kill hq') (by simp [SimV])
  ·cases h
 ·rename_i y l i j k fo
  split at h
  ·rename_i t ls ys ho hc
   split at h
   ·rename_i x' _ hz hd hs1 hs2
    cases h
    have hsz:=beq_eq hz
    subst hsz
    simp only [SimV] at hx
    obtain ⟨hd',p,v,m,e1,e2,e3,e4,e5,rfl⟩:=hx
    obtain ⟨p',v',sub,q1,q2,q3⟩:=drow_get st ho
    rw [q1] at e1;cases e1
    obtain ⟨s1,s2,s3⟩:=sub_row q3 e2 e3
    simp only at s2 s3
    obtain ⟨hi,e⟩:=gt_get (d:=zT t) e4 (by rw [←s2];exact e5)
    rw [e] at hs2 hd
    refine wRow_iff.2 ⟨_,_,s3,tvCells_sim hc hy fun ws hw=>?_⟩
    have f1:=hw.length
    have f3:=sizeIs_len hs1
    have f4:=sizeLe_len hs2
    rw [cellsT_length] at f4
    have f5:=flatMap_length (encT_length t) (gt ls i)
    have f6:j.toNat*szT t+szT t≤(gt ls i).length*szT t:=by
     rw [←Nat.succ_mul]
     exact Nat.mul_le_mul_right _ hi
    have hp:=(st.sub l i.toNat _ p v m q1 e3).1
    refine ⟨by omega,by rw [f5];omega,setRowK_iff.2 (wSet_iff' hp ?_)⟩
    rw [setOb_eq] at hk
    obtain ⟨zs,g1,g2⟩:=decC_sim (H:=H) t hd ((cellsT_sim t _).setG hw)
    simp only [SimL] at g2
    subst g2
    rw [List.append_nil] at g1
    refine hk _ _ H (st.putSub (obj_lt ho) q1 e3 ⟨p',v',sub,by rw [q1,List.length_set],?_,?_⟩) hF hG (by simp [SimV])
    ·rw [List.getElem?_set_ne]
     ·exact q2
     ·intro e
      subst e
      exact (st.sub l i.toNat _ _ v m q1 e3).2.1 l _ v' q1 rfl
    ·refine ⟨by simp [q3.len],fun j' x y h1 h2=>?_⟩
     by_cases a:j'=i.toNat
     ·subst a
      rw [e3] at h2;cases h2
      rw [List.getElem?_set_self (by omega)] at h1
      cases h1
      refine ⟨by simp [s2],?_⟩
      simp only [RowAt]
      rw [List.getElem?_set_self hp,setCells_flat (encT_length t) (gt ls i) j.toNat hi fo ws x' (by omega) g1]
     ·rw [List.getElem?_set_ne (Ne.symm a)] at h1
      obtain ⟨g1',g2'⟩:=q3.at_ j' x y h1 h2
      refine ⟨g1',?_⟩
      obtain ⟨yl,yn⟩:=y
      cases yl with
      | none=>exact g2'
      | some pv=>
       simp only [RowAt] at*
       rw [List.getElem?_set_ne]
       ·exact g2'
       ·intro e
        have:=(st.sub l i.toNat _ p v m q1 e3).2.2 l j' _ pv.2 yn q1 (by rw [e];exact h2)
        exact a this.2
   ·cases h
  ·cases h
 ·cases h
theorem evE_sound (hΓ:Cons P Γ) (st:St3 H TS S) (hF:SimF H F A) (hG:SimG H G AG) {so:SOp} {ps:List Prop} {y:TV} {F':RF} {G':List RF} {TS':List TOb} (h:evE Γ ht F G TS so=some (ps,y,F',G',TS')) (hps:AllP ps)
  {K:AVal→Store→Prop} (hk: ∀z S' H',St3 H' TS' S'→SimF H' F' A→SimG H' G' AG→SimV H' y z→K z S'):vcOp P A S K so:=by
 have hp:holds A []:=holds_nil
 have w2: ∀ {x z:Rand} {f:TV→TV→ER},withE2 F x z f=some (ps,y,F',G',TS')→ ∃a b,f a b=some (ps,y,F',G',TS')∧SimV H a (rd A x)∧SimV H b (rd A z):=fun {x z f} h=>by
  unfold withE2 at h
  split at h
  ·rename_i a b hx hz;exact ⟨a,b,h,rdP_sim hF hp hx,rdP_sim hF hp hz⟩
  ·cases h
 cases so<;>simp only [evE] at h<;>(try (cases h;done))
 case newnil k=>
  split at h
  ·rename_i t
   split at h
   ·rename_i hz
    simp only [evNew] at h
    cases h
    simp only [vcOp]
    intro v
    refine wPush_mk ?_
    obtain ⟨H',g1,g2,g3⟩:=st.pushRow t [] v
    rw [pushO_eq,lenT_eq] at hk
    refine hk _ _ H' ?_ (hF.ext g1) (hG.ext g1) (by simp only [SimV];exact ⟨_,g3,rfl⟩)
    rw [←beq_eq hz]
    exact g2
   ·cases h
  ·cases h
 case mov x=>
  split at h
  ·rename_i hn
   have e:x= .c .nils:=by
    unfold isNils at hn
    split at hn
    ·rfl
    ·cases hn
   subst e
   unfold evNew at h
   split at h<;>cases h
   rename_i t
   simp only [vcOp,rdK]
   obtain ⟨H',g1,g2,g3⟩:=st.pushNil t
   rw [pushO_eq,lenT_eq] at hk
   exact hk _ _ H' g2 (hF.ext g1) (hG.ext g1) (by simp only [SimV];exact ⟨_,g3,rfl⟩)
  ·cases h
 case alloc k z=>
  split at h<;>cases h
  rename_i cs hz
  simp only [vcOp]
  intro v
  refine wPush_mk ?_
  obtain ⟨H',g1,g2,g3⟩:=st.pushCells k (ofL_sim hz) v
  rw [pushO_eq,lenT_eq] at hk
  exact hk _ _ H' g2 (hF.ext g1) (hG.ext g1) (by simp only [SimV];exact ⟨_,_,_,g3,rfl,rfl⟩)
 case box k x=>
  split at h
  ·rename_i y hx
   split at h<;>cases h
   rename_i cs hc
   simp only [vcOp,rdK_iff]
   refine tvCells_sim hc (rdP_sim hF hp hx) fun ys hs v=>wPush_mk ?_
   obtain ⟨H',g1,g2,g3⟩:=st.pushCells k hs v
   rw [pushO_eq,lenT_eq] at hk
   exact hk _ _ H' g2 (hF.ext g1) (hG.ext g1) (by simp only [SimV];exact ⟨_,_,_,g3,rfl,rfl⟩)
  ·cases h
 case bslice ro len k z parts=>
  split at h
  ·split at h<;>cases h
   rename_i t xs hl
   unfold evLit at hl
   split at hl
   ·split at hl
    ·rename_i hsz hf
     split at hl<;>cases hl
     rename_i hd
     rename_i cs hz _ _ _ _
     simp only [vcOp]
     refine fillT_sim hF hp hf (ofL_sim hz) fun ws hw v=>wPush_mk ?_
     obtain ⟨e1,rfl⟩:=decL_sim len hd hw
     obtain ⟨H',g1,g2,g3⟩:=st.pushRow t xs v
     rw [pushO_eq,lenT_eq] at hk
     refine hk _ _ H' ?_ (hF.ext g1) (hG.ext g1) (by simp only [SimV];exact ⟨_,g3,by simp only [slA,e1]⟩)
     rw [←beq_eq hsz]
     exact g2
    ·cases hl
   ·cases hl
  ·cases h
 case mkslice k bytes z len cap=>
  obtain ⟨a,b,h1,h2,h3⟩:=w2 h
  split at h1
  ·rename_i e hde
   have hdk:z=[.nils]∧k=1:=by
    unfold deepOf at hde
    split at hde
    ·exact ⟨rfl,rfl⟩
    ·cases hde
   obtain ⟨rfl,rfl⟩:=hdk
   unfold evMkD at h1
   split at h1
   ·rename_i k1 n k2 m hi1 hi2
    split at h1<;>cases h1
    rename_i hkk
    have hkk:=kEq_eq hkk
    subst hkk
    have g1:=hps.cons
    have g2:=g1.2.cons
    have g3:=g2.2.cons
    have q1:=g1.1
    have q2:=g2.1
    have q3:=g3.1
    simp only [vcOp,rdK_iff,asI_sim hi1 h2,asI_sim hi2 h3,wIdx]
    refine ⟨n.toNat,by omega,.inl (by rw [q1]),q3,fun v=>wPush_mk ?_⟩
    obtain ⟨H',p1,p2,p3⟩:=st.pushDeep e n.toNat v
    rw [pushO_eq,lenT_eq] at hk
    refine hk _ _ H' ?_ (hF.ext p1) (hG.ext p1) (by simp only [SimV];exact ⟨_,p3,rfl⟩)
    have:(List.replicate n.toNat [AVal.nils]).flatten=List.replicate n.toNat AVal.nils:=by simp
    rw [this]
    exact p2
   ·cases h1
  rename_i hnd
  clear hnd
  unfold evMk at h1
  split at h1
  ·rename_i t cs k1 n k2 m hz hi1 hi2
   split at h1<;>cases h1
   rename_i x _ hd hsz hkk
   have hkk:=kEq_eq hkk
   subst hkk
   have g1:=hps.cons
   have g2:=g1.2.cons
   have g3:=g2.2.cons
   have q1:=g1.1
   have q2:=g2.1
   have q3:=g3.1
   simp only [vcOp,rdK_iff,asI_sim hi1 h2,asI_sim hi2 h3,wIdx]
   refine ⟨n.toNat,by omega,.inl (by rw [q1]),q3,fun v=>wPush_mk ?_⟩
   ·obtain ⟨e1,e2⟩:=decL_sim (H:=H) 1 hd (ofL_sim hz)
    simp only [List.flatMap_cons,List.flatMap_nil,List.append_nil] at e2
    obtain ⟨H',p1,p2,p3⟩:=st.pushRow t (List.replicate n.toNat x) v
    rw [pushO_eq,lenT_eq] at hk
    refine hk _ _ H' ?_ (hF.ext p1) (hG.ext p1) (by simp only [SimV];exact ⟨_,p3,by simp only [slA,List.length_replicate]⟩)
    rw [e2,←beq_eq hsz]
    have:(List.replicate n.toNat (encT t x)).flatten=(List.replicate n.toNat x).flatMap (encT t):=by
     rw [List.flatMap,List.map_replicate]
    rw [this]
    exact p2
  ·cases h1
 case store n x v=>
  obtain ⟨a,b,h1,h2,h3⟩:=w2 h
  simp only [vcOp,rdK_iff]
  split at h1
  ·rename_i hd
   cases h1
   exact storeD_sound st hF hG hd h2 h3 hk
  ·exact store_sound' st hF hG h1 hps h2 h3 hk
 case append k bytes s x=>
  obtain ⟨a,b,h1,h2,h3⟩:=w2 h
  have:=append_sound' st hF hG h1 hps h2 h3 hk
  simp only [vcOp,rdK_iff]
  exact this
 case mark x=>
  split at h
  ·rename_i l hx
   split at h<;>cases h
   rename_i t ls ho
   have hs:=rdP_sim hF hp hx
   have hs':=hs
   simp only [SimV] at hs
   obtain ⟨hd,e1,e2⟩:=hs
   obtain ⟨loc,q1,q2⟩:=row_get st ho
   rw [q1] at e1;cases e1
   simp only [vcOp,rdK_iff]
   have hpos:=hps.cons.1
   cases loc with
   | none=>simp only [RowAt] at q2;subst q2;simp at hpos
   | some pv=>
    obtain ⟨p,v⟩:=pv
    simp only [slA] at e2
    simp only [RowAt] at q2
    rw [e2]
    refine ⟨hpos,wRow_iff.2 ⟨_,_,q2,by simp [szT],hk _ _ H st hF hG ?_⟩⟩
    rw [←e2]
    exact hs'
  ·cases h
 case s2b x=>
  split at h
  ·rename_i b hx
   cases h
   have hs:=rdP_sim hF hp hx
   simp only [SimV] at hs
   simp only [vcOp,rdK_iff]
   rw [hs]
   intro v
   refine wPush_mk ?_
   obtain ⟨H',g1,g2,g3⟩:=st.pushRow (.int .u8) (b.map fun c=>(c.toNat:Int)) v
   rw [pushO_eq,lenT_eq] at hk
   have e:=bytes_enc b
   rw [←e] at g2
   refine hk _ _ H' g2 (hF.ext g1) (hG.ext g1) ?_
   simp only [SimV]
   exact ⟨_,g3,by simp only [slA];congr 1;exact (List.length_map _).symm⟩
  ·cases h
 case clear k z x=>
  split at h
  ·rename_i a hx
   have hs:=rdP_sim hF hp hx
   simp only [vcOp,rdK_iff]
   unfold evClear at h
   split at h
   ·cases h
    simp only [SimV] at hs
    rw [hs]
    exact hk _ _ H st hF hG (by simp [SimV])
   ·rename_i l cs hz
    split at h
    ·rename_i t ls ho
     split at h<;>cases h
     rename_i z0 hd hb
     have hb:=beq_eq hb
     obtain ⟨loc,q1,q2⟩:=row_get st ho
     simp only [SimV] at hs
     obtain ⟨hd',e1,e2⟩:=hs
     rw [q1] at e1;cases e1
     obtain ⟨d1,d2⟩:=decL_sim (H:=H) 1 hd (ofL_sim hz)
     simp only [List.flatMap_cons,List.flatMap_nil,List.append_nil] at d2
     rw [setOb_eq] at hk
     cases loc with
     | none=>
      simp only [RowAt] at q2
      subst q2
      simp only [slA] at e2
      rw [e2]
      refine hk _ _ H ?_ hF hG (by simp [SimV])
      rw [List.length_nil,List.replicate_zero]
      have:TS.set l (.row t [])=TS:=List.ext_getElem? fun i=>by
       rw [List.getElem?_set]
       split
       ·rename_i e;subst e;rw [objAt_eq] at ho;split
        ·exact ho.symm
        ·rw [List.getElem?_eq_none (by omega)] at ho;cases ho
       ·rfl
      rw [this];exact st
     | some pv=>
      obtain ⟨p,v⟩:=pv
      simp only [slA] at e2
      rw [e2]
      simp only [RowAt] at q2
      have f5:=flatMap_length (encT_length t) ls
      refine wRow_iff.2 ⟨_,_,q2,hb,by rw [f5,←hb];simp,wSet_iff' (st.lt q1 rfl) ?_⟩
      refine hk _ _ H (st.put (obj_lt ho) q1 rfl ⟨_,by rw [q1,List.length_replicate],?_⟩) hF hG (by simp [SimV])
      simp only [RowAt]
      rw [List.getElem?_set_self (st.lt q1 rfl),d2,hb]
      have e3:(List.replicate ls.length (encT t z0)).flatten=(List.replicate ls.length z0).flatMap (encT t):=by rw [List.flatMap,List.map_replicate]
      have e4:=flatMap_length (encT_length t) (List.replicate ls.length z0)
      rw [List.length_replicate] at e4
      rw [e3,setCells_all (by rw [e4,f5])]
    ·cases h
   ·rename_i l off len cs hz
    split at h
    ·rename_i t ls ho
     split at h<;>cases h
     rename_i z0 hd hb
     have hb:=beq_eq hb
     obtain ⟨loc,q1,q2⟩:=row_get st ho
     simp only [SimV] at hs
     obtain ⟨hd',e1,r1,r2,r3,e2⟩:=hs
     rw [q1] at e1;cases e1
     obtain ⟨d1,d2⟩:=decL_sim (H:=H) 1 hd (ofL_sim hz)
     simp only [List.flatMap_cons,List.flatMap_nil,List.append_nil] at d2
     rw [setOb_eq] at hk
     have hol:off.toNat+len.toNat≤ls.length:=by simp only at r3;omega
     have hlen2:(ls.take off.toNat++List.replicate len.toNat z0++ls.drop (off.toNat+len.toNat)).length=ls.length:=by simp;omega
     cases loc with
     | none=>
      simp only [RowAt] at q2
      subst q2
      simp only [slA] at e2
      rw [e2]
      simp only [List.length_nil] at hol
      refine hk _ _ H ?_ hF hG (by simp [SimV])
      rw [show len.toNat=0 by omega]
      simp only [List.take_nil,List.replicate_zero,List.drop_nil,List.append_nil,List.nil_append]
      have:TS.set l (.row t [])=TS:=List.ext_getElem? fun i=>by
       rw [List.getElem?_set]
       split
       ·rename_i e;subst e;rw [objAt_eq] at ho;split
        ·exact ho.symm
        ·rw [List.getElem?_eq_none (by omega)] at ho;cases ho
       ·rfl
      rw [this];exact st
     | some pv=>
      obtain ⟨p,v⟩:=pv
      simp only [slA] at e2
      rw [e2]
      simp only [RowAt] at q2
      have f5:=flatMap_length (encT_length t) ls
      refine wRow_iff.2 ⟨_,_,q2,hb,?_,wSet_iff' (st.lt q1 rfl) ?_⟩
      ·rw [f5,←hb,←Nat.add_mul];exact Nat.mul_le_mul_right _ hol
      refine hk _ _ H (st.put (obj_lt ho) q1 rfl ⟨_,by rw [q1,hlen2],?_⟩) hF hG (by simp [SimV])
      simp only [RowAt]
      rw [List.getElem?_set_self (st.lt q1 rfl),d2,hb]
      have e3:(List.replicate len.toNat (encT t z0)).flatten=(List.replicate len.toNat z0).flatMap (encT t):=by rw [List.flatMap,List.map_replicate]
      have e4:=flatMap_length (encT_length t) (List.replicate len.toNat z0)
      rw [List.length_replicate] at e4
      have e5:ls.flatMap (encT t)=(ls.take off.toNat).flatMap (encT t)++(((ls.drop off.toNat).take len.toNat).flatMap (encT t)++(ls.drop (off.toNat+len.toNat)).flatMap (encT t)):=by
       rw [←List.flatMap_append,←List.flatMap_append]
       congr 1
       have:ls.drop (off.toNat+len.toNat)=(ls.drop off.toNat).drop len.toNat:=by rw [List.drop_drop]
       rw [this,List.take_append_drop,List.take_append_drop]
      have e6:=flatMap_length (encT_length t) (ls.take off.toNat)
      rw [List.length_take,Nat.min_eq_left (by omega)] at e6
      have e7:=flatMap_length (encT_length t) ((ls.drop off.toNat).take len.toNat)
      rw [List.length_take,List.length_drop,Nat.min_eq_left (by omega)] at e7
      rw [e3,e5,←hb,←e6]
      have:=setCells_skip ((ls.take off.toNat).flatMap (encT t)) 0 (((ls.drop off.toNat).take len.toNat).flatMap (encT t)++(ls.drop (off.toNat+len.toNat)).flatMap (encT t)) ((List.replicate len.toNat z0).flatMap (encT t))
      rw [Nat.add_zero] at this
      rw [this,setCells_append _ _ _ _ (by rw [e4,e7];omega),setCells_all (by rw [e4,e7])]
      simp only [List.flatMap_append,List.append_assoc]
    ·cases h
   ·cases h
  ·cases h
 case call f args=>
  split at h
  ·rename_i xs hx
   have hs:=rdPs_sim hF hp hx
   unfold evCallE at h
   split at h
   ·rename_i ct hc
    split at h<;>cases h
    rename_i hd hf
    rw [pushL_eq,lenT_eq] at hk
    simp only [vcOp,rdsK_iff]
    exact con_use (hΓ.look hc) st hd hps.cons.1 hs hf fun r S' H' g1 g2 g3=>hk _ _ H' g2 (hF.ext g1) (hG.ext g1) g3
   ·cases h
  ·cases h
end
end Go.Vc
end
