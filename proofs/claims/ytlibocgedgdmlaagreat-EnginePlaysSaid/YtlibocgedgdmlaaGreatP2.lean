/- Part of the proof of enginePlays_holds: the whole is true of every input. Conditions: none. -/
import Derived.Test.YtlibocgedgdmlaaGreatP1
import Derived.Laws.MakeOwn
import Derived.MapKept
import Derived.Maps.RangeRun
import Derived.Laws.IdiomStrings
import Derived.Laws.Cover3
import Derived.Laws.CopyRow
set_option linter.all false
section
section
namespace Go.Vc
section
variable {P : Program} {E : Env} {fz : Nat -> Prop} {S : AB} {w : World} {F : Frame} {a : Act} {K : AA -> AB -> Prop} {ro : Bool}
theorem Ep {x:AA} {K:Nat->Prop} (h:Lu x K): ∃(k:IntKind) (j:Nat),x= .int k (j:Int)/\K j:=by
  cases x<;>simp only [Lu] at h;obtain ⟨j,rfl,hk⟩:=h;exact ⟨_,j,rfl,hk⟩
theorem RS (st:St E fz S w) (hF:CH E fz w F a.tmps) {o:Oper} {t e:TypeId} {x i:Operand} {rx ri:AO} {k:Nat} (ho:o.op= .indexAddr t x i) (ht:P.underlying t=some (.slice e)) (hk:CG P e=some k) (hx:Ad x=some rx) (hi:Ad i=some ri)
    (h:AF P F S K (.DT k none rx ri)):Al P ((execOp a.eval o).run P w) (CQ K E fz S w):=by
  have hr:=Ac hF hx;have hri:=Ac hF hi;simp only [AF,AD] at h;have h':=h;clear h;obtain ⟨ki,j,ei,h⟩:=Ep h';clear h';rw [ei] at hri;simp only [Rel] at hri;generalize rd F rx=X at*;have go: ∀ {b off len cap:Nat} {y:AA},a.eval x= .slice (some ⟨b,off,none⟩) len cap->j<len->K y S->Rel E fz w y (.pointer (some ⟨b,off+j*k,none⟩))->Al P ((execOp a.eval o).run P w) (CQ K E fz S w):=fun {b off len cap y} ex hlt hk' hrel=>by
    refine Ak st ?_ hk' hrel;have:(0:Int)<=(j:Int)/\(j:Int)<(len:Int):=by omega
    simp [execOp,ho,Instr.indexAt,hri,asIntOf,run_underlying ht,ex,this,Dt hk,IY];omega
  cases X<;>first | exact h.elim | skip
  case Ez n cs=>
    simp only at h;obtain ⟨hlt,xs,htk,hk'⟩:=h;simp only [Rel] at hr;rcases hr with ⟨rfl,_⟩ | ⟨b,off,c,hb,hle,ex,hc⟩
    · omega
    · obtain ⟨e2,_⟩:=Mf htk
      exact go ex hlt hk' (by simp only [Rel];exact ⟨b,off+j*k,hb,rfl,e2▸(hc.drop _).take _⟩)
  case sl l ver off n=>
    simp only at h;obtain ⟨hlt,h⟩:=h;obtain ⟨k',cs,hl,_,hk'⟩:=AP.1 h;simp only [Rel] at hr;rcases hr with ⟨rfl,_⟩ | ⟨b,base,cap,kk,c,hE,hle,_,ex⟩
    · omega
    · exact go ex hlt hk' (by simp only [Rel];exact ⟨b,base,cap,kk,hE,by rw [Nat.add_assoc]⟩)
theorem RR (st:St E fz S w) (hF:CH E fz w F a.tmps) {o:Oper} {t e:TypeId} {x i:Operand} {rx ri:AO} {k len:Nat} (ho:o.op= .indexAddr t x i) (ht:P.underlying t=some (.array len e)) (hk:CG P e=some k) (hx:Ad x=some rx) (hi:Ad i=some ri)
    (h:AF P F S K (.DT k (some len) rx ri)):Al P ((execOp a.eval o).run P w) (CQ K E fz S w):=by
  have hr:=Ac hF hx;have hri:=Ac hF hi;simp only [AF,AD] at h;have h':=h;clear h;obtain ⟨ki,j,ei,h⟩:=Ep h';clear h';rw [ei] at hri;simp only [Rel] at hri;generalize rd F rx=X at*;have go: ∀ {b off:Nat} {y:AA},a.eval x= .pointer (some ⟨b,off,none⟩)->j<len->K y S->Rel E fz w y (.pointer (some ⟨b,off+j*k,none⟩))->Al P ((execOp a.eval o).run P w) (CQ K E fz S w):=fun {b off y} ex hlt hk' hrel=>by
    refine Ak st ?_ hk' hrel;have:(0:Int)<=(j:Int)/\(j:Int)<(len:Int):=by omega
    simp [execOp,ho,Instr.indexAt,hri,asIntOf,run_underlying ht,ex,Instr.sureAddr,this,Dt hk,IY];omega
  cases X<;>first | exact h.elim | skip
  case ptr l ver off=>
    simp only at h;simp only [Rel] at hr;obtain ⟨b,base,cap,kk,hE,ex⟩:=hr;exact go ex h.1 h.2 (by simp only [Rel];exact ⟨b,base,cap,kk,hE,by rw [Nat.add_assoc]⟩)
  case GX cs=>
    simp only at h;simp only [Rel] at hr;obtain ⟨b,off,hb,ex,hc⟩:=hr;exact go ex h.1 h.2 (by simp only [Rel];exact ⟨b,off+j*k,hb,rfl,hc.drop _⟩)
theorem Un (st:St E fz S w) (hF:CH E fz w F a.tmps) {o:Oper} {t:TypeId} {x i:Operand} {rx ri:AO} (ho:o.op= .index t x i) (ht:P.underlying t=some .string) (hx:Ad x=some rx) (hi:Ad i=some ri)
    (h:AF P F S K (.index 1 none false rx ri)):Al P ((execOp a.eval o).run P w) (CQ K E fz S w):=by
  have hr:=Ac hF hx;have hri:=Ac hF hi;simp only [AF,AD] at h;have h':=h;clear h;obtain ⟨ki,j,ei,h⟩:=Ep h';clear h';rw [ei] at hri;simp only [Rel] at hri;generalize rd F rx=X at*;cases X<;>first | exact h.elim | skip
  case str s=>
    simp only at h;obtain ⟨c,hc,hk'⟩:=h;simp only [Rel] at hr;refine Ak st (v:= .int .u8 (c.toNat:Int)) ?_ hk' (by simp [Rel]);have hg:(⟨s.toArray⟩:ByteArray)[j]?=some c:=by
      have hlt:j<s.length:=by
        rcases Nat.lt_or_ge j s.length with h | h
        · exact h
        · simp [List.getElem?_eq_none h] at hc
      have hlt':j<(⟨s.toArray⟩:ByteArray).size:=by simpa [ByteArray.size] using hlt
      rw [getElem?_pos (⟨s.toArray⟩:ByteArray) j hlt'];rw [List.getElem?_eq_getElem hlt] at hc;simpa [ByteArray.getElem_eq_getElem_data] using hc
    simp [execOp,ho,Instr.index,hri,asIntOf,run_underlying ht,hr,hg]
theorem LH (st:St E fz S w) (hF:CH E fz w F a.tmps) {o:Oper} {t e:TypeId} {x i:Operand} {rx ri:AO} {k len:Nat} {u:TypeDesc} (ho:o.op= .index t x i) (ht:P.underlying t=some (.array len e)) (hu:P.underlying e=some u) (hk:CG P e=some k) (hk1:H4 u=false->k=1)
    (hx:Ad x=some rx) (hi:Ad i=some ri)
    (h:AF P F S K (.index k (some len) (H4 u) rx ri)):Al P ((execOp a.eval o).run P w) (CQ K E fz S w):=by
  have hr:=Ac hF hx;have hri:=Ac hF hi;simp only [AF,AD] at h;have h':=h;clear h;obtain ⟨ki,j,ei,h⟩:=Ep h';clear h';rw [ei] at hri;simp only [Rel] at hri;generalize rd F rx=X at*;cases X<;>first | exact h.elim | skip
  case agg cs=>
    simp only at h;obtain ⟨hlt,xs,htk,hk'⟩:=h;simp only [Rel] at hr;obtain ⟨vs,ex,hl,hone⟩:=hr;obtain ⟨e2,hle⟩:=Mf htk;have hlt':(0:Int)<=(j:Int)/\(j:Int)<(len:Int):=by omega
    rcases Ij.1 hk' with ⟨hag,hk2⟩ | ⟨hag,y,rfl,hk2⟩
    · refine Ak st (v:= .agg ((vs.drop (j*k)).take k).toArray) ?_ hk2 ?_
      · simp [execOp,ho,Instr.index,hri,asIntOf,run_underlying ht,ex,hlt',part,IJ hu,hag,Dt hk]
        omega
      · simp only [Rel]
        exact ⟨_,rfl,e2▸(hl.drop _).take _,fun c hc=>hone c (List.mem_of_mem_drop (List.mem_of_mem_take hc))⟩
    · have hk1':=hk1 hag
      subst hk1';have hy:cs[j*1]?=some y:=by
        have:=congrArg (·[0]?) e2;simp [List.getElem?_take,List.getElem?_drop] at this;simpa using this.symm
      obtain ⟨v,hv,hrel⟩:=hl.get hy;refine Ak st (v:=v) ?_ hk2 hrel;have hv':vs[j]?=some v:=by simpa using hv
      simp [execOp,ho,Instr.index,hri,asIntOf,run_underlying ht,ex,hlt',part,IJ hu,hag,Dt hk,hv'];omega
theorem kf (hF:CH E fz w F a.tmps) {x:Option Operand} {r:Option AO} (hx:SJ x=some r):
    (x=none/\r=none)\/ ∃y s,x=some y/\r=some s/\Rel E fz w (rd F s) (a.eval y):=by
  cases x with
  | none=>simp [SJ] at hx;exact .inl ⟨rfl,hx.symm⟩
  | some y=>
    simp only [SJ] at hx;split at hx
    · rename_i s hs;cases hx;exact .inr ⟨y,s,rfl,rfl,Ac hF hs⟩
    · cases hx
theorem YK {isS:Bool} {len cap:Nat} {lo hi:Option Value} {j h:Nat} (hj:j<=h) (hh:h<=len) (hc:len<=cap)
    (hlo:(lo=none/\j=0)\/ ∃k,lo=some (.int k (j:Int))) (hhi:(hi=none/\h=len)\/ ∃k,hi=some (.int k (h:Int))):
    (Instr.sliceBounds isS len cap lo hi none).run P w= .ok (j,h,cap) w:=by
  have b1: ∀k code,(Instr.sliceBound (.int k (h:Int)) cap code).run P w= .ok h w:=fun k code=>by
    rw [run_sliceBound w k h cap code (by omega) (by omega)];simp
  have b2: ∀k code,(Instr.sliceBound (.int k (j:Int)) h code).run P w= .ok j w:=fun k code=>by
    rw [run_sliceBound w k j h code (by omega) (by omega)];simp
  rcases hlo with ⟨rfl,rfl⟩ | ⟨k1,rfl⟩<;>rcases hhi with ⟨rfl,rfl⟩ | ⟨k2,rfl⟩<;>simp [Instr.sliceBounds,b1,b2]
theorem Mx (hF:CH E fz w F a.tmps) {n:Nat} {lo hi:Option Operand} {rlo rhi:Option AO} {Q:Nat->Nat->Prop} (hlo:SJ lo=some rlo) (hhi:SJ hi=some rhi)
    (h:ZS F n rhi fun h=>X_ F rlo fun j=>Q j h): ∃j h,Q j h/\((lo.map a.eval=none/\j=0)\/ ∃k,lo.map a.eval=some (.int k (j:Int)))/\((hi.map a.eval=none/\h=n)\/ ∃k,hi.map a.eval=some (.int k (h:Int))):=by
  have l1: ∀ {K:Nat->Prop},X_ F rlo K-> ∃j,K j/\((lo.map a.eval=none/\j=0)\/ ∃k,lo.map a.eval=some (.int k (j:Int))):=fun {K} hk=>by
    rcases kf hF hlo with ⟨rfl,rfl⟩ | ⟨y,s,rfl,rfl,hr⟩
    · exact ⟨0,hk,.inl ⟨rfl,rfl⟩⟩
    · simp only [X_,AD] at hk
      obtain ⟨k,j,e,hk⟩:=Ep hk;rw [e] at hr;simp only [Rel] at hr;exact ⟨j,hk,.inr ⟨k,by simp [hr]⟩⟩
  have l2: ∃h,(X_ F rlo fun j=>Q j h)/\((hi.map a.eval=none/\h=n)\/ ∃k,hi.map a.eval=some (.int k (h:Int))):=by
    rcases kf hF hhi with ⟨rfl,rfl⟩ | ⟨y,s,rfl,rfl,hr⟩
    · exact ⟨n,h,.inl ⟨rfl,rfl⟩⟩
    · simp only [ZS,AD] at h
      obtain ⟨k,j,e,hk⟩:=Ep h;rw [e] at hr;simp only [Rel] at hr;exact ⟨j,hk,.inr ⟨k,by simp [hr]⟩⟩
  obtain ⟨h,hk,g2⟩:=l2;obtain ⟨j,hq,g1⟩:=l1 hk;exact ⟨j,h,hq,g1,g2⟩
theorem U4 (st:St E fz S w) (hF:CH E fz w F a.tmps) {o:Oper} {t:TypeId} {x:Operand} {lo hi:Option Operand} {rx:AO} {rlo rhi:Option AO} (ho:o.op= .slice t x lo hi none) (ht:P.underlying t=some .string) (hx:Ad x=some rx) (hlo:SJ lo=some rlo) (hhi:SJ hi=some rhi)
    (h:AF P F S K (.slice 0 rx rlo rhi)):Al P ((execOp a.eval o).run P w) (CQ K E fz S w):=by
  have hr:=Ac hF hx;simp only [AF,AD] at h;generalize rd F rx=X at*;cases X<;>first | exact h.elim | skip
  case str s=>
    simp only at h;obtain ⟨j,hh,⟨q1,q2,q3⟩,g1,g2⟩:=Mx hF hlo hhi h;simp only [Rel] at hr;have hsz:(⟨s.toArray⟩:ByteArray).size=s.length:=by simp [ByteArray.size]
    have hb:=YK (P:=P) (w:=w) (isS:=false) q1 q2 (Nat.le_refl _) g1 g2;refine Ak st (v:= .string ((⟨s.toArray⟩:ByteArray).extract j hh)) ?_ q3 ?_
    · simp [execOp,ho,Instr.sliceAt,run_underlying ht,Instr.slice,hr,hsz,hb]
    · simp only [Rel]
      congr 1;apply ByteArray.ext;simp [ByteArray.data_extract,List.drop_take]
theorem Zg (st:St E fz S w) (hF:CH E fz w F a.tmps) {o:Oper} {t e:TypeId} {x:Operand} {rx:AO} {n:Nat} (ho:o.op= .slice t x none none none) (ht:P.underlying t=some (.array n e)) (hk:CG P e=some 1) (hx:Ad x=some rx)
    (h:AF P F S K (.Ms n rx)):Al P ((execOp a.eval o).run P w) (CQ K E fz S w):=by
  have hr:=Ac hF hx;simp only [AF,AD] at h;generalize rd F rx=X at*;cases X<;>first | exact h.elim | skip
  case ptr l v off=>
    simp only at h;obtain ⟨k,cs,hl,rfl,hlen,hk'⟩:=AP.1 h;simp only [Rel] at hr;obtain ⟨b,base,cap,kk,hE,ex⟩:=hr;refine Ak st (v:= .slice (some ⟨b,base+off,none⟩) n n) ?_ hk' ?_
    · simp [execOp,ho,Instr.sliceAt,run_underlying ht,ex,Instr.sliceBounds,Dt hk,Instr.sureAddr,IY]
    · simp only [Rel]
      rcases st.ok l _ hl with ⟨p1,p2⟩ | ⟨_,_,_,_,_,_,_,p1,_,_,p2,_⟩
      · rw [hE] at p1;cases p1
      · rw [hE] at p1;cases p1
        exact .inr ⟨b,base,cap,0,n,hE,Nat.le_refl _,by omega,rfl⟩
theorem bP (st:St E fz S w) (hF:CH E fz w F a.tmps) {o:Oper} {t e:TypeId} {x h m:Operand} {rx rh rm:AO} {k:Nat} (ho:o.op= .slice t x none (some h) (some m)) (ht:P.underlying t=some (.slice e)) (hk:CG P e=some (k+1)) (hx:Ad x=some rx) (hh:Ad h=some rh) (hm:Ad m=some rm)
    (h:AF P F S K (.slice3 (k+1) rx rh rm)):Al P ((execOp a.eval o).run P w) (CQ K E fz S w):=by
  have hr:=Ac hF hx;have hr1:=Ac hF hh;have hr2:=Ac hF hm;simp only [AF,AD] at h;obtain ⟨kk,n,e1,e2,h⟩:=Ep h;rw [e2,e1] at hr2;rw [e1] at hr1;simp only [Rel] at hr1 hr2;generalize rd F rx=X at hr h;have go: ∀ {ao:Option Addr} {len c:Nat} {y:AA},a.eval x= .slice ao len c->n<=c->K y S->Rel E fz w y (.slice (if n=0 then ao else ao.map (·.add (0*(k+1)))) (n-0) (n-0))->Al P ((execOp a.eval o).run P w) (CQ K E fz S w):=fun {ao len c y} ex q1 hk' hrel=>by
    have b1: ∀code,(Instr.sliceBound (.int kk (n:Int)) c code).run P w= .ok n w:=fun code=>by
      rw [run_sliceBound w kk n c code (by omega) (by omega)];simp
    have b2: ∀code,(Instr.sliceBound (.int kk (n:Int)) n code).run P w= .ok n w:=fun code=>by
      rw [run_sliceBound w kk n n code (by omega) (by omega)];simp
    refine Ak st ?_ hk' hrel;simp [execOp,ho,Instr.sliceAt,run_underlying ht,Instr.slice,Instr.sliceBounds,ex,hr1,hr2,b1,b2,Dt hk]
  cases X<;>first | exact h.elim | skip
  case AL=>
    obtain ⟨rfl,h⟩:=h;simp only [Rel] at hr;exact go hr (Nat.le_refl _) h (by simp [Rel])
  case sl lc ver off len=>
    simp only at h;obtain ⟨q1,q2⟩:=h;obtain ⟨k',cs,hl,e4,hk'⟩:=AP.1 q2;subst e4;simp only [Rel] at hr;rcases hr with ⟨rfl,ao,ex⟩ | ⟨b,base,cap,kk',c,hE,hle,hcap,ex⟩
    · obtain rfl:n=0:=by omega
      exact go ex (Nat.le_refl _) hk' (by simp [Rel])
    · have hkk:kk'=k+1:=by
        rcases st.ok lc _ hl with ⟨p1,_⟩ | ⟨_,_,_,_,_,_,_,p1,_⟩<;>rw [hE] at p1<;>cases p1;rfl
      subst hkk;refine go ex (by omega) hk' ?_;simp only [Rel];by_cases e:n=0
      · exact .inl ⟨e,_,by rw [if_pos e,e]⟩
      · refine .inr ⟨b,base,cap,k+1,n,hE,Nat.le_refl _,?_,by rw [if_neg e];simp [IY,Nat.add_assoc]⟩
        have:=Nat.mul_le_mul_right (k+1) (show n<=c by omega);omega
theorem R5 (st:St E fz S w) (hF:CH E fz w F a.tmps) {o:Oper} {t e:TypeId} {x:Operand} {lo hi:Option Operand} {rx:AO} {rlo rhi:Option AO} {k:Nat} (ho:o.op= .slice t x lo hi none) (ht:P.underlying t=some (.slice e)) (hk:CG P e=some (k+1)) (hx:Ad x=some rx) (hlo:SJ lo=some rlo) (hhi:SJ hi=some rhi)
    (h:AF P F S K (.slice (k+1) rx rlo rhi)):Al P ((execOp a.eval o).run P w) (CQ K E fz S w):=by
  have hr:=Ac hF hx;simp only [AF,AD] at h;generalize rd F rx=X at*;have go: ∀ {ao:Option Addr} {n c j h:Nat} {y:AA},a.eval x= .slice ao n c->j<=h->h<=n->n<=c->((lo.map a.eval=none/\j=0)\/ ∃k,lo.map a.eval=some (.int k (j:Int)))->((hi.map a.eval=none/\h=n)\/ ∃k,hi.map a.eval=some (.int k (h:Int)))->
      K y S->Rel E fz w y (.slice (if c=j then ao else ao.map (·.add (j*(k+1)))) (h-j) (c-j))->Al P ((execOp a.eval o).run P w) (CQ K E fz S w):=fun {ao n c j h y} ex q1 q2 q3 g1 g2 hk' hrel=>by
    have hb:=YK (P:=P) (w:=w) (isS:=true) q1 q2 q3 g1 g2;refine Ak st ?_ hk' hrel;simp [execOp,ho,Instr.sliceAt,run_underlying ht,Instr.slice,ex,hb,Dt hk]
  cases X<;>first | exact h.elim | skip
  case AL=>
    simp only at h;obtain ⟨j,hh,⟨rfl,rfl,q3⟩,g1,g2⟩:=Mx hF hlo hhi h;simp only [Rel] at hr;exact go hr (Nat.le_refl _) (Nat.le_refl _) (Nat.le_refl _) g1 g2 q3 (by simp [Rel])
  case sl l ver off n=>
    simp only at h;obtain ⟨j,hh,⟨q1,q2,q3⟩,g1,g2⟩:=Mx hF hlo hhi h;obtain ⟨k',cs,hl,rfl,hk'⟩:=AP.1 q3;simp only [Rel] at hr;rcases hr with ⟨rfl,ao,ex⟩ | ⟨b,base,cap,kk,c,hE,hle,hcap,ex⟩
    · obtain rfl:hh=0:=by omega
      obtain rfl:j=0:=by omega
      exact go ex (Nat.le_refl _) (Nat.le_refl _) (Nat.le_refl _) g1 g2 hk' (by simp [Rel])
    · have hkk:kk=k+1:=by
        rcases st.ok l _ hl with ⟨p1,_⟩ | ⟨_,_,_,_,_,_,_,p1,_⟩<;>rw [hE] at p1<;>cases p1;rfl
      subst hkk;refine go ex q1 q2 hle g1 g2 hk' ?_;simp only [Rel];by_cases e:c=j
      · exact .inl ⟨by omega,_,by rw [if_pos e,e,Nat.sub_self,show hh-j=0 by omega]⟩
      · refine .inr ⟨b,base,cap,k+1,c-j,hE,by omega,?_,by rw [if_neg e];simp [IY,Nat.add_assoc]⟩
        have:j*(k+1)+(c-j)*(k+1)=c*(k+1):=by rw [<-Nat.add_mul,Nat.add_sub_cancel' (by omega)]
        omega
  case Ez n cs=>
    simp only at h;obtain ⟨j,hh,⟨q1,q2,q3,hk'⟩,g1,g2⟩:=Mx hF hlo hhi h;simp only [Rel] at hr;rcases hr with ⟨rfl,ao,c,ex⟩ | ⟨b,off,c,hb,hle,ex,hc⟩
    · obtain rfl:hh=0:=by omega
      obtain rfl:j=0:=by omega
      exact go ex (Nat.le_refl _) (Nat.le_refl _) (Nat.zero_le _) g1 g2 hk' (by simp [Rel])
    · refine go ex q1 q2 hle g1 g2 hk' ?_
      simp only [Rel];by_cases e:c=j
      · exact .inl ⟨by omega,_,_,by rw [if_pos e,show hh-j=0 by omega]⟩
      · exact .inr ⟨b,off+j*(k+1),c-j,hb,by omega,by rw [if_neg e];simp [IY],(hc.drop _).take _⟩
end
end Go.Vc
end
section
namespace Go.Vc
section
variable {P : Program} {E : Env} {fz : Nat -> Prop} {S : AB} {w : World} {F : Frame} {a : Act} {K : AA -> AB -> Prop} {ro : Bool}
theorem Eh (z:List AA) (n:Nat):(List.replicate n z).flatten.length=n*z.length:=by
  induction n with
  | zero=>simp
  | succ n ih=>simp [List.replicate_succ,Nat.succ_mul];omega
theorem Uk (z:List AA) (n i:Nat) (hi:i<n*z.length):(List.replicate n z).flatten[i]?=z[i%z.length]?:=by
  induction n generalizing i with
  | zero=>simp at hi
  | succ n ih=>
    simp only [List.replicate_succ,List.flatten_cons];by_cases h:i<z.length
    · rw [List.getElem?_append_left h,Nat.mod_eq_of_lt h]
    · rw [List.getElem?_append_right (by omega),ih _ (by rw [Nat.add_mul,Nat.one_mul] at hi;omega),<-Nat.mod_eq_sub_mod (by omega)]
theorem Rb {z:List AA} {v:Value} (h:AZ E fz w z v.cells.toList) (h1: ∀c∈v.cells.toList,c.oneCell'=true) (hz:0<z.length) (n:Nat):
    AZ E fz w (List.replicate n z).flatten (madeCells v.cells (n*z.length)).toList/\ ∀c∈(madeCells v.cells (n*z.length)).toList,c.oneCell'=true:=by
  have hl:=h.length;have hsz:v.cells.size=z.length:=by simpa using hl
  have get: ∀i,i<n*z.length-> ∃c,(madeCells v.cells (n*z.length)).toList[i]?=some c/\v.cells.toList[i%z.length]?=some c:=fun i hi=>by
    have hm:i%z.length<v.cells.size:=by rw [hsz];exact Nat.mod_lt _ hz
    refine ⟨v.cells[i%z.length],?_,by simp⟩;simp [madeCells,hi,hsz];exact getElem!_pos v.cells (i%z.length) hm
  refine ⟨AZ.mk (by simp [madeCells,Eh]) fun i x u hx hu=>?_,fun c hc=>?_⟩
  · have hi:i<n*z.length:=by
      have:=(List.getElem?_eq_some_iff.1 hx).1;rwa [Eh] at this
    rw [Uk z n i hi] at hx;obtain ⟨c,g1,g2⟩:=get i hi;rw [hu] at g1;cases g1;obtain ⟨u',q1,q2⟩:=h.get hx;rw [g2] at q1;cases q1;exact q2
  · obtain ⟨i,hi,e⟩:=List.mem_iff_getElem.1 hc
    have hi':i<n*z.length:=by simpa [madeCells] using hi
    obtain ⟨c',g1,g2⟩:=get i hi';rw [List.getElem?_eq_getElem hi,e] at g1;cases g1;exact h1 c (List.mem_of_getElem? g2)
theorem Xj (st:St E fz S w) (hF:CH E fz w F a.tmps) {o:Oper} {t e:TypeId} {x y:Operand} {rx ry:AO} {n b:Nat} {z:List AA} (ho:o.op= .makeSlice t x y) (ht:P.underlying t=some (.slice e)) (hn:CG P e=some n) (hb:Tl P e=some b) (hz:IK P e=some z) (h0:0<n) (hb0:0<b) (hzl:z.length=n) (hx:Ad x=some rx) (hy:Ad y=some ry)
    (h:AF P F S K (.Hq n b z rx ry)):Al P ((execOp a.eval o).run P w) (CQ K E fz S w):=by
  have hr1:=Ac hF hx;have hr2:=Ac hF hy;simp only [AF,AD,A5] at h;obtain ⟨k,m,ex,hyx,hm,hk⟩:=Ep h;obtain ⟨kc,c,ey,hmc,hbc⟩: ∃kc,∃c:Nat,rd F ry= .int kc (c:Int)/\m<=c/\b*c<=140737488355328:=by
    rcases hyx with hyx | hyx
    · exact ⟨k,m,by rw [hyx,ex],Nat.le_refl _,hm⟩
    · exact hyx
  rw [ey] at hr2;rw [ex] at hr1;simp only [Rel] at hr1 hr2;have hzz: ∃i zv,P.info? e=some i/\i.zero=some zv/\ZZ zv.cells.toList=some z/\i.size=n/\i.bytes=b:=by
    unfold IK at hz;unfold CG at hn;unfold Tl at hb;split at hz
    · rename_i i hi
      rw [hi] at hn hb;split at hz
      · rename_i zv hzv
        exact ⟨i,zv,hi,hzv,hz,by simpa using hn,by simpa using hb⟩
      · cases hz
    · cases hz
  obtain ⟨i,zv,hi,hzv,hab,hsz,hby⟩:=hzz;have hmm:c<=b*c:=Nat.le_mul_of_pos_left c hb0;have hrun:=run_make (P:=P) w t e i zv ht hi hzv k kc (m:Int) (c:Int) (by omega) (by omega) (by rw [hby,<-Int.natCast_mul];omega) (by omega);have hrel:=KW (E:=E) (fz:=fz) (w:=w) hab;obtain ⟨g1,g2⟩:=Rb hrel.1 hrel.2 (by omega) m;rw [hzl] at g1 g2;have hmn:m*n<=c*n:=Nat.mul_le_mul_right n hmc;have htk:(madeCells zv.cells (c*n)).toList.take (m*n)=(madeCells zv.cells (m*n)).toList:=List.ext_getElem (by rw [List.length_take,Array.length_toList,Array.length_toList,size_madeCells,size_madeCells];omega) fun i h1 h2=>by simp [madeCells]
  have hsp:(madeCells zv.cells (c*n)).toList=(madeCells zv.cells (m*n)).toList++(madeCells zv.cells (c*n)).toList.drop (m*n):=by rw [<-htk,List.take_append_drop]
  obtain ⟨ver,E',q1,q2,q3⟩:=LM (w':=w.alloc (.cells (madeCells zv.cells (c*n)) e)) st (rest:=(madeCells zv.cells (c*n)).toList.drop (m*n)) (T:=e) n g1 g2 (by rw [<-hsp];rfl) rfl rfl (Tp.of rfl (Nat.le_refl _));have hlen:(madeCells zv.cells (c*n)).toList.length=c*n:=by simp [madeCells]
  rw [<-hsp] at q1;refine C_ st (v:= .slice (some ⟨w.heap.size,0,none⟩) m c) (w':=w.alloc (.cells (madeCells zv.cells (c*n)) e)) ?_ ⟨.sl S.length ver 0 m,_,E',fz,hk ver,q3,q2,?_⟩
  · simp only [execOp,ho,hr1,hr2]
    simp only [Int.toNat_natCast,hsz] at hrun;simp [hrun]
  · simp only [Rel]
    refine .inr ⟨_,_,_,_,c,q1,hmc,?_,rfl⟩;simp [hlen]
def mX:Ni->TypeDesc | .str=>.string | .int k=>.int k | .bool=>.bool
theorem Sl {t:TypeId} {q:Ni} (h:dS P t=some q):P.underlying t=some (mX q):=by
  unfold dS at h;split at h<;>first | (cases h;assumption) | cases h
theorem WB {q:Ni} {y:AA} {v:Value} (hq:I5 q y=true) (hr:Rel E fz w y v):MapKept.IsKey (mX q) v:=by
  cases q<;>cases y<;>simp only [I5,Bool.false_eq_true] at hq<;>simp only [Rel] at hr<;>subst hr<;>simp only [mX,MapKept.IsKey];exact (of_decide_eq_true hq).symm
theorem pj {q:Ni} {y k:AA} {v u:Value} (h1:I5 q y=true) (h2:I5 q k=true) (hv:Rel E fz w y v) (hu:Rel E fz w k u):LJ y k=true↔v=u:=by
  cases q<;>cases y<;>simp only [I5,Bool.false_eq_true] at h1<;>cases k<;>simp only [I5,Bool.false_eq_true] at h2<;>simp only [Rel] at hv hu<;>subst hv<;>subst hu<;>simp only [LJ,beq_iff_eq]
  · simp
  · have e1:=of_decide_eq_true h1
    have e2:=of_decide_eq_true h2;subst e1;subst e2;simp
  · simp
theorem LU.get {es:List (AA×AA)} {ms:List MapEntry} (h:LU E fz w es ms):es.length=ms.length/\ ∀(i:Nat) (m:MapEntry),ms[i]?=some m-> ∃k v,es[i]?=some (k,v)/\Rel E fz w k m.key/\Rel E fz w v m.val:=by
  induction h with
  | nil=>exact ⟨rfl,fun i m h=>by simp at h⟩
  | cons hk hv _ ih=>
    refine ⟨by simp [ih.1],fun i m h=>?_⟩;cases i with
    | zero=>simp at h;subst h;exact ⟨_,_,rfl,hk,hv⟩
    | succ i=>simpa using ih.2 i m (by simpa using h)
theorem LU.of: ∀ {es:List (AA×AA)} {ms:List MapEntry},es.length=ms.length->(∀(i:Nat) k v m,es[i]?=some (k,v)->ms[i]?=some m->Rel E fz w k m.key/\Rel E fz w v m.val)->LU E fz w es ms
  | [],[],_,_=>.nil
  | [],_::_,h,_=>by simp at h
  | _::_,[],h,_=>by simp at h
  | (k,v)::es,m::ms,h,g=>.cons (g 0 k v m rfl rfl).1 (g 0 k v m rfl rfl).2 (LU.of (by simpa using h) fun i k v m h1 h2=>g (i+1) k v m (by simpa using h1) (by simpa using h2))
theorem O3 {q:Ni} {y:AA} {ky:Value} (hq:I5 q y=true) (hy:Rel E fz w y ky): ∀ {es:List (AA×AA)} {ms:List MapEntry},LU E fz w es ms->(∀e∈es,I5 q e.1=true)-> ∀i,
    (IF y es=none/\Instr.findNow (mX q) ky ms i=some none)\/ ∃j x m,IF y es=some (j,x)/\Instr.findNow (mX q) ky ms i=some (some (i+j,m.val))/\ms[j]?=some m/\m.key=ky/\Rel E fz w x m.val
  | _,_,.nil,_,i=>.inl ⟨rfl,rfl⟩
  | (k,x)::es,m::ms,.cons hk hv hr,ho,i=>by
    have o1:=ho (k,x) (by simp);obtain ⟨r,g1,g2⟩:=MapKept.sameNow_of_keys (WB hq hy) (WB o1 hk);have g3:=pj hq o1 hy hk;cases r with
    | true=>
      have e:=g2.1 rfl;refine .inr ⟨0,x,m,?_,by simp [Instr.findNow,g1],rfl,e.symm,hv⟩;unfold IF;rw [g3.2 e]
    | false=>
      have e:LJ y k=false:=by
        cases h:LJ y k with
        | false=>rfl
        | true=>have:=g2.2 (g3.1 h);cases this
      rcases O3 hq hy hr (fun e he=>ho e (by simp [he])) (i+1) with ⟨h1,h2⟩ | ⟨j,x',m',h1,h2,h3,h4,h5⟩
      · exact .inl ⟨by unfold IF;rw [e,h1],by simp [Instr.findNow,g1,h2]⟩
      · refine .inr ⟨j+1,x',m',by unfold IF;rw [e,h1],?_,by simpa using h3,h4,h5⟩
        simp only [Instr.findNow,g1,h2,Option.some.injEq,Prod.mk.injEq,and_true];omega
theorem tM (st:St E fz S w) {w':World} (hw:w'.heap=w.heap.push (.map #[] 0)) (g1:w'.os=w.os) (g2:w'.output=w.output) (g3:Tp w w'):
    ∃ver E',E' ver=some (.Xi w.heap.size)/\St E' fz (S++[.DA ver []]) w'/\Ext E fz S w E' fz (S++[.DA ver []]) w':=by
  obtain ⟨n,hn⟩:=st.fresh;have hE: ∀v x,E v=some x->(fun v=>if v=n then some (Bk.Xi w.heap.size) else E v) v=some x:=fun v x hx=>by
    have:v≠n:=fun e=>by subst e;rw [hn v (Nat.le_refl _)] at hx;cases hx
    simp [this,hx]
  have hlt: ∀b:Nat,b<w.heap.size->w'.heap[b]?=w.heap[b]?:=fun b hb=>by
    rw [hw,Array.getElem?_push,if_neg (by omega)]
  have hnew:w'.heap[w.heap.size]?=some (.map #[] 0):=by rw [hw];simp
  refine ⟨n,fun v=>if v=n then some (.Xi w.heap.size) else E v,by simp,
    st.fy S.length (.DA n []) hE ⟨n+1,fun v hv=>by simp [hn v (by omega),show v≠n by omega]⟩ (fun l' hl'=>?_) (by simp) (by rw [hw];simp) (fun b hb _=>hlt b hb) (fun b hb=>.inr ?_) ?_ g1 g2 g3⟩
  · rw [List.getElem?_append]
    split
    · rfl
    · rename_i hh
      rw [List.getElem?_eq_none (by simp;omega),List.getElem?_eq_none (by omega)]
  · simp [AU] at hb;omega
  · exact ⟨w.heap.size,#[],0,by simp,hnew,⟨.nil,rfl,fun i m h=>by simp at h⟩,fun hf=>by have:=st.Gi _ hf;omega⟩
theorem Rl (st:St E fz S w) {l v b:Nat} {es es':List (AA×AA)} {en':Array MapEntry} {en:Array MapEntry} {cl:Nat} (hl:S[l]?=some (.DA v es)) (hE:E v=some (.Xi b)) (hb:w.heap[b]?=some (.map en cl)) (hf: ¬fz b)
    {w':World} (hw:w'={w with heap:=w.heap.setIfInBounds b (.map en' en'.size)})
    (hr:LU E fz w es' en'.toList) (hbo: ∀(i:Nat) m,en'[i]?=some m->m.born=i):
    St E fz (S.set l (.DA v es')) w'/\Ext E fz S w E fz (S.set l (.DA v es')) w':=by
  subst hw;have hlt:l<S.length:=(List.getElem?_eq_some_iff.1 hl).1;obtain ⟨h1,h2⟩:=MapKept.heap_set (o':= .map en' en'.size) hb;have own:Dh E S l b:=⟨_,hl,by simp [AU,hE]⟩
  refine st.fy l (.DA v es') (fun _ _ h=>h) st.fresh (fun l' hl'=>by rw [List.getElem?_set_ne (Ne.symm hl')]) (by simp [hlt]) (by simp) (fun b' hb' hno=>h2 b' fun e=>hno (e▸own)) (fun b' hb'=>.inl ?_) ?_ rfl rfl (Tp.of rfl (Nat.le_refl _))
  · simp only [AU,hE,Option.some.injEq] at hb';subst hb';exact own
  · exact ⟨b,en',en'.size,hE,h1,⟨hr.mono (fun _ _ h=>h) (fun _ h=>h) (fun b' hb'=>h2 b' fun e=>hf (e▸hb')),rfl,hbo⟩,hf⟩
theorem OC (st:St E fz S w) {o:Oper} {t k e:TypeId} {r:Option Operand} (ho:o.op= .makeMap t r) (ht:P.underlying t=some (.map k e)) (hc:r=none\/ ∃j n,r=some (.const (.int j n)))
    (h:AF P F S K .NR):Al P ((execOp a.eval o).run P w) (CQ K E fz S w):=by
  simp only [AF,A5] at h;obtain ⟨ver,E',q1,q2,q3⟩:=tM (w':=w.alloc (.map #[] 0)) st rfl rfl rfl (Tp.of rfl (Nat.le_refl _));refine C_ st (v:= .map (some w.heap.size)) (w':=w.alloc (.map #[] 0)) ?_ ⟨.map S.length ver,_,E',fz,h ver,q3,q2,by simp only [Rel];exact ⟨_,q1,rfl⟩⟩;rcases hc with rfl | ⟨j,n,rfl⟩
  · simp [execOp,ho,Instr.makeMap]
  · simp [execOp,ho,Instr.makeMap,run_underlying ht,Act.eval,asInt,asIntOf,Result.andThen]
theorem Re (st:St E fz S w) {o:Oper} {t k e:TypeId} {r:Option Operand} {d:Nat} (ho:o.op= .makeMap t r) (ht:P.underlying t=some (.map k e)) (hc:r=none\/ ∃j n,r=some (.const (.int j n)))
    (h:AF P F S K (.J5 d)):Al P ((execOp a.eval o).run P w) (CQ K E fz S w):=by
  simp only [AF] at h;obtain ⟨h1,h2,h3,h4⟩:=h;refine (OC (F:=F) (K:=fun r S'=> ∃v,r= .map S.length v/\S'=S++[.DA v []]) st ho ht hc (by simp only [AF,A5];exact fun v=>⟨v,rfl,rfl⟩)).mono fun v w' hp=>hp.sub fun r S' ⟨v,e1,e2⟩=>?_;subst e1;subst e2;exact ⟨.map (S.length-d) v,_,_,.map,Sub.put (by omega),h4 v⟩
theorem ZC {t:TypeId} {z:AA} (h:Ys P t=some z): ∃v,lP v=some z/\ ∀w:World,(zeroValue t).run P w= .ok v w:=by
  unfold Ys at h;split at h
  · rename_i i hi
    split at h
    · rename_i v hv
      exact ⟨v,h,fun w=>by simp [zeroValue,Hg hi,hv,Result.andThen]⟩
    · cases h
  · cases h
theorem dr (st:St E fz S w) (hF:CH E fz w F a.tmps) {o:Oper} {t kt e:TypeId} {m k:Operand} {ok:Bool} {rm rk:AO} {q:Ni} {z:AA} (ho:o.op= .lookup t m k ok) (ht:P.underlying t=some (.map kt e)) (hq:dS P kt=some q) (hz:Ys P e=some z) (hm:Ad m=some rm) (hk:Ad k=some rk)
    (h:AF P F S K (.LL q ok z rm rk)):Al P ((execOp a.eval o).run P w) (CQ K E fz S w):=by
  have r1:=Ac hF hm;have r2:=Ac hF hk;obtain ⟨zv,z1,z2⟩:=ZC hz;have hd:=Sl hq;simp only [AF,AD] at h;obtain ⟨hko,h⟩:=h;have ik:=WB hko r2;have zr:Rel E fz w z zv:=Qo z1;have fin: ∀ {x:AA} {v:Value} {b:Bool},(Instr.lookup t (a.eval m) (a.eval k) ok).run P w= .ok (if ok then .tuple #[v,.bool b] else v) w->Rel E fz w x v->K (UJ ok x b) S->Al P ((execOp a.eval o).run P w) (CQ K E fz S w):=fun {x v b} hr hx hK=>by
    refine Ak st (v:=if ok then .tuple #[v,.bool b] else v) (by simp [execOp,ho,hr]) hK ?_;cases ok
    · exact hx
    · exact ⟨[v,.bool b],rfl,⟨_,_,rfl,hx,⟨_,_,rfl,rfl,rfl⟩⟩⟩
  generalize rd F rm=X at*;cases X<;>first | exact h.elim | skip
  case map l v=>
    obtain ⟨es,hl,ho',hK⟩:=C7.1 h;simp only [Rel] at r1;obtain ⟨b,hE,em⟩:=r1;obtain ⟨b',en,cl,hE',hb,⟨hr,_,_⟩,hf⟩:=st.ok l _ hl;rw [hE] at hE';cases hE';rcases O3 hko r2 hr ho' 0 with ⟨g1,g2⟩ | ⟨j,x,me,g1,g2,g3,g4,g5⟩
    · rw [g1] at hK
      refine fin (x:=z) (v:=zv) (b:=false) ?_ zr hK;simp [Instr.lookup,run_underlying ht,em,MapKept.run_getObj_map hb,MapKept.run_checkKey hd ik,MapKept.run_findKey hd g2,z2,Result.andThen]
    · rw [g1] at hK
      refine fin (x:=x) (v:=me.val) (b:=true) ?_ g5 hK;simp [Instr.lookup,run_underlying ht,em,MapKept.run_getObj_map hb,MapKept.run_checkKey hd ik,MapKept.run_findKey hd g2,Result.andThen]
  case I4=>
    simp only [Rel] at r1;refine fin (x:=z) (v:=zv) (b:=false) ?_ zr h;have g2:Instr.findNow (mX q) (a.eval k) [] 0=some none:=rfl;simp [Instr.lookup,run_underlying ht,r1,MapKept.run_checkKey hd ik,MapKept.run_findKey hd g2,z2,Result.andThen]
theorem YJ {en:Array MapEntry} (h: ∀(i:Nat) m,en[i]?=some m->m.born=i) {k v:Value}: ∀(i:Nat) m,(en.push {key:=k,val:=v,born:=en.size})[i]?=some m->m.born=i:=fun i m hi=>by
  rw [Array.getElem?_push] at hi;split at hi
  · cases hi;simp_all
  · exact h i m hi
theorem Vd {en:Array MapEntry} (h: ∀(i:Nat) m,en[i]?=some m->m.born=i) {j:Nat} {f:MapEntry->MapEntry} (hf: ∀m,(f m).born=m.born): ∀(i:Nat) m,(en.modify j f)[i]?=some m->m.born=i:=fun i m hi=>by
  rw [Array.getElem?_modify] at hi;split at hi
  · cases hg:en[i]? with
    | none=>rw [hg] at hi;cases hi
    | some m'=>rw [hg] at hi;cases hi;rw [hf];exact h i m' hg
  · exact h i m hi
theorem Y_ {es:List (AA×AA)} {en:Array MapEntry} (h:LU E fz w es en.toList) {y u:AA} {ky x:Value} {n:Nat} (h1:Rel E fz w y ky) (h2:Rel E fz w u x):LU E fz w (es++[(y,u)]) (en.push {key:=ky,val:=x,born:=n}).toList:=by
  obtain ⟨g1,g2⟩:=h.get;refine LU.of (by simp at g1 |-;omega) fun i k v m a1 a2=>?_;rw [Array.toList_push] at a2;rw [List.getElem?_append] at a1 a2;rw [g1] at a1;split at a1
  · rename_i hi
    rw [if_pos hi] at a2;obtain ⟨k',v',b1,b2,b3⟩:=g2 i m a2;rw [a1] at b1;cases b1;exact ⟨b2,b3⟩
  · rename_i hi
    rw [if_neg hi] at a2;have hz:i-en.toList.length=0:=by
      have:=(List.getElem?_eq_some_iff.1 a2).1;simp only [List.length_singleton] at this;omega
    rw [hz] at a1 a2;cases a1;cases a2;exact ⟨h1,h2⟩
theorem Wv {es:List (AA×AA)} {en:Array MapEntry} (h:LU E fz w es en.toList) {j:Nat} {f:MapEntry->MapEntry} {y u:AA} (hf: ∀m,en[j]?=some m->Rel E fz w y (f m).key/\Rel E fz w u (f m).val):LU E fz w (es.set j (y,u)) (en.modify j f).toList:=by
  obtain ⟨g1,g2⟩:=h.get;refine LU.of (by simp at g1 |-;omega) fun i k v m a1 a2=>?_;rw [Array.getElem?_toList,Array.getElem?_modify] at a2;rw [List.getElem?_set] at a1;split at a2
  · rename_i hj
    rw [if_pos hj] at a1;cases hg:en[i]? with
    | none=>rw [hg] at a2;cases a2
    | some m'=>
      rw [hg] at a2;cases a2;split at a1
      · cases a1;exact hf m' (by rw [hj];exact hg)
      · cases a1
  · rename_i hj
    rw [if_neg hj] at a1;obtain ⟨k',v',b1,b2,b3⟩:=g2 i m (by rw [Array.getElem?_toList];exact a2);rw [a1] at b1;cases b1;exact ⟨b2,b3⟩
theorem WS {en:Array MapEntry} {j:Nat} {f:MapEntry->MapEntry}:(en.modify j f).size=en.size:=by simp
theorem WU (st:St E fz S w) (hF:CH E fz w F a.tmps) {o:Oper} {t kt e:TypeId} {m k x:Operand} {rm rk rx:AO} {q:Ni} (ho:o.op= .mapUpdate t m k x\/o.op= .insert t m k x) (ht:P.underlying t=some (.map kt e)) (hq:dS P kt=some q) (hm:Ad m=some rm) (hk:Ad k=some rk) (hx:Ad x=some rx)
    (h:AF P F S K (.aZ q rm rk rx)):Al P ((execOp a.eval o).run P w) (CQ K E fz S w):=by
  have r1:=Ac hF hm;have r2:=Ac hF hk;have r3:=Ac hF hx;have hd:=Sl hq;simp only [AF,AD] at h;obtain ⟨hko,h⟩:=h;have ik:=WB hko r2;generalize rd F rm=X at*;cases X<;>first | exact h.elim | skip
  case map l v=>
    obtain ⟨es,hl,ho',hK⟩:=C7.1 h;rw [Cj] at hK;simp only [Rel] at r1;obtain ⟨b,hE,em⟩:=r1;obtain ⟨b',en,cl,hE',hb,⟨hr,rfl,hbo⟩,hf⟩:=st.ok l _ hl;rw [hE] at hE';cases hE';have fin: ∀ {w':World},(Instr.mapUpdate t (a.eval m) (a.eval k) (a.eval x)).run P w= .ok () w'->St E fz (S.set l (.DA v (H8 (rd F rk) (rd F rx) es))) w'->Ext E fz S w E fz (S.set l (.DA v (H8 (rd F rk) (rd F rx) es))) w'->Al P ((execOp a.eval o).run P w) (CQ K E fz S w):=fun {w'} hr q2 q3=>by
      have hrun:(execOp a.eval o).run P w= .ok .skip w':=by
        rcases ho with ho | ho<;>simp [execOp,ho,hr]
      rw [hrun];exact ⟨.C3,_,E,fz,hK.2,q3,q2,by simp [Rel]⟩
    rcases O3 hko r2 hr ho' 0 with ⟨g1,g2⟩ | ⟨j,y,me,g1,g2,g3,g4,g5⟩
    · have ek:H8 (rd F rk) (rd F rx) es=es++[(rd F rk,rd F rx)]:=by unfold H8;rw [g1]
      rw [ek] at fin;obtain ⟨q2,q3⟩:=Rl (es':=es++[(rd F rk,rd F rx)]) (en':=en.push {key:=a.eval k,val:=a.eval x,born:=en.size}) st hl hE hb hf rfl (Y_ hr r2 r3) (YJ hbo);refine fin ?_ q2 q3;simp [Instr.mapUpdate,run_underlying ht,em,MapKept.run_getObj_map hb,MapKept.run_checkKey hd ik,MapKept.run_findKey hd g2,MapKept.run_setObj_map _ hb,Result.andThen]
    · have hj:en[j]?=some me:=by simpa using g3
      have ek:H8 (rd F rk) (rd F rx) es=es.set j (rd F rk,rd F rx):=by unfold H8;rw [g1]
      rw [ek] at fin;obtain ⟨q2,q3⟩:=Rl (es':=es.set j (rd F rk,rd F rx)) (en':=en.modify j fun e=>{e with key:=a.eval k,val:=a.eval x}) st hl hE hb hf rfl (Wv hr fun _ _=>⟨r2,r3⟩) (Vd hbo fun _=>rfl);rw [WS] at q2 q3;refine fin ?_ q2 q3;simp [Instr.mapUpdate,run_underlying ht,em,MapKept.run_getObj_map hb,MapKept.run_checkKey hd ik,MapKept.run_findKey hd g2,hj,g4,MapKept.run_keyThatStays ik,MapKept.run_setObj_map _ hb,Result.andThen]
theorem jC (st:St E fz S w) (hF:CH E fz w F a.tmps) {o:Oper} {t kt e:TypeId} {m k:Operand} {rm rk:AO} {q:Ni} {z:AA} (ho:o.op= .mapEntry t m k) (ht:P.underlying t=some (.map kt e)) (hq:dS P kt=some q) (hz:Ys P e=some z) (hm:Ad m=some rm) (hk:Ad k=some rk)
    (h:AF P F S K (.m_ q z rm rk)):Al P ((execOp a.eval o).run P w) (CQ K E fz S w):=by
  have r1:=Ac hF hm;have r2:=Ac hF hk;obtain ⟨zv,z1,z2⟩:=ZC hz;have hd:=Sl hq;simp only [AF,AD] at h;obtain ⟨hko,h⟩:=h;have ik:=WB hko r2;have zr:Rel E fz w z zv:=Qo z1;generalize rd F rm=X at*;cases X<;>first | exact h.elim | skip
  case map l v=>
    obtain ⟨es,hl,ho',hK⟩:=C7.1 h;simp only [Rel] at r1;obtain ⟨b,hE,em⟩:=r1;obtain ⟨b',en,cl,hE',hb,⟨hr,rfl,hbo⟩,hf⟩:=st.ok l _ hl;rw [hE] at hE';cases hE';have hlen:es.length=en.size:=by simpa using hr.get.1
    rcases O3 hko r2 hr ho' 0 with ⟨g1,g2⟩ | ⟨j,y,me,g1,g2,g3,g4,g5⟩
    · rw [g1] at hK
      simp only [Cj] at hK;obtain ⟨q2,q3⟩:=Rl (es':=es++[(rd F rk,z)]) (en':=en.push {key:=a.eval k,val:=zv,born:=en.size}) st hl hE hb hf rfl (Y_ hr r2 zr) (YJ hbo);refine C_ st (v:= .tuple #[zv,goInt en.size]) (w':={w with heap:=w.heap.setIfInBounds b (.map (en.push {key:=a.eval k,val:=zv,born:=en.size}) (en.push {key:=a.eval k,val:=zv,born:=en.size}).size)}) ?_ ⟨_,_,E,fz,hK.2,q3,q2,?_⟩
      · simp [execOp,ho,Instr.mapEntry,run_underlying ht,em,MapKept.run_getObj_map hb,MapKept.run_checkKey hd ik,MapKept.run_findKey hd g2,MapKept.run_setObj_map _ hb,z2,Result.andThen]
      · rw [hlen]
        exact ⟨[zv,goInt en.size],rfl,⟨_,_,rfl,Qo z1,⟨_,_,rfl,rfl,rfl⟩⟩⟩
    · have hj:en[j]?=some me:=by simpa using g3
      rw [g1] at hK;simp only [Cj] at hK;obtain ⟨q2,q3⟩:=Rl (es':=es.set j (rd F rk,y)) (en':=en.modify j fun e=>{e with key:=a.eval k}) st hl hE hb hf rfl (Wv hr fun m hm'=>⟨r2,by rw [hj] at hm';cases hm';exact g5⟩) (Vd hbo fun _=>rfl);rw [WS] at q2 q3;refine C_ st (v:= .tuple #[me.val,goInt j]) (w':={w with heap:=w.heap.setIfInBounds b (.map (en.modify j fun e=>{e with key:=a.eval k}) en.size)}) ?_ ⟨_,_,E,fz,hK.2,q3,q2,?_⟩
      · simp [execOp,ho,Instr.mapEntry,run_underlying ht,em,MapKept.run_getObj_map hb,MapKept.run_checkKey hd ik,MapKept.run_findKey hd g2,hj,g4,MapKept.run_keyThatStays ik,MapKept.run_setObj_map _ hb,hbo j me hj,Result.andThen]
      · exact ⟨[me.val,goInt j],rfl,⟨_,_,rfl,St.rel st q3 g5,⟨_,_,rfl,rfl,rfl⟩⟩⟩
theorem jE (st:St E fz S w) (hF:CH E fz w F a.tmps) {o:Oper} {t:TypeId} {m i x:Operand} {rm ri rx:AO} (ho:o.op= .entryStore t m i x) (hm:Ad m=some rm) (hi:Ad i=some ri) (hx:Ad x=some rx)
    (h:AF P F S K (.nC rm ri rx)):Al P ((execOp a.eval o).run P w) (CQ K E fz S w):=by
  have r1:=Ac hF hm;have r2:=Ac hF hi;have r3:=Ac hF hx;simp only [AF,AD] at h;obtain ⟨kk,j,ej,h⟩:=Ep h;rw [ej] at r2;simp only [Rel] at r2;generalize rd F rm=X at*;cases X<;>first | exact h.elim | skip
  case map l v _=>
    obtain ⟨es,hl,hK⟩:=C7.1 h;split at hK
    · rename_i en0 hes
      rw [Cj] at hK;simp only [Rel] at r1;obtain ⟨b,hE,em⟩:=r1;obtain ⟨b',en,cl,hE',hb,⟨hr,rfl,hbo⟩,hf⟩:=st.ok l _ hl;rw [hE] at hE';cases hE';obtain ⟨hlen,hget⟩:=hr.get;have hjl:j<en.size:=by have:=(List.getElem?_eq_some_iff.1 hes).1;simp at hlen;omega
      obtain ⟨me,hme⟩: ∃me,en[j]?=some me:=⟨_,Array.getElem?_eq_getElem hjl⟩
      obtain ⟨k',v',b1,b2,b3⟩:=hget j me (by simpa using hme);rw [hes] at b1;cases b1;have hfi:en.findIdx? (fun e=>(e.born:Int) == (j:Int))=some j:=by
        rw [Array.findIdx?_eq_some_iff_getElem];refine ⟨hjl,?_,fun i hij=>?_⟩
        · have:=hbo j _ (Array.getElem?_eq_getElem hjl)
          simp [this]
        · have:=hbo i _ (Array.getElem?_eq_getElem (by omega))
          simp only [this,Bool.not_eq_true,beq_eq_false_iff_ne];omega
      obtain ⟨q2,q3⟩:=Rl (es':=es.set j (k',rd F rx)) (en':=en.modify j fun e=>{e with val:=a.eval x}) st hl hE hb hf rfl (Wv hr fun m hm'=>⟨by rw [hme] at hm';cases hm';exact b2,r3⟩) (Vd hbo fun _=>rfl);rw [WS] at q2 q3;have hrun:(execOp a.eval o).run P w= .ok .skip {w with heap:=w.heap.setIfInBounds b (.map (en.modify j fun e=>{e with val:=a.eval x}) en.size)}:=by
        simp [execOp,ho,Instr.entryStore,em,MapKept.run_getObj_map hb,r2,asInt,asIntOf,hfi,MapKept.run_setObj_map _ hb,Result.andThen]
      rw [hrun];exact ⟨.C3,_,E,fz,hK.2,q3,q2,by simp [Rel]⟩
    · exact hK.elim
theorem i_ (st:St E fz S w) {l v:Nat} {es:List (AA×AA)} (hl:S[l]?=some (.DA v es)): ∃b en,E v=some (.Xi b)/\w.heap[b]?=some (.map en en.size)/\LU E fz w es en.toList/\(∀(i:Nat) m,en[i]?=some m->m.born=i)/\ ¬fz b:=by
  obtain ⟨b,en,cl,h1,h2,⟨h3,rfl,h4⟩,h5⟩:=st.ok l _ hl;exact ⟨b,en,h1,h2,h3,h4,h5⟩
theorem qB (st:St E fz S w) {mv m since:Nat} (hm:E mv=some (.Xi m)) {w':World} (hw:w'.heap=w.heap.push (.mapIter (some m) since #[] since)) (g1:w'.os=w.os) (g2:w'.output=w.output) (g3:Tp w w'):
    ∃ver E',E' ver=some (.real w.heap.size 0 0 0)/\St E' fz (S++[.FO ver mv since since []]) w'/\Ext E fz S w E' fz (S++[.FO ver mv since since []]) w':=by
  obtain ⟨n,hn⟩:=st.fresh;have hE: ∀v x,E v=some x->(fun v=>if v=n then some (Bk.real w.heap.size 0 0 0) else E v) v=some x:=fun v x hx=>by
    have:v≠n:=fun e=>by subst e;rw [hn v (Nat.le_refl _)] at hx;cases hx
    simp [this,hx]
  have hlt: ∀b:Nat,b<w.heap.size->w'.heap[b]?=w.heap[b]?:=fun b hb=>by
    rw [hw,Array.getElem?_push,if_neg (by omega)]
  have hnew:w'.heap[w.heap.size]?=some (.mapIter (some m) since #[] since):=by rw [hw];simp
  refine ⟨n,fun v=>if v=n then some (.real w.heap.size 0 0 0) else E v,by simp,
    st.fy S.length (.FO n mv since since []) hE ⟨n+1,fun v hv=>by simp [hn v (by omega),show v≠n by omega]⟩ (fun l' hl'=>?_) (by simp) (by rw [hw];simp) (fun b hb _=>hlt b hb) (fun b hb=>.inr ?_) ?_ g1 g2 g3⟩
  · rw [List.getElem?_append]
    split
    · rfl
    · rename_i hh
      rw [List.getElem?_eq_none (by simp;omega),List.getElem?_eq_none (by omega)]
  · simp [AU] at hb;omega
  · exact ⟨w.heap.size,m,by simp,hE _ _ hm,hnew,Nat.le_refl _,fun hf=>by have:=st.Gi _ hf;omega⟩
theorem aY (st:St E fz S w) (hF:CH E fz w F a.tmps) {o:Oper} {t k e:TypeId} {x:Operand} {r:AO} (ho:o.op= .range t x) (ht:P.underlying t=some (.map k e)) (hx:Ad x=some r)
    (h:AF P F S K (.Ll r)):Al P ((execOp a.eval o).run P w) (CQ K E fz S w):=by
  have r1:=Ac hF hx;simp only [AF,AD] at h;generalize rd F r=X at*;cases X<;>first | exact h.elim | skip
  case map l v=>
    obtain ⟨es,hl,h⟩:=C7.1 h;simp only [A5] at h;simp only [Rel] at r1;obtain ⟨b,hE,em⟩:=r1;obtain ⟨b',en,hE',hb,hr,hbo,hf⟩:=i_ st hl;rw [hE] at hE';cases hE';have hlen:es.length=en.size:=by simpa using hr.get.1
    rw [hlen] at h;obtain ⟨ver,E',q1,q2,q3⟩:=qB (mv:=v) (m:=b) (since:=en.size) st hE (w':=w.alloc (.mapIter (some b) en.size #[] en.size)) rfl rfl rfl (Tp.of rfl (Nat.le_refl _));refine C_ st (v:= .pointer (some ⟨w.heap.size,0,none⟩)) (w':=w.alloc (.mapIter (some b) en.size #[] en.size)) ?_ ⟨.ptr S.length ver 0,_,E',fz,h ver,q3,q2,by simp only [Rel];exact ⟨_,0,_,_,q1,rfl⟩⟩;simp [execOp,ho,Instr.range,run_underlying ht,em,MapKept.run_getObj_map hb,Result.andThen]
theorem dt (st:St E fz S w) (hF:CH E fz w F a.tmps) {o:Oper} {x:Operand} {r:AO} (ho:o.op= .next x false) (hx:Ad x=some r)
    (h:AF P F S K (.UK r)):Al P ((execOp a.eval o).run P w) (CQ K E fz S w):=by
  have r1:=Ac hF hx;simp only [AF,AD] at h;generalize rd F r=X at*;cases X<;>first | exact h.elim | skip
  case ptr l v off=>
    cases off with
    | succ off=>exact h.elim
    | zero=>
      obtain ⟨mv,since,last,seen,hl,lm,es,hlm,hsz,hend,hstep⟩:=JO.1 h;simp only [Rel] at r1;obtain ⟨b0,base,cap,kk,hE,ev⟩:=r1;obtain ⟨bQ,m,hE1,hEm,hit,hsl,hf⟩:=st.ok l _ hl;rw [hE1] at hE;cases hE;obtain ⟨m',en,hEm',hb,hr,hbo,hfm⟩:=i_ st hlm;rw [hEm] at hEm';cases hEm';have hlen:es.length=en.size:=by simpa using hr.get.1
      have hold: ∀x∈en.toList,x.born<since:=fun x hx=>by
        obtain ⟨i,hi,rfl⟩:=List.getElem_of_mem hx;have hi':i<en.size:=by simpa using hi
        have:=hbo i en[i] (Array.getElem?_eq_getElem hi');simp only [Array.getElem_toList,this];omega
      rcases run_next_at (P:=P) w o.type b0 m since last seen.toArray en en.size hit hb hold hsl with ⟨h0,hrun⟩ | ⟨e,hmem,w1,hw1,hrun⟩
      · refine Ak st (v:= .tuple #[.bool false]) (x:= .DH [.bool false]) (by simp only [execOp,ho,ev,Nat.add_zero];simp [hrun]) (hend fun i hi=>?_) ⟨[.bool false],rfl,⟨_,_,rfl,rfl,rfl⟩⟩
        refine Classical.byContradiction fun hn=>?_;have hi':i<en.size:=by omega
        have:en[i]∈(leftOf en seen.toArray):=by
          unfold leftOf;rw [Array.mem_filter];refine ⟨Array.getElem_mem hi',?_⟩;rw [hbo i _ (Array.getElem?_eq_getElem hi')];simpa using hn
        have:=Array.size_pos_of_mem this;omega
      · have hmem:e∈leftOf en seen.toArray:=by simpa using hmem
        unfold leftOf at hmem;rw [Array.mem_filter] at hmem;obtain ⟨i,hi,he⟩:=Array.getElem_of_mem hmem.1;have hei:en[i]?=some e:=by rw [Array.getElem?_eq_getElem hi,he]
        have hbi:=hbo i e hei;have hns:i ∉ seen:=by
          have:=hmem.2;rw [hbi] at this;simpa using this
        obtain ⟨k',v',hes,hk,hv⟩:=hr.get.2 i e (by simpa using hei);have hK:=hstep i (k',v') hes hns;rw [Cj,hlen] at hK;have hw1h:w1.heap=w.heap:=by rcases hw1 with rfl | rfl<;>rfl
        have hltb:b0<w.heap.size:=(Array.getElem?_eq_some_iff.1 hit).1;have hit':(Go.ChangeMaps.setBlock w1 b0 (.mapIter (some m) since (seen.toArray.push e.born) en.size)).heap=w.heap.setIfInBounds b0 (.mapIter (some m) since (seen.toArray.push e.born) en.size):=by
          unfold Go.ChangeMaps.setBlock;rw [hw1h]
        obtain ⟨k1,k2⟩:=MapKept.heap_set (o':= .mapIter (some m) since (seen.toArray.push e.born) en.size) hit;have own:Dh E S l b0:=⟨_,hl,by simp [AU,hE1]⟩
        obtain ⟨q2,q3⟩:=st.fy (E':=E) (S':=S.set l (.FO v mv since en.size (seen++[i]))) (w':=Go.ChangeMaps.setBlock w1 b0 (.mapIter (some m) since (seen.toArray.push e.born) en.size)) l (.FO v mv since en.size (seen++[i])) (fun _ _ h=>h) st.fresh
          (fun l' hl'=>by rw [List.getElem?_set_ne (Ne.symm hl')]) (by simp [hK.1]) (by rw [hit'];simp) (fun b' hb' hno=>by rw [hit'];exact k2 b' fun e=>hno (e▸own))
          (fun b' hb'=>.inl (by simp only [AU,hE1,Option.some.injEq] at hb';subst hb';exact own))
          ⟨b0,m,hE1,hEm,by rw [hit',k1,hbi];simp,by omega,hf⟩ (by rcases hw1 with rfl | rfl<;>rfl) (by rcases hw1 with rfl | rfl<;>rfl)
          (by rcases hw1 with rfl | rfl
              · exact Tp.of rfl (Nat.le_refl _)
              · exact Tp.of rfl (by show w.drawn<=w.drawn+1;omega))
        refine C_ st (v:= .tuple #[.bool true,e.key,e.val]) (w':=Go.ChangeMaps.setBlock w1 b0 (.mapIter (some m) since (seen.toArray.push e.born) en.size)) (by simp only [execOp,ho,ev,Nat.add_zero];simp [hrun]) ⟨_,_,E,fz,hK.2,q3,q2,?_⟩;exact ⟨[.bool true,e.key,e.val],rfl,⟨_,_,rfl,rfl,⟨_,_,rfl,St.rel st q3 hk,⟨_,_,rfl,St.rel st q3 hv,rfl⟩⟩⟩⟩
theorem aW (st:St E fz S w) (hF:CH E fz w F a.tmps) {o:Oper} {x:Operand} {r:AO} (ho:o.op= .entry x) (hx:Ad x=some r)
    (h:AF P F S K (.OA r)):Al P ((execOp a.eval o).run P w) (CQ K E fz S w):=by
  have r1:=Ac hF hx;simp only [AF,AD] at h;generalize rd F r=X at*;cases X<;>first | exact h.elim | skip
  case ptr l v off=>
    cases off with
    | succ off=>exact h.elim
    | zero=>
      obtain ⟨mv,since,last,seen,hl,lm,es,i,e,hlm,hlast,hseen,hes,hK⟩:=JO.1 h;simp only [Rel] at r1;obtain ⟨b0,base,cap,kk,hE,ev⟩:=r1;obtain ⟨bQ,m,hE1,hEm,hit,hsl,hf⟩:=st.ok l _ hl;rw [hE1] at hE;cases hE;obtain ⟨m',en,hEm',hb,hr,hbo,hfm⟩:=i_ st hlm;rw [hEm] at hEm';cases hEm';have hlen:es.length=en.size:=by simpa using hr.get.1
      have hi:i<en.size:=by have:=(List.getElem?_eq_some_iff.1 hes).1;omega
      have hei:en[i]?=some en[i]:=Array.getElem?_eq_getElem hi;have hbi:=hbo i _ hei;obtain ⟨k',v',hes',hk,hv⟩:=hr.get.2 i en[i] (by rw [Array.getElem?_toList];exact hei);rw [hes] at hes';cases hes';have hnd:(en.toList.map (·.born)).Nodup:=by
        have:en.toList.map (·.born)=List.range en.size:=by
          refine List.ext_getElem (by simp) fun j h1 h2=>?_;simp only [List.getElem_map,Array.getElem_toList,List.getElem_range];exact hbo j _ (Array.getElem?_eq_getElem (by simpa using h1))
        rw [this];exact List.nodup_range
      obtain ⟨s0,rfl⟩: ∃s0,seen=s0++[i]:=by
        obtain ⟨hne,hg⟩:=List.getLast?_eq_some_iff.1 hseen;exact ⟨_,hg⟩
      have hit2:w.heap[b0]?=some (.mapIter (some m) since (s0.toArray.push (en[i]).born) en.size):=by
        rw [hit,hbi,hlast,hlen];simp
      have hrun:=run_entry_at (P:=P) w b0 m since s0.toArray en en.size en[i] hit2 hb (by simp) hnd;exact Ak st (v:= .tuple #[(en[i]).key,(en[i]).val]) (by simp only [execOp,ho,ev,Nat.add_zero];simp [hrun]) hK ⟨[_,_],rfl,⟨_,_,rfl,hk,⟨_,_,rfl,hv,rfl⟩⟩⟩
theorem Yc (off:Nat): ∀(l:List Value) (i:Nat) (cs:Array Value),off+i+l.length<=cs.size-> ∀j,((l.zipIdx i).foldl (fun cs (x:Value×Nat)=>cs.setIfInBounds (off+x.2) x.1) cs)[j]?=
    if off+i<=j/\j<off+i+l.length then l[j-(off+i)]? else cs[j]?
  | [],i,cs,_,j=>by simp;omega
  | v::l,i,cs,h,j=>by
    simp only [List.length_cons] at h;simp only [List.zipIdx_cons,List.foldl_cons];rw [Yc off l (i+1) (cs.setIfInBounds (off+i) v) (by simp;omega) j];simp only [List.length_cons,Array.getElem?_setIfInBounds];by_cases e:j=off+i
    · subst e
      rw [if_neg (by omega),if_pos rfl,if_pos (by omega),if_pos (by omega)];simp
    · by_cases e2:off+i<=j/\j<off+i+(l.length+1)
      · rw [if_pos (by omega),if_pos e2,show j-(off+i)=(j-(off+(i+1)))+1 by omega]
        simp
      · rw [if_neg (by omega),if_neg (fun h=>e h.symm),if_neg e2]
theorem N2 (off:Nat): ∀(l:List Value) (i:Nat) (cs:Array Value),((l.zipIdx i).foldl (fun cs (x:Value×Nat)=>cs.setIfInBounds (off+x.2) x.1) cs).size=cs.size
  | [],i,cs=>by simp
  | v::l,i,cs=>by simp only [List.zipIdx_cons,List.foldl_cons];rw [N2 off l (i+1)];simp
theorem VM (hF:CH E fz w F a.tmps) (place:Nat->Option (Nat×Nat)): ∀(parts:List (Nat×Operand)) (ps:List (Nat×Nat×AO)) (cs:List AA) (arr:Array Value) {Q:List AA->Prop},
    ps.length=parts.length->(∀(j:Nat) i x off n r,parts[j]?=some (i,x)->ps[j]?=some (off,n,r)->place i=some (off,n)/\Ad x=some r)->
    AZ E fz w cs arr.toList->(∀c∈arr.toList,c.oneCell'=true)->KC F cs Q ps->
    ∃(cs':List AA) (arr':Array Value),Instr.fill place arr (parts.map fun (i,x)=>(i,a.eval x))=some arr'/\Q cs'/\AZ E fz w cs' arr'.toList/\(∀c∈arr'.toList,c.oneCell'=true)/\cs'.length=cs.length
  | [],[],cs,arr,Q,_,_,hr,h1,h=>⟨cs,arr,rfl,h,hr,h1,rfl⟩
  | [],p::ps,cs,arr,Q,hl,_,_,_,_=>by simp at hl
  | q::parts,[],cs,arr,Q,hl,_,_,_,_=>by simp at hl
  | (i,x)::parts,(off,n,r)::ps,cs,arr,Q,hl,hp,hr,h1,h=>by
    obtain ⟨hplace,hxr⟩:=hp 0 i x off n r rfl rfl;simp only [KC,AD] at h;obtain ⟨ys,⟨hyl,hfit,hk⟩,hys,hone⟩:=Qe h (Ac hF hxr);simp only [GH] at hk;have hcl:(a.eval x).cells.size=n:=by have:=hys.length;simp at this;omega
    have harr:arr.size=cs.length:=by have:=hr.length;simpa using this
    have hget:=Yc off (a.eval x).cells.toList 0 arr (by simp;omega);have hsz:=N2 off (a.eval x).cells.toList 0 arr;generalize hg:((a.eval x).cells.toList.zipIdx 0).foldl (fun cs (x:Value×Nat)=>cs.setIfInBounds (off+x.2) x.1) arr=arr1 at hget hsz;have hr':AZ E fz w (setCells cs off ys) arr1.toList:=by
      refine AZ.mk (by rw [GC];simp;omega) fun j y v hy hv=>?_;rw [KK cs off ys j (by omega)] at hy;rw [Array.getElem?_toList,hget] at hv;split at hy
      · rename_i hh
        rw [if_pos (by simp;omega)] at hv;obtain ⟨v',q1,q2⟩:=hys.get hy;simp only [Nat.add_zero] at hv;rw [hv] at q1;cases q1;exact q2
      · rename_i hh
        rw [if_neg (by simp;omega)] at hv;obtain ⟨v',q1,q2⟩:=hr.get hy;rw [Array.getElem?_toList,hv] at q1;cases q1;exact q2
    have h1': ∀c∈arr1.toList,c.oneCell'=true:=fun c hc=>by
      obtain ⟨j,hj,e⟩:=List.mem_iff_getElem.1 hc;have hv:arr1[j]?=some c:=by rw [<-Array.getElem?_toList,List.getElem?_eq_getElem hj,e]
      rw [hget] at hv;split at hv
      · exact hone c (List.mem_of_getElem? hv)
      · exact h1 c (by rw [<-Array.getElem?_toList] at hv;exact List.mem_of_getElem? hv)
    obtain ⟨cs',arr',p1,p2,p3,p4,p5⟩:=VM hF place parts ps (setCells cs off ys) arr1 (by simpa using hl) (fun j i' x' off' n' r' g1 g2=>hp (j+1) i' x' off' n' r' (by simpa using g1) (by simpa using g2)) hr' h1' hk;refine ⟨cs',arr',?_,p2,p3,p4,by rw [p5,GC]⟩;simp only [List.map_cons,Instr.fill,hplace];rw [if_neg (by simp [hcl];omega)];refine Eq.trans (congrArg (fun z=>Instr.fill place z _) ?_) p1;rw [<-hg,<-Array.foldl_toList,Array.toList_zipIdx]
theorem Oe {fs:Array Field}: ∀ {parts:List (Nat×Operand)} {ps:List (Nat×Nat×AO)},Gv P fs parts=some ps->ps.length=parts.length/\
    ∀(j:Nat) i x off n r,parts[j]?=some (i,x)->ps[j]?=some (off,n,r)->(∃f,fs[i]?=some f/\f.offset=off/\CG P f.type=some n)/\Ad x=some r
  | [],ps,h=>by simp [Gv] at h;subst h;simp
  | (i,x)::rest,ps,h=>by
    simp only [Gv] at h;split at h
    · rename_i f r qs h1 h2 h3
      split at h
      · rename_i n hn
        cases h;have ih:=Oe h3;refine ⟨by simp [ih.1],fun j i' x' off n' r' g1 g2=>?_⟩;cases j with
        | zero=>simp at g1 g2;obtain ⟨rfl,rfl⟩:=g1;obtain ⟨rfl,rfl,rfl⟩:=g2;exact ⟨⟨f,h1,rfl,hn⟩,h2⟩
        | succ j=>exact ih.2 j i' x' off n' r' (by simpa using g1) (by simpa using g2)
      · cases h
    · cases h
theorem ON {k:Nat}: ∀ {parts:List (Nat×Operand)} {ps:List (Nat×Nat×AO)},H_ k parts=some ps->ps.length=parts.length/\
    ∀(j:Nat) i x off n r,parts[j]?=some (i,x)->ps[j]?=some (off,n,r)->(off=i*k/\n=k)/\Ad x=some r
  | [],ps,h=>by simp [H_] at h;subst h;simp
  | (i,x)::rest,ps,h=>by
    simp only [H_] at h;split at h
    · rename_i r qs h2 h3
      cases h;have ih:=ON h3;refine ⟨by simp [ih.1],fun j i' x' off n' r' g1 g2=>?_⟩;cases j with
      | zero=>simp at g1 g2;obtain ⟨rfl,rfl⟩:=g1;obtain ⟨rfl,rfl,rfl⟩:=g2;exact ⟨⟨rfl,rfl⟩,h2⟩
      | succ j=>exact ih.2 j i' x' off n' r' (by simpa using g1) (by simpa using g2)
    · cases h
theorem dm {fs:Array Field} (hs: ∀f∈fs.toList,∃n,CG P f.type=some n): ∃pl:Array (Nat×Nat),(fs.mapM fun f=>(do pure (f.offset,<-sizeOf f.type):Sem (Nat×Nat))).run P w= .ok pl w/\
    ∀(i:Nat) f n,fs[i]?=some f->CG P f.type=some n->pl[i]?=some (f.offset,n):=by
  rw [Array.mapM_eq_mapM_toList];have key: ∀l:List Field,(∀f∈l,∃n,CG P f.type=some n)-> ∃pl:List (Nat×Nat),(l.mapM fun f=>(do pure (f.offset,<-sizeOf f.type):Sem (Nat×Nat))).run P w= .ok pl w/\
      ∀(i:Nat) f n,l[i]?=some f->CG P f.type=some n->pl[i]?=some (f.offset,n):=by
    intro l
    induction l with
    | nil=>intro _;exact ⟨[],by simp,by simp⟩
    | cons f l ih=>
      intro h;obtain ⟨pl,h1,h2⟩:=ih fun g hg=>h g (by simp [hg]);obtain ⟨n,hn⟩:=h f (by simp);refine ⟨(f.offset,n)::pl,by simp only [List.mapM_cons,Sem.run_bind,Dt hn,Result.andThen_ok,Sem.run_pure,h1],fun i g m hg hm=>?_⟩;cases i with
      | zero=>simp at hg;subst hg;rw [hn] at hm;cases hm;rfl
      | succ i=>simpa using h2 i g m (by simpa using hg) hm
  obtain ⟨pl,h1,h2⟩:=key fs.toList hs;exact ⟨pl.toArray,by rw [Sem.run_map,h1];rfl,fun i f n hf hn=>by simpa using h2 i f n (by simpa using hf) hn⟩
theorem P5 (st:St E fz S w) (hF:CH E fz w F a.tmps) {o:Oper} {t:TypeId} {parts:Array (Nat×Operand)} {ps:List (Nat×Nat×AO)} {z:List AA} {fs:Array Field} (ho:o.op= .build t parts) (ht:P.underlying t=some (.struct fs)) (hz:IK P t=some z) (hs: ∀f∈fs.toList,∃n,CG P f.type=some n) (FL:Gv P fs parts.toList=some ps)
    (h:AF P F S K (.build z ps)):Al P ((execOp a.eval o).run P w) (CQ K E fz S w):=by
  simp only [AF] at h;obtain ⟨v,g1,g2,g3⟩:=OQ hz w;obtain ⟨pl,p1,p2⟩:=dm (P:=P) (w:=w) hs;obtain ⟨q1,q2⟩:=Oe FL;obtain ⟨cs',arr',r1,r2,r3,r4,_⟩:=VM hF (pl[·]?) parts.toList ps z v.cells q1 (fun j i x off n r e1 e2=>by
    obtain ⟨⟨f,h1,h2,h3⟩,h4⟩:=q2 j i x off n r e1 e2;exact ⟨by rw [p2 i f n h1 h3,h2],h4⟩) (g2 E fz w) g3 h
  refine Ak st (v:= .agg arr') ?_ r2 ?_
  · have e:(parts.map fun (i,x)=>(i,a.eval x)).toList=parts.toList.map fun (i,x)=>(i,a.eval x):=by simp
    simp only [execOp,ho,Instr.build,Sem.run_bind,g1,Result.andThen_ok,run_underlying ht,p1,e,r1,Sem.run_pure]
  · simp only [Rel];exact ⟨arr'.toList,by simp,r3,r4⟩
theorem Qu (st:St E fz S w) (hF:CH E fz w F a.tmps) {o:Oper} {t e:TypeId} {parts:Array (Nat×Operand)} {ps:List (Nat×Nat×AO)} {z:List AA} {len n:Nat} (ho:o.op= .build t parts) (ht:P.underlying t=some (.array len e)) (hz:IK P t=some z) (hn:CG P e=some n) (FL:H_ n parts.toList=some ps)
    (h:AF P F S K (.build z ps)):Al P ((execOp a.eval o).run P w) (CQ K E fz S w):=by
  simp only [AF] at h;obtain ⟨v,g1,g2,g3⟩:=OQ hz w;obtain ⟨q1,q2⟩:=ON FL;obtain ⟨cs',arr',r1,r2,r3,r4,_⟩:=VM hF (fun i=>some (i*n,n)) parts.toList ps z v.cells q1 (fun j i x off n' r e1 e2=>by
    obtain ⟨⟨h1,h2⟩,h4⟩:=q2 j i x off n' r e1 e2;exact ⟨by rw [h1,h2],h4⟩) (g2 E fz w) g3 h
  refine Ak st (v:= .agg arr') ?_ r2 ?_
  · have e:(parts.map fun (i,x)=>(i,a.eval x)).toList=parts.toList.map fun (i,x)=>(i,a.eval x):=by simp
    simp only [execOp,ho,Instr.build,Sem.run_bind,g1,Result.andThen_ok,run_underlying ht,Dt hn,e,r1,Sem.run_pure]
  · simp only [Rel];exact ⟨arr'.toList,by simp,r3,r4⟩
theorem iQ (st:St E fz S w) {cs:List AA} {arr:Array Value} {T:TypeId} (hr:AZ E fz w cs arr.toList) (h1: ∀c∈arr.toList,c.oneCell'=true):
    St E (fun b=>fz b\/b=w.heap.size) S (w.alloc (.cells arr T))/\Ext E fz S w E (fun b=>fz b\/b=w.heap.size) S (w.alloc (.cells arr T))/\
      Ck E (fun b=>fz b\/b=w.heap.size) (w.alloc (.cells arr T)) w.heap.size 0 cs:=by
  have hlt: ∀b:Nat,b<w.heap.size->(w.alloc (.cells arr T)).heap[b]?=w.heap[b]?:=fun b hb=>by
    simp only [World.alloc];rw [Array.getElem?_push,if_neg (by omega)]
  have hnew:(w.alloc (.cells arr T)).heap[w.heap.size]?=some (.cells arr T (0,0)):=by
    show (w.heap.push _)[w.heap.size]?=_;simp
  refine ⟨⟨fun l o hl=>?_,st.sep,fun b hb=>?_,st.fresh⟩,⟨fun _ _ h=>h,fun _ h=>.inl h,fun b hb=>?_,fun b hb _=>hlt b hb,fun _ h=>.inl h,by simp,rfl,rfl,(Tp.of rfl (Nat.le_refl _))⟩,Ck.mk fun i x hx=>?_⟩
  · refine (st.ok l o hl).mono (fun _ _ h=>h) (fun _ h=>.inl h) (fun b hb=>hlt b (st.Gi b hb)) fun b hb=>?_
    have:=st.Ey ⟨o,hl,hb⟩;exact ⟨hlt b this.1,fun h=>h.elim this.2 fun e=>by omega⟩
  · rcases hb with hb | rfl
    · have:=st.Gi b hb;simp;omega
    · simp
  · rcases hb with hb | rfl
    · exact .inl hb
    · exact .inr (.inr (Nat.le_refl _))
  · obtain ⟨v,hv,hrel⟩:=hr.get hx
    refine ⟨v,?_,h1 v (List.mem_of_getElem? hv),hrel.mono (fun _ _ h=>h) (fun _ h=>.inl h) (fun b hb=>hlt b (st.Gi b hb))⟩;rw [Ce hnew,Nat.zero_add,<-Array.getElem?_toList];exact hv
theorem Qt {kr:Nat} (st:St E fz S w) (hF:CH E fz w F a.tmps) {o:Oper} {t e:TypeId} {parts:Array (Nat×Operand)} {ps:List (Nat×Nat×AO)} {z:List AA} {len n:Nat} (ho:o.op= .buildSlice t len parts) (ht:P.underlying t=some (.slice e)) (hn:CG P e=some n) (hz:IK P e=some z) (hlim:len*n<=2 ^ 24) (h0:0<n) (hzl:z.length=n) (FL:H_ n parts.toList=some ps)
    (hkr:kr<=n) (h:AF P F S K (.Ax ro len kr (List.replicate len z).flatten ps)):Al P ((execOp a.eval o).run P w) (CQ K E fz S w):=by
  simp only [AF] at h;obtain ⟨v,g1,g2,g3⟩:=OQ hz w;obtain ⟨q1,q2⟩:=ON FL;obtain ⟨m1,m2⟩:=Rb (g2 E fz w) g3 (by omega) len;rw [hzl] at m1 m2;obtain ⟨cs',arr',r1,r2,r3,r4,r5⟩:=VM hF (fun i=>some (i*n,n)) parts.toList ps _ (madeCells v.cells (len*n)) q1 (fun j i x off n' r e1 e2=>by
    obtain ⟨⟨h1,h2⟩,h4⟩:=q2 j i x off n' r e1 e2;exact ⟨by rw [h1,h2],h4⟩) m1 m2 h
  have hlen:arr'.toList.length=len*n:=by rw [r3.length,r5,Eh,hzl]
  have hrun:(execOp a.eval o).run P w= .ok (.value (.slice (some ⟨w.heap.size,0,none⟩) len len)) (w.alloc (.cells arr' e)):=by
    have e1:(parts.map fun (i,x)=>(i,a.eval x)).toList=parts.toList.map fun (i,x)=>(i,a.eval x):=by simp
    by_cases hl0:len*n=0
    · have hlen0:len=0:=by
        rcases Nat.mul_eq_zero.1 hl0 with h | h
        · exact h
        · omega
      have e2:madeCells v.cells (len*n)=(Array.range (len*n)).map ((#[]:Array Value)[· %0]!):=by rw [hl0];simp [madeCells,Array.range_zero']
      simp only [execOp,ho,Instr.buildSlice,Sem.run_bind,run_underlying ht,Result.andThen_ok,Dt hn];rw [if_neg (by omega),if_pos hl0];rw [e2] at r1;simp only [Sem.run_bind,Sem.run_pure,Result.andThen_ok,e1];simp only [List.size_toArray,List.length_nil] at*;rw [r1];rfl
    · simp only [execOp,ho,Instr.buildSlice,Sem.run_bind,run_underlying ht,Result.andThen_ok,Dt hn]
      rw [if_neg (by omega),if_neg hl0];simp only [Sem.run_bind,g1,Sem.run_pure,Result.andThen_ok,e1];have:(Array.range (len*n)).map (v.cells[· %v.cells.size]!)=madeCells v.cells (len*n):=rfl;rw [this,r1];rfl
  cases ro
  · simp only [A5] at r2
    obtain ⟨ver,E',p1,p2,p3⟩:=LM (w':=w.alloc (.cells arr' e)) st (rest:=[]) (T:=e) kr r3 r4 (by rw [List.append_nil];rfl) rfl rfl (Tp.of rfl (Nat.le_refl _));refine C_ st hrun ⟨.sl S.length ver 0 len,_,E',fz,r2 ver,p3,p2,?_⟩;simp only [Rel];have hm:=Nat.mul_le_mul_left len hkr;exact .inr ⟨_,_,_,_,len,p1,Nat.le_refl _,by simp at hlen |-;omega,rfl⟩
  · obtain ⟨p1,p2,p3⟩:=iQ (T:=e) st r3 r4
    refine C_ st hrun ⟨.Ez len cs',S,E,_,r2,p2,p1,?_⟩;simp only [Rel];exact .inr ⟨w.heap.size,0,len,.inr rfl,Nat.le_refl _,rfl,p3⟩
end
end Go.Vc
end
section
namespace Go.Vc
section
variable {P : Program} {E : Env} {fz : Nat -> Prop} {S : AB} {w : World} {F : Frame} {a : Act} {K : AA -> AB -> Prop} {ro : Bool}
theorem kx (st:St E fz S w) {k:Nat} {x:AA} {v:Value} {Q:Nat->List AA->Prop} (h:Nh S k x Q) (hr:Rel E fz w x v):
    ∃(n:Nat) (ys:List AA) (news:List Value),Q n ys/\ys.length=n*k/\AZ E fz w ys news/\(∀c∈news,c.oneCell'=true)/\(∀w',(Builtin.lenOf v).run P w'= .ok n w')/\
      ∀w':World,w'.heap=w.heap->(Builtin.firstCells k n v).run P w'= .ok news.toArray w':=by
  have cells: ∀ {b off n:Nat} {cs:List AA} {c:Nat},Ck E fz w b off cs->cs.length=n*k-> ∃news:List Value,AZ E fz w cs news/\(∀c∈news,c.oneCell'=true)/\
      ∀w':World,w'.heap=w.heap->(Builtin.firstCells k n (.slice (some ⟨b,off,none⟩) n c)).run P w'= .ok news.toArray w':=fun {b off n cs c} hc hl=>by
    obtain ⟨vs,g1,g2,g3⟩:=hc.read;refine ⟨vs,g1,g2,fun w' hw=>run_firstCells_some (P:=P) w' k n ⟨b,off,none⟩ n c vs (by rw [g1.length,hl]) fun j u hu=>?_⟩;rw [IY,<-g3 j u hu];unfold World.cell?
    rw [hw]
  cases x<;>simp only [Nh] at h
  case AL=>
    simp only [Rel] at hr;subst hr;exact ⟨0,[],[],h,by simp,by simp [AZ],by simp,fun w'=>by simp [Builtin.lenOf],fun w' _=>by simp [Builtin.firstCells]⟩
  case Ez n cs=>
    simp only [Rel] at hr;rcases hr with ⟨rfl,ao,c,rfl⟩ | ⟨b,off,c,hb,hle,rfl,hc⟩
    · refine ⟨0,[],[],by simpa using h.2,by simp,by simp [AZ],by simp,fun w'=>by simp [Builtin.lenOf],fun w' _=>?_⟩
      cases ao<;>simp [Builtin.firstCells,loadCells,loadCellsFrom]
    · obtain ⟨news,g1,g2,g3⟩:=cells (n:=n) (c:=c) (hc.take (n*k)) (by rw [List.length_take];omega)
      refine ⟨n,_,news,h.2,by rw [List.length_take];omega,g1,g2,fun w'=>by simp [Builtin.lenOf],fun w' hw=>?_⟩;have:=g3 w' hw;simpa [Builtin.firstCells] using this
  case sl l ver off n=>
    obtain ⟨k',cs,hl,hfit,hq⟩:=AP.1 h;simp only [Rel] at hr;rcases hr with ⟨rfl,ao,rfl⟩ | ⟨b,base,cap,kk,c,hE,hle,hcap,rfl⟩
    · refine ⟨0,[],[],by simpa [A6] using hq,by simp,by simp [AZ],by simp,fun w'=>by simp [Builtin.lenOf],fun w' _=>?_⟩
      cases ao<;>simp [Builtin.firstCells,loadCells,loadCellsFrom]
    · have hlen:(A6 cs off (n*k)).length=n*k:=by simp [A6];omega
      rcases st.ok l _ hl with ⟨g1,g2⟩ | ⟨b',base',cap',arr,T,lo,hi,g1,g2,g3,g4,g5,g6,g7⟩
      · rw [hE] at g1;cases g1
      · rw [hE] at g1;cases g1
        obtain ⟨news,q1,q2,q3⟩:=cells (n:=n) (c:=c) ((g6.drop off).take (n*k)) hlen;refine ⟨n,_,news,hq,hlen,q1,q2,fun w'=>by simp [Builtin.lenOf],fun w' hw=>?_⟩;have:=q3 w' hw;simpa [Builtin.firstCells] using this
  case str s=>
    obtain ⟨rfl,hq⟩:=h;simp only [Rel] at hr;subst hr;have hsz:(⟨s.toArray⟩:ByteArray).size=s.length:=by simp [ByteArray.size]
    refine ⟨s.length,_,s.map fun c=>.int .u8 c.toNat,hq,by simp,AZ.mk (by simp) fun i x v hx hv=>?_,by simp [Value.oneCell'],fun w'=>by simp [Builtin.lenOf,hsz],fun w' _=>?_⟩
    · simp only [List.getElem?_map] at hx hv
      cases hs:s[i]? with
      | none=>rw [hs] at hx;cases hx
      | some c=>rw [hs] at hx hv;cases hx;cases hv;simp [Rel]
    · simp only [Builtin.firstCells,Sem.run_pure]
      congr 1;have:(⟨s.toArray⟩:ByteArray).extract 0 s.length=⟨s.toArray⟩:=by
        apply ByteArray.ext;simp [ByteArray.data_extract]
      rw [this];simp
theorem Sc (st:St E fz S w) (bk:Bk): ∃(ver:Nat) (E':Env),E' ver=some bk/\(∀v x,E v=some x->E' v=some x)/\ ∃n,∀v,n<=v->E' v=none:=by
  obtain ⟨n,hn⟩:=st.fresh;refine ⟨n,fun v=>if v=n then some bk else E v,by simp,fun v x hx=>?_,n+1,fun v hv=>by simp [hn v (by omega),show v≠n by omega]⟩;have:v≠n:=fun e=>by subst e;rw [hn v (Nat.le_refl _)] at hx;cases hx
  simp [this,hx]
theorem ko (st:St E fz S w) {l:Nat} (hlt:l<S.length) {cs:List AA} {vs rest:List Value} {T:TypeId} (k:Nat) (hr:AZ E fz w cs vs) (h1: ∀c∈vs,c.oneCell'=true)
    {w':World} (hw:w'.heap=w.heap.push (.cells (vs++rest).toArray T (0,0))) (g1:w'.os=w.os) (g2:w'.output=w.output) (g3:Tp w w'):
    ∃ver E',E' ver=some (.real w.heap.size 0 (vs++rest).length k)/\St E' fz (S.set l (.row ver k cs)) w'/\Ext E fz S w E' fz (S.set l (.row ver k cs)) w':=by
  obtain ⟨ver,E',e1,hE,hf⟩:=Sc st (.real w.heap.size 0 (vs++rest).length k);have hlo: ∀b:Nat,b<w.heap.size->w'.heap[b]?=w.heap[b]?:=fun b hb=>by rw [hw,Array.getElem?_push,if_neg (by omega)]
  have hnew:w'.heap[w.heap.size]?=some (.cells (vs++rest).toArray T (0,0)):=by rw [hw];simp
  refine ⟨ver,E',e1,st.fy l (.row ver k cs) hE hf (fun l' hl'=>by rw [List.getElem?_set_ne (Ne.symm hl')]) (by rw [List.getElem?_set_self hlt]) (by rw [hw];simp) (fun b hb _=>hlo b hb) (fun b hb=>.inr ?_) ?_ g1 g2 g3⟩
  · simp [AU,e1] at hb;omega
  · refine .inr ⟨w.heap.size,0,(vs++rest).length,(vs++rest).toArray,T,0,0,e1,hnew,by simp,?_,.inl rfl,?_,fun hf=>?_⟩
    · have:=hr.length;simp;omega
    · refine Ck.mk fun i x hx=>?_
      obtain ⟨v,hv,hrel⟩:=hr.get hx;have hil:i<vs.length:=by
        rcases Nat.lt_or_ge i vs.length with h | h
        · exact h
        · simp [List.getElem?_eq_none h] at hv
      refine ⟨v,?_,h1 v (List.mem_of_getElem? hv),hrel.mono hE (fun _ h=>h) (fun b hb=>hlo b (st.Gi b hb))⟩;rw [Ce hnew];simp [List.getElem?_append_left hil,hv]
    · have:=st.Gi _ hf;omega
theorem set_nil (st:St E fz S w) {l:Nat} (hlt:l<S.length) (k:Nat): ∃ver E',E' ver=some .nil/\St E' fz (S.set l (.row ver k [])) w/\Ext E fz S w E' fz (S.set l (.row ver k [])) w:=by
  obtain ⟨ver,E',e1,hE,hf⟩:=Sc st .nil;refine ⟨ver,E',e1,st.fy l (.row ver k []) hE hf (fun l' hl'=>by rw [List.getElem?_set_ne (Ne.symm hl')]) (by rw [List.getElem?_set_self hlt]) (Nat.le_refl _) (fun _ _ _=>rfl) (fun b hb=>?_) (.inl ⟨e1,rfl⟩) rfl rfl (Tp.of rfl (Nat.le_refl _))⟩;simp [AU,e1] at hb
theorem qg (st:St E fz S w) {l ver k off n:Nat} {cs ys:List AA} {us:List Value} (hl:S[l]?=some (.row ver k cs)) (hfit:off+n<=cs.length) {b base cap:Nat} (hE:E ver=some (.real b base cap k))
    (hcap:off+n+ys.length<=cap) (hr:AZ E fz w ys us) (h1: ∀c∈us,c.oneCell'=true):
    ∃w' ver' E',(storeCells ⟨b,base+(off+n),none⟩ us 0).run P w= .ok () w'/\E' ver'=some (.real b (base+off) (cap-off) k)/\
      St E' fz (S.set l (.row ver' k (A6 cs off n++ys))) w'/\Ext E fz S w E' fz (S.set l (.row ver' k (A6 cs off n++ys))) w':=by
  have hlt:l<S.length:=by
    rcases Nat.lt_or_ge l S.length with h | h
    · exact h
    · simp [List.getElem?_eq_none h] at hl
  have hlen:=hr.length;rcases st.ok l _ hl with ⟨g1,g2⟩ | ⟨b',base',cap',arr,T,lo,hi,g1,g2,g3,g4,g5,g6,g7⟩
  · rw [hE] at g1;cases g1
  · rw [hE] at g1;cases g1
    obtain ⟨w',arr',q1,q2,q3,q4,q5,q6,q7,q8,q9⟩:=Is (P:=P) (b:=b) (st:=base+(off+n)) us 0 w arr g2 (by omega)
      (fun j hj h=>by rcases g5 with g5 | g5<;>omega) h1
    obtain ⟨ver',E',e1,hE',hf⟩:=Sc st (.real b (base+off) (cap-off) k);have hsub:(A6 cs off n).length=n:=by simp [A6];omega
    refine ⟨w',ver',E',q1,e1,st.fy l (.row ver' k (A6 cs off n++ys)) hE' hf (fun l' hl'=>by rw [List.getElem?_set_ne (Ne.symm hl')]) (by rw [List.getElem?_set_self hlt]) (by omega) (fun bb _ hno=>q5 bb fun e=>hno ?_) (fun bb hb=>.inl ?_) ?_ q7 q8 q9⟩
    · subst e;exact ⟨_,hl,by simp [AU,hE]⟩
    · simp [AU,e1] at hb;subst hb;exact ⟨_,hl,by simp [AU,hE]⟩
    · refine .inr ⟨b,base+off,cap-off,arr',T,lo,hi,e1,q2,by omega,by simp [hsub];omega,by rw [q3];exact g5,?_,g7⟩
      have hk: ∀bb,fz bb->w'.heap[bb]?=w.heap[bb]?:=fun bb hb=>q5 bb fun e=>g7 (e▸hb);refine Ck.mk fun i x hx=>?_;rw [Ce q2,q4];by_cases hi':i<n
      · rw [List.getElem?_append_left (by omega)] at hx
        rw [if_neg (by omega)];simp only [A6,List.getElem?_take,hi',if_true,List.getElem?_drop] at hx;obtain ⟨c,hc,hone,hrel⟩:=g6.get hx;rw [Ce g2,show base+(off+i)=base+off+i by omega] at hc;exact ⟨c,hc,hone,hrel.mono hE' (fun _ h=>h) hk⟩
      · rw [List.getElem?_append_right (by omega),hsub] at hx
        obtain ⟨v,hv,hrel⟩:=hr.get hx;have hil:i-n<us.length:=by
          rcases Nat.lt_or_ge (i-n) us.length with h | h
          · exact h
          · simp [List.getElem?_eq_none h] at hv
        rw [if_pos (by omega),show base+off+i-(base+(off+n)+0)=i-n by omega];exact ⟨v,hv,h1 v (List.mem_of_getElem? hv),hrel.mono hE' (fun _ h=>h) hk⟩
theorem qf (st:St E fz S w) {l ver k off n:Nat} {cs ys:List AA} {us:List Value} (hl:S[l]?=some (.row ver k cs)) (hfit:off+n<=cs.length) {b base cap:Nat} (hE:E ver=some (.real b base cap k))
    (hcap:off+n+ys.length<=cap) (hr:AZ E fz w ys us) (h1: ∀c∈us,c.oneCell'=true):
    ∃w',(storeCells ⟨b,base+(off+n),none⟩ us 0).run P w= .ok () w'/\
      St E fz (S.set l (.row ver k (cs.take (off+n)++ys))) w'/\Ext E fz S w E fz (S.set l (.row ver k (cs.take (off+n)++ys))) w':=by
  have hlt:l<S.length:=(List.getElem?_eq_some_iff.1 hl).1;have hlen:=hr.length;rcases st.ok l _ hl with ⟨g1,g2⟩ | ⟨b',base',cap',arr,T,lo,hi,g1,g2,g3,g4,g5,g6,g7⟩
  · rw [hE] at g1;cases g1
  · rw [hE] at g1;cases g1
    obtain ⟨w',arr',q1,q2,q3,q4,q5,q6,q7,q8,q9⟩:=Is (P:=P) (b:=b) (st:=base+(off+n)) us 0 w arr g2 (by omega)
      (fun j hj h=>by rcases g5 with g5 | g5<;>omega) h1
    have hsub:(cs.take (off+n)).length=off+n:=by rw [List.length_take];omega
    have hk: ∀bb,fz bb->w'.heap[bb]?=w.heap[bb]?:=fun bb hb=>q5 bb fun e=>g7 (e▸hb);refine ⟨w',q1,st.fy l (.row ver k (cs.take (off+n)++ys)) (fun _ _ h=>h) st.fresh (fun l' hl'=>by rw [List.getElem?_set_ne (Ne.symm hl')]) (by rw [List.getElem?_set_self hlt]) (by omega) (fun bb _ hno=>q5 bb fun e=>hno ?_) (fun bb hb=>.inl ?_) ?_ q7 q8 q9⟩
    · subst e;exact ⟨_,hl,by simp [AU,hE]⟩
    · simp [AU,hE] at hb;subst hb;exact ⟨_,hl,by simp [AU,hE]⟩
    · refine .inr ⟨b,base,cap,arr',T,lo,hi,hE,q2,by omega,by simp only [List.length_append,hsub];omega,by rw [q3];exact g5,?_,g7⟩
      refine Ck.mk fun i x hx=>?_;rw [Ce q2,q4];by_cases hi':i<off+n
      · rw [List.getElem?_append_left (by omega),List.getElem?_take,if_pos hi'] at hx
        rw [if_neg (by omega)];obtain ⟨c,hc,hone,hrel⟩:=g6.get hx;rw [Ce g2] at hc;exact ⟨c,hc,hone,hrel.mono (fun _ _ h=>h) (fun _ h=>h) hk⟩
      · rw [List.getElem?_append_right (by omega),hsub] at hx
        obtain ⟨v,hv,hrel⟩:=hr.get hx;have hil:i-(off+n)<us.length:=(List.getElem?_eq_some_iff.1 hv).1;rw [if_pos (by omega),show base+i-(base+(off+n)+0)=i-(off+n) by omega];exact ⟨v,hv,h1 v (List.mem_of_getElem? hv),hrel.mono (fun _ _ h=>h) (fun _ h=>h) hk⟩
theorem D6 {t u e ty:TypeId} {ut:TypeDesc} {i:TypeInfo} {ats:Array TypeId} {args:Array Value} {base:Option Addr} {sLen sCap n:Nat} {xv:Value} {news:List Value}
    (ht0:ats[0]?=some t) (ht1:ats[1]?=some u) (a0:args[0]?=some (.slice base sLen sCap)) (a1:args[1]?=some xv) (ht:P.underlying t=some (.slice e)) (hu:P.underlying u=some ut) (hut:(∃e',ut= .slice e')\/ut= .string) (hi:P.info? e=some i)
    (hlen:(Builtin.lenOf xv).run P w= .ok n w) (hcells:(Builtin.firstCells i.size n xv).run P w= .ok news.toArray w) (hc:sLen+n<=sCap):
    (Builtin.append_ ats ty args).run P w=match base with
      | some ad=>((storeCells (ad.add (sLen*i.size)) news).run P w).andThen fun _ w'=>.ok (.slice base (sLen+n) sCap) w'
      | none=>.ok (.slice none (sLen+n) sCap) w:=by
  have hsz:(sizeOf e).run P w= .ok i.size w:=Dt (by simp [CG,hi]) w;rcases hut with ⟨e',rfl⟩ | rfl<;>
    · simp only [Builtin.append_,ht0,ht1,a0,a1,Sem.run_bind,run_underlying ht,run_underlying hu,Result.andThen_ok,hsz,Sem.run_pure,Bool.false_eq_true,if_false,hlen,hc,if_true,Bool.not_false,hcells]
      cases base<;>simp
theorem EB {t u e ty:TypeId} {ut:TypeDesc} {i:TypeInfo} {z:Value} {ats:Array TypeId} {args:Array Value} {base:Option Addr} {sLen sCap n:Nat} {xv:Value} {olds news:List Value}
    (ht0:ats[0]?=some t) (ht1:ats[1]?=some u) (a0:args[0]?=some (.slice base sLen sCap)) (a1:args[1]?=some xv) (ht:P.underlying t=some (.slice e)) (hu:P.underlying u=some ut) (hut:(∃e',ut= .slice e')\/ut= .string) (hi:P.info? e=some i) (hz:i.zero=some z) (hb0:0<i.bytes)
    (hlen: ∀w':World,(Builtin.lenOf xv).run P w'= .ok n w') (hcells: ∀w':World,w'.heap=w.heap->(Builtin.firstCells i.size n xv).run P w'= .ok news.toArray w') (hold: ∀w':World,w'.heap=w.heap->(Builtin.firstCells i.size sLen (.slice base sLen sCap)).run P w'= .ok olds.toArray w')
    (hg:sCap<sLen+n) (hfit:(sLen+n)*i.bytes<=140737488355328):
    ∃(w':World) (rest:List Value) (cap:Nat),sLen+n<=cap/\rest.length=(cap-(sLen+n))*z.cells.size/\(Builtin.append_ ats ty args).run P w= .ok (.slice (some ⟨w.heap.size,0,none⟩) (sLen+n) cap) w'/\
        w'.heap=w.heap.push (.cells (olds++news++rest).toArray e (0,0))/\w'.os=w.os/\w'.output=w.output/\Tp w w':=by
  have hsz: ∀w':World,(sizeOf e).run P w'= .ok i.size w':=fun w'=>Dt (by simp [CG,hi]) w';have hbb:sLen+n<=(sLen+n)*i.bytes:=Nat.le_mul_of_pos_right _ hb0;have f2: ¬(Builtin.nextslicecap (sLen+n) sCap*i.bytes > 2 ^ 48):=by
    have:=growslice_fits (bytes:=i.bytes) hg hfit;omega
  have f3: ¬(sLen+n<=sCap):=by omega
  have f4: ¬(i.bytes=0):=by omega
  have hcapq:sLen+n<=(Question.appendCap (sLen+n) sCap e).cut (w.tape w.drawn (.appendCap (sLen+n) sCap e)):=by simp [Question.cut]
  have hf:(Question.appendCap (sLen+n) sCap e).forced=false:=rfl;generalize hq:(Question.appendCap (sLen+n) sCap e).cut (w.tape w.drawn (.appendCap (sLen+n) sCap e))=cap at hcapq;refine ⟨w.drew.alloc (.cells (olds++news++(Builtin.zeroCells z.cells (cap-(sLen+n))).toList).toArray e),(Builtin.zeroCells z.cells (cap-(sLen+n))).toList,cap,hcapq,?_,?_,rfl,rfl,rfl,(Tp.of rfl (Nat.le_succ _))⟩
  · simp [Builtin.zeroCells]
  · have hd:w.drew.heap=w.heap:=rfl
    have c1:=hcells w.drew hd;have c2:=hold w.drew hd;have c3:(zeroValue e).run P w.drew= .ok z w.drew:=by simp [zeroValue,Hg hi,hz]
    rcases hut with ⟨e',rfl⟩ | rfl<;>
      · simp only [Builtin.append_,ht0,ht1,a0,a1,Sem.run_bind,run_underlying ht,run_underlying hu,Result.andThen_ok,hsz,Sem.run_pure,Bool.false_eq_true,if_false,hlen,f3,Hg hi,false_or,f4,and_false,f2,Bool.not_false,if_true,run_choose,hf,hq,run_askRoom,World.drew_eq,c1,c2,c3,newRow,run_newObj]
        rw [show olds.toArray++news.toArray++Builtin.zeroCells z.cells (cap-(sLen+n))=(olds++news++(Builtin.zeroCells z.cells (cap-(sLen+n))).toList).toArray from by apply Array.ext';simp];rfl
theorem Qr (st:St E fz S w) (hF:CH E fz w F a.tmps) {o:Oper} {c:Call} {rs rx:AO} {t u e:TypeId} {ut:TypeDesc} {i:TypeInfo} {z:Value} (ho:o.op= .call c) (hc:c.callee= .builtin .append) (hargs:GK c.args.toList=some [rs,rx])
    (ht0:c.argTypes[0]?=some t) (ht1:c.argTypes[1]?=some u) (ht:P.underlying t=some (.slice e)) (hu:P.underlying u=some ut) (hut:(∃e',ut= .slice e')\/ut= .string) (hi:P.info? e=some i) (hz:i.zero=some z) (hs0:0<i.size) (hb0:0<i.bytes) (hzs:z.cells.size=i.size)
    (h:AF P F S K (.append i.size i.bytes rs rx)):Al P ((execOp a.eval o).run P w) (CQ K E fz S w):=by
  have h1:=FW hF hargs;simp only [List.map_cons,List.map_nil,AZ] at h1;obtain ⟨sv,us,e1,hrs,xv,us2,e2,hrx,rfl⟩:=h1;subst e2;have a0:(c.args.map a.eval)[0]?=some sv:=by rw [<-Array.getElem?_toList,Array.toList_map,e1];rfl
  have a1:(c.args.map a.eval)[1]?=some xv:=by rw [<-Array.getElem?_toList,Array.toList_map,e1];rfl
  simp only [AF,AD] at h;obtain ⟨n,ys,news,hq,hyl,hyr,hone,hlen,hcells⟩:=kx (P:=P) st h hrx;clear h;have hnl:news.length=n*i.size:=by rw [hyr.length,hyl]
  have hex: ∀ {v:Value} {w':World},(Builtin.append_ c.argTypes o.type (c.args.map a.eval)).run P w= .ok v w'->(execOp a.eval o).run P w= .ok (.value v) w':=fun {v w'} hr=>by
    simp [execOp,ho,resolve,hc,invoke,builtin,hr]
  generalize rd F rs=X at*;cases X<;>first | exact hq.elim | skip
  case AL=>
    simp only [A5] at hq;simp only [Rel] at hrs;subst hrs;by_cases hn0:n=0
    · subst hn0
      have:ys=[]:=List.length_eq_zero_iff.1 (by omega);subst this;have hr:=D6 (P:=P) (w:=w) (ty:=o.type) (sLen:=0) (sCap:=0) ht0 ht1 a0 a1 ht hu hut hi (hlen w) (hcells w rfl) (by omega);obtain ⟨ver,E',p1,p2,p3⟩:=aa st i.size;exact C_ st (hex hr) ⟨_,_,E',fz,hq.2 ver,p3,p2,by simp only [Rel];exact .inl ⟨trivial,none,rfl⟩⟩
    · obtain ⟨w',rest,cap,q1,q2,q3,q4,q5,q6,q7⟩:=EB (P:=P) (w:=w) (ty:=o.type) (base:=none) (sLen:=0) (sCap:=0) (olds:=[]) ht0 ht1 a0 a1 ht hu hut hi hz hb0 hlen hcells (fun w' _=>by simp [Builtin.firstCells]) (by omega) (by simpa using hq.1)
      obtain ⟨ver,E',p1,p2,p3⟩:=LM (w':=w') st (rest:=rest) (T:=e) i.size hyr hone (by simpa using q4) q5 q6 q7;refine C_ st (hex q3) ⟨_,_,E',fz,hq.2 ver,p3,p2,?_⟩;simp only [Rel];refine .inr ⟨_,_,_,_,cap,p1,by omega,?_,by simp⟩;rw [List.length_append,hnl,q2,hzs,<-Nat.add_mul];simp only [Nat.zero_add] at q1 |-;rw [show n+(cap-n)=cap by omega];exact Nat.le_refl _
  case sl l ver off len=>
    obtain ⟨k',cs,hl,rfl,hfit,hby,hk⟩:=AP.1 hq;simp only [Cj] at hk;have hlt:l<S.length:=by
      rcases Nat.lt_or_ge l S.length with h | h
      · exact h
      · simp [List.getElem?_eq_none h] at hl
    simp only [Rel] at hrs;rcases hrs with ⟨rfl,ao,rfl⟩ | ⟨b,base,cap,kk,cc,hE,hle,hcap,rfl⟩
    · have hsub:A6 cs off (0*i.size)=[]:=by simp [A6]
      by_cases hn0:n=0
      · subst hn0
        have:ys=[]:=List.length_eq_zero_iff.1 (by omega);subst this;have hnn:news=[]:=List.length_eq_zero_iff.1 (by omega);subst hnn;have hr:=D6 (P:=P) (w:=w) (ty:=o.type) (sLen:=0) (sCap:=0) ht0 ht1 a0 a1 ht hu hut hi (hlen w) (hcells w rfl) (by omega);have hr':(Builtin.append_ c.argTypes o.type (c.args.map a.eval)).run P w= .ok (.slice ao 0 0) w:=by
          rw [hr];cases ao<;>simp [storeCells]
        obtain ⟨ver',E',p1,p2,p3⟩:=set_nil st hlt i.size;have hk':=(hk ver').2;rw [hsub] at hk';exact C_ st (hex hr') ⟨_,_,E',fz,hk',p3,p2,by simp only [Rel];exact .inl ⟨trivial,ao,rfl⟩⟩
      · obtain ⟨w',rest,cap,q1,q2,q3,q4,q5,q6,q7⟩:=EB (P:=P) (w:=w) (ty:=o.type) (base:=ao) (sLen:=0) (sCap:=0) (olds:=[]) ht0 ht1 a0 a1 ht hu hut hi hz hb0 hlen hcells (fun w' _=>by cases ao<;>simp [Builtin.firstCells,loadCells,loadCellsFrom]) (by omega) hby
        obtain ⟨ver',E',p1,p2,p3⟩:=ko (w':=w') st hlt (rest:=rest) (T:=e) i.size hyr hone (by simpa using q4) q5 q6 q7;have hk':=(hk ver').2;rw [hsub,List.nil_append] at hk';refine C_ st (hex q3) ⟨_,_,E',fz,hk',p3,p2,?_⟩;simp only [Rel];refine .inr ⟨_,_,_,_,cap,p1,by omega,?_,by simp⟩;rw [List.length_append,hnl,q2,hzs,<-Nat.add_mul];simp only [Nat.zero_add] at q1 |-;rw [show n+(cap-n)=cap by omega];exact Nat.le_refl _
    · have hkk:kk=i.size:=by
        rcases st.ok l _ hl with ⟨p1,_⟩ | ⟨_,_,_,_,_,_,_,p1,_⟩<;>rw [hE] at p1<;>cases p1;rfl
      subst hkk;by_cases hin:len+n<=cc
      · have hr:=D6 (P:=P) (w:=w) (ty:=o.type) ht0 ht1 a0 a1 ht hu hut hi (hlen w) (hcells w rfl) hin
        have hmul:(len+n)*i.size<=cc*i.size:=Nat.mul_le_mul_right _ hin;rw [Nat.add_mul] at hmul;obtain ⟨w',ver',E',p0,p1,p2,p3⟩:=qg (P:=P) st hl hfit hE (by omega) hyr hone;have hr':(Builtin.append_ c.argTypes o.type (c.args.map a.eval)).run P w= .ok (.slice (some ⟨b,base+off,none⟩) (len+n) cc) w':=by
          rw [hr];simp only [IY];rw [show base+off+len*i.size=base+(off+len*i.size) by omega,p0];rfl
        refine C_ st (hex hr') ⟨_,_,E',fz,(hk ver').2,p3,p2,?_⟩;simp only [Rel];exact .inr ⟨b,base+off,cap-off,i.size,cc,p1,hin,by omega,by simp⟩
      · rcases st.ok l _ hl with ⟨g1,g2⟩ | ⟨b',base',cap',arr,T,lo,hi',g1,g2,g3,g4,g5,g6,g7⟩
        · rw [hE] at g1;cases g1
        · rw [hE] at g1;cases g1
          have hsl:(A6 cs off (len*i.size)).length=len*i.size:=by simp [A6];omega
          obtain ⟨olds,r1,r2,r3⟩:=((g6.drop off).take (len*i.size)).read;have hol:olds.length=len*i.size:=by rw [r1.length];exact hsl
          obtain ⟨w',rest,cap2,q1,q2,q3,q4,q5,q6,q7⟩:=EB (P:=P) (w:=w) (ty:=o.type) (olds:=olds) ht0 ht1 a0 a1 ht hu hut hi hz hb0 hlen hcells
            (fun w' hw=>run_firstCells_some (P:=P) w' i.size len _ len cc olds hol fun j v hv=>by rw [IY,<-r3 j v hv];unfold World.cell?;rw [hw]) (by omega) hby
          obtain ⟨ver',E',p1,p2,p3⟩:=ko (w':=w') st hlt (rest:=rest) (T:=e) i.size (r1.append hyr) (fun c hc=>(List.mem_append.1 hc).elim (r2 c) (hone c)) (by simpa using q4) q5 q6 q7;refine C_ st (hex q3) ⟨_,_,E',fz,(hk ver').2,p3,p2,?_⟩;simp only [Rel];refine .inr ⟨_,_,_,_,cap2,p1,by omega,?_,by simp⟩;rw [List.length_append,List.length_append,hol,hnl,q2,hzs,<-Nat.add_mul,<-Nat.add_mul];rw [show len+n+(cap2-(len+n))=cap2 by omega];simp
theorem gK (st:St E fz S w) (hF:CH E fz w F a.tmps) {o:Oper} {c:Call} {rs rx:AO} {t u e:TypeId} {ut:TypeDesc} {i:TypeInfo} {z:Value} (ho:o.op= .call c) (hc:c.callee= .builtin .append) (hargs:GK c.args.toList=some [rs,rx])
    (ht0:c.argTypes[0]?=some t) (ht1:c.argTypes[1]?=some u) (ht:P.underlying t=some (.slice e)) (hu:P.underlying u=some ut) (hut:(∃e',ut= .slice e')\/ut= .string) (hi:P.info? e=some i) (hz:i.zero=some z) (hs0:0<i.size) (hb0:0<i.bytes) (hzs:z.cells.size=i.size)
    (h:AF P F S K (.XQ i.size i.bytes rs rx)):Al P ((execOp a.eval o).run P w) (CQ K E fz S w):=by
  have h1:=FW hF hargs;simp only [List.map_cons,List.map_nil,AZ] at h1;obtain ⟨sv,us,e1,hrs,xv,us2,e2,hrx,rfl⟩:=h1;subst e2;have a0:(c.args.map a.eval)[0]?=some sv:=by rw [<-Array.getElem?_toList,Array.toList_map,e1];rfl
  have a1:(c.args.map a.eval)[1]?=some xv:=by rw [<-Array.getElem?_toList,Array.toList_map,e1];rfl
  simp only [AF,AD] at h;obtain ⟨n,ys,news,hq,hyl,hyr,hone,hlen,hcells⟩:=kx (P:=P) st h hrx;clear h;have hnl:news.length=n*i.size:=by rw [hyr.length,hyl]
  have hex: ∀ {v:Value} {w':World},(Builtin.append_ c.argTypes o.type (c.args.map a.eval)).run P w= .ok v w'->(execOp a.eval o).run P w= .ok (.value v) w':=fun {v w'} hr=>by
    simp [execOp,ho,resolve,hc,invoke,builtin,hr]
  obtain ⟨hn0,hq⟩:=hq;generalize rd F rs=X at*;cases X<;>first | exact hq.elim | skip
  case AL=>
    simp only [A5] at hq;simp only [Rel] at hrs;subst hrs;obtain ⟨w',rest,cap,q1,q2,q3,q4,q5,q6,q7⟩:=EB (P:=P) (w:=w) (ty:=o.type) (base:=none) (sLen:=0) (sCap:=0) (olds:=[]) ht0 ht1 a0 a1 ht hu hut hi hz hb0 hlen hcells (fun w' _=>by simp [Builtin.firstCells]) (by omega) (by simpa using hq.1);obtain ⟨ver,E',p1,p2,p3⟩:=LM (w':=w') st (rest:=rest) (T:=e) i.size hyr hone (by simpa using q4) q5 q6 q7;refine C_ st (hex q3) ⟨_,_,E',fz,hq.2 ver,p3,p2,?_⟩;simp only [Rel];refine .inr ⟨_,_,_,_,cap,p1,by omega,?_,by simp⟩;rw [List.length_append,hnl,q2,hzs,<-Nat.add_mul];simp only [Nat.zero_add] at q1 |-;rw [show n+(cap-n)=cap by omega];exact Nat.le_refl _
  case sl l ver off len=>
    obtain ⟨k',cs,hl,rfl,hfit,hby,hki,hk⟩:=AP.1 hq;simp only [Cj] at hki;simp only [A5] at hk;have hlt:l<S.length:=by
      rcases Nat.lt_or_ge l S.length with h | h
      · exact h
      · simp [List.getElem?_eq_none h] at hl
    simp only [Rel] at hrs;rcases hrs with ⟨rfl,ao,rfl⟩ | ⟨b,base,cap,kk,cc,hE,hle,hcap,rfl⟩
    · have hsub:A6 cs off (0*i.size)=[]:=by simp [A6]
      obtain ⟨w',rest,cap,q1,q2,q3,q4,q5,q6,q7⟩:=EB (P:=P) (w:=w) (ty:=o.type) (base:=ao) (sLen:=0) (sCap:=0) (olds:=[]) ht0 ht1 a0 a1 ht hu hut hi hz hb0 hlen hcells (fun w' _=>by cases ao<;>simp [Builtin.firstCells,loadCells,loadCellsFrom]) (by omega) hby;obtain ⟨ver',E',p1,p2,p3⟩:=LM (w':=w') st (rest:=rest) (T:=e) i.size hyr hone (by simpa using q4) q5 q6 q7;have hk':=hk ver';rw [hsub,List.nil_append] at hk';refine C_ st (hex q3) ⟨_,_,E',fz,hk',p3,p2,?_⟩;simp only [Rel];refine .inr ⟨_,_,_,_,cap,p1,by omega,?_,by simp⟩;rw [List.length_append,hnl,q2,hzs,<-Nat.add_mul];simp only [Nat.zero_add] at q1 |-;rw [show n+(cap-n)=cap by omega];exact Nat.le_refl _
    · have hkk:kk=i.size:=by
        rcases st.ok l _ hl with ⟨p1,_⟩ | ⟨_,_,_,_,_,_,_,p1,_⟩<;>rw [hE] at p1<;>cases p1;rfl
      subst hkk;by_cases hin:len+n<=cc
      · have hr:=D6 (P:=P) (w:=w) (ty:=o.type) ht0 ht1 a0 a1 ht hu hut hi (hlen w) (hcells w rfl) hin
        have hmul:(len+n)*i.size<=cc*i.size:=Nat.mul_le_mul_right _ hin;rw [Nat.add_mul] at hmul;obtain ⟨w',p0,p2,p3⟩:=qf (P:=P) st hl hfit hE (by omega) hyr hone;have hr':(Builtin.append_ c.argTypes o.type (c.args.map a.eval)).run P w= .ok (.slice (some ⟨b,base+off,none⟩) (len+n) cc) w':=by
          rw [hr];simp only [IY];rw [show base+off+len*i.size=base+(off+len*i.size) by omega,p0];rfl
        refine C_ st (hex hr') ⟨_,_,E,fz,hki.2,p3,p2,?_⟩;simp only [Rel];exact .inr ⟨b,base,cap,i.size,cc,hE,hin,by omega,by simp⟩
      · rcases st.ok l _ hl with ⟨g1,g2⟩ | ⟨b',base',cap',arr,T,lo,hi',g1,g2,g3,g4,g5,g6,g7⟩
        · rw [hE] at g1;cases g1
        · rw [hE] at g1;cases g1
          have hsl:(A6 cs off (len*i.size)).length=len*i.size:=by simp [A6];omega
          obtain ⟨olds,r1,r2,r3⟩:=((g6.drop off).take (len*i.size)).read;have hol:olds.length=len*i.size:=by rw [r1.length];exact hsl
          obtain ⟨w',rest,cap2,q1,q2,q3,q4,q5,q6,q7⟩:=EB (P:=P) (w:=w) (ty:=o.type) (olds:=olds) ht0 ht1 a0 a1 ht hu hut hi hz hb0 hlen hcells
            (fun w' hw=>run_firstCells_some (P:=P) w' i.size len _ len cc olds hol fun j v hv=>by rw [IY,<-r3 j v hv];unfold World.cell?;rw [hw]) (by omega) hby
          obtain ⟨ver',E',p1,p2,p3⟩:=LM (w':=w') st (rest:=rest) (T:=e) i.size (r1.append hyr) (fun c hc=>(List.mem_append.1 hc).elim (r2 c) (hone c)) (by simpa using q4) q5 q6 q7;refine C_ st (hex q3) ⟨_,_,E',fz,hk ver',p3,p2,?_⟩;simp only [Rel];refine .inr ⟨_,_,_,_,cap2,p1,by omega,?_,by simp⟩;rw [List.length_append,List.length_append,hol,hnl,q2,hzs,<-Nat.add_mul,<-Nat.add_mul];rw [show len+n+(cap2-(len+n))=cap2 by omega];simp
end
end Go.Vc
end
section
namespace Go.Vc
section
variable {P : Program} {E : Env} {fz : Nat -> Prop} {S : AB} {w : World} {F : Frame} {a : Act} {K : AA -> AB -> Prop} {ro : Bool}
theorem W0 {a b:Addr} {ca cb:Array Value} {ta tb:TypeId} {m m':Nat} (hne:a.block≠b.block) (ha:w.heap[a.block]?=some (.cells ca ta (m,m))) (hb:w.heap[b.block]?=some (.cells cb tb (m',m'))):
    (sameAddr a b).run P w= .ok false w:=by
  have f: ∀i m:Nat,(decide (m<=i) && decide (i<m))=false:=fun i m=>by
    by_cases c:m<=i
    · have: ¬i<m:=by omega
      simp [this]
    · simp [c]
  simp [sameAddr,hne,World.frozen?,ha,hb,noView,viewAt,World.shape?,mayBeOne,stringish,f]
theorem pK {l l':Nat} {v v' off off':Nat} {t e:TypeId} {cs cs':List AA} {x y:Value} {n:Nat} (st:St E fz S w) (ht:P.underlying t=some (.pointer e)) (hn:CG P e=some (n+1)) (hx:Rel E fz w (.ptr l v off) x) (hy:Rel E fz w (.ptr l' v' off') y)
    (h1:S[l]?=some (.row v 0 cs)) (h2:S[l']?=some (.row v' 0 cs')):(Op.equal t x y).run P w= .ok (decide (l=l'/\off=off')) w:=by
  simp only [Rel] at hx hy;obtain ⟨b,base,cap,kk,e1,rfl⟩:=hx;obtain ⟨b',base',cap',kk',e2,rfl⟩:=hy;have cl: ∀ {l v b base cap kk:Nat} {cs:List AA},S[l]?=some (Ob.row v 0 cs)->E v=some (.real b base cap kk)-> ∃arr T m,w.heap[b]?=some (.cells arr T (m,m)):=fun {l v b base cap kk cs} g1 g2=>by
    rcases st.ok l _ g1 with ⟨q1,_⟩ | ⟨b1,_,_,arr,T,lo,hi,q1,q2,_,_,q5,_⟩
    · rw [g2] at q1;cases q1
    · rw [g2] at q1;cases q1
      rcases q5 with q5 | q5
      · subst q5;exact ⟨arr,T,lo,q2⟩
      · exact absurd q5.1 (by decide)
  obtain ⟨arr,T,m,c1⟩:=cl h1 e1;obtain ⟨arr',T',m',c2⟩:=cl h2 e2;have key:(sameAddr (⟨b,base+off,none⟩:Addr) ⟨b',base'+off',none⟩).run P w= .ok (decide (l=l'/\off=off')) w:=by
    by_cases c:l=l'
    · subst c
      rw [h1] at h2;cases h2;rw [e1] at e2;cases e2;have:((⟨b,base+off,none⟩:Addr) == ⟨b,base+off',none⟩)=decide (off=off'):=by
        rw [Bool.eq_iff_iff,beq_iff_eq,decide_eq_true_eq,Addr.mk.injEq];constructor
        · rintro ⟨_,h,_⟩;omega
        · rintro rfl;exact ⟨rfl,rfl,rfl⟩
      simp [sameAddr,this]
    · have hb:b≠b':=fun e=>by
        subst e;exact c (st.sep l l' b ⟨_,h1,by simp [AU,e1]⟩ ⟨_,h2,by simp [AU,e2]⟩)
      rw [W0 (P:=P) (w:=w) (a:=⟨b,base+off,none⟩) (b:=⟨b',base'+off',none⟩) hb c1 c2];simp [c]
  obtain ⟨i,hi,hs⟩: ∃i,P.info? e=some i/\i.size≠0:=by
    unfold CG at hn;split at hn
    · rename_i i hi;exact ⟨i,hi,by have:=Option.some.inj hn;omega⟩
    · cases hn
  have gen: ∀d:Nat,(Op.equalIn (d+1) t (.pointer (some ⟨b,base+off,none⟩)) (.pointer (some ⟨b',base'+off',none⟩))).run P w= .ok (decide (l=l'/\off=off')) w:=fun d=>by
    simp [Op.equalIn,run_underlying ht,sizeOf,typeInfo,hi,hs,key]
  rw [D8];exact gen 9999
theorem Y3 (st:St E fz S w) (hF:CH E fz w F a.tmps) {o:Oper} {op:BinOp} {t u:TypeId} {x y:Nat} {neg:Bool} (ho:o.op= .binOp op t (.tmp x) (.tmp y) u) (hq:sU P t=some .ptr)
    (hop:(op= .eql/\neg=false)\/(op= .neq/\neg=true)) (h:AF P F S K (.peq neg (.t x) (.t y))):Al P ((execOp a.eval o).run P w) (CQ K E fz S w):=by
  have h1:=hF x;have h2:=hF y;simp only [AF,AD,rd] at h;obtain ⟨e,ht⟩:=HT hq;have hsz: ∃n,CG P e=some (n+1):=by
    unfold sU at hq;rw [ht] at hq;simp only at hq;split at hq
    · rename_i n hn;exact ⟨n,hn⟩
    · cases hq
  obtain ⟨n,hn⟩:=hsz;have e1:a.eval (.tmp x)=a.tmps.getD x undef:=rfl;have e2:a.eval (.tmp y)=a.tmps.getD y undef:=rfl;generalize hvx:a.tmps.getD x undef=vx at*;generalize hvy:a.tmps.getD y undef=vy at*;have fin: ∀ {r:Bool},(binOp .eql t vx vy=(do pure (.bool (<-Op.equal t vx vy)))/\binOp .neq t vx vy=(do pure (.bool (!(<-Op.equal t vx vy)))))->(∀d,vx≠ .nilIface/\vx≠ .agg d)->(Op.equal t vx vy).run P w= .ok r w->K (.bool (r != neg)) S->Al P ((execOp a.eval o).run P w) (CQ K E fz S w):=fun {r} hb hne hr hk=>by
    have hg:(eqGuard op t (.tmp x) (.tmp y) vx vy).run P w= .ok () w:=by
      have:eqGuard op t (.tmp x) (.tmp y) vx vy=pure ():=by
        cases vx<;>first | (cases op<;>rfl) | exact ((hne #[]).1 rfl).elim | (rename_i cs;exact ((hne cs).2 rfl).elim)
      rw [this];exact Sem.run_pure P w ()
    obtain ⟨v,z,g1,g2,g3⟩:=Jz (P:=P) (E:=E) (fz:=fz) (w:=w) (t:=t) (op:=op) (v:=vx) (u:=vy) (r:=r) (K:=fun z=>z= .bool (r != neg)) hb hr (by
      rcases hop with ⟨rfl,rfl⟩ | ⟨rfl,rfl⟩<;>cases r<;>rfl)
    subst g2;exact Ak st (by simp [execOp,ho,e1,e2,hg,g1]) hk g3
  generalize F.get x=X at*;generalize F.get y=Y at*;cases X<;>cases Y<;>simp only at h<;>first | exact h.elim | skip
  case B4.B4=>
    simp only [Rel] at h1 h2;subst h1;subst h2;exact fin ⟨rfl,rfl⟩ (fun d=>⟨by simp,by simp⟩) (r:=true) (by rw [D8];exact pJ w 9999 ht) (by cases neg<;>exact h)
  case B4.ptr=>
    simp only [Rel] at h1 h2;obtain ⟨b,base,cap,k,_,rfl⟩:=h2;subst h1;exact fin ⟨rfl,rfl⟩ (fun d=>⟨by simp,by simp⟩) (r:=false) (by rw [D8];exact aA w 9999 ht) (by cases neg<;>exact h)
  case B4.GX=>
    simp only [Rel] at h1 h2;obtain ⟨b,off,_,rfl,_⟩:=h2;subst h1;exact fin ⟨rfl,rfl⟩ (fun d=>⟨by simp,by simp⟩) (r:=false) (by rw [D8];exact aA w 9999 ht) (by cases neg<;>exact h)
  case ptr.B4=>
    simp only [Rel] at h1 h2;obtain ⟨b,base,cap,k,_,rfl⟩:=h1;subst h2;exact fin ⟨rfl,rfl⟩ (fun d=>⟨by simp,by simp⟩) (r:=false) (by rw [D8];exact aB w 9999 ht) (by cases neg<;>exact h)
  case GX.B4=>
    simp only [Rel] at h1 h2;obtain ⟨b,off,_,rfl,_⟩:=h1;subst h2;exact fin ⟨rfl,rfl⟩ (fun d=>⟨by simp,by simp⟩) (r:=false) (by rw [D8];exact aB w 9999 ht) (by cases neg<;>exact h)
  case ptr.ptr l v off l' v' off'=>
    obtain ⟨k,cs,g1,rfl,h⟩:=AP.1 h;obtain ⟨k',cs',g2,rfl,h⟩:=AP.1 h;have hr:=pK st ht hn h1 h2 g1 g2;simp only [Rel] at h1 h2;obtain ⟨b,base,cap,k,_,rfl⟩:=h1;obtain ⟨b',base',cap',k',_,rfl⟩:=h2;exact fin ⟨rfl,rfl⟩ (fun d=>⟨by simp,by simp⟩) hr h
theorem UE (st:St E fz S w) (hF:CH E fz w F a.tmps) {o:Oper} {op:BinOp} {t u e:TypeId} {x:Operand} {rx:AO} {neg:Bool} (ho:o.op= .binOp op t x (.const (.slice none 0 0)) u) (ht:P.underlying t=some (.slice e)) (hx:Ad x=some rx)
    (hop:(op= .eql/\neg=false)\/(op= .neq/\neg=true)) (h:AF P F S K (.HB neg rx)):Al P ((execOp a.eval o).run P w) (CQ K E fz S w):=by
  have h1:=Ac hF hx;simp only [AF,AD] at h;generalize rd F rx=X at*;have fin: ∀ {ao:Option Addr} {n c:Nat},a.eval x= .slice ao n c->K (.bool (ao.isNone != neg)) S->Al P ((execOp a.eval o).run P w) (CQ K E fz S w):=fun {ao n c} hv hk=>by
    refine Ak st (v:= .bool (ao.isNone != neg)) ?_ hk (by simp [Rel]);have e2:a.eval (.const (.slice none 0 0))= .slice none 0 0:=rfl;have hg:(eqGuard op t x (.const (.slice none 0 0)) (.slice ao n c) (.slice none 0 0)).run P w= .ok () w:=by
      rcases hop with ⟨rfl,_⟩ | ⟨rfl,_⟩<;>exact Sem.run_pure P w ()
    rcases hop with ⟨rfl,rfl⟩ | ⟨rfl,rfl⟩
    · have hr:(binOp .eql t (.slice ao n c) (.slice none 0 0)).run P w= .ok (.bool (ao.isNone != false)) w:=by
        simp only [binOp];simp [run_equal_slice_nil w t e ao n c ht]
      simp only [execOp,ho,hv,e2];simp only [Sem.run_bind,hg,hr,Result.andThen_ok,Sem.run_pure]
    · have hr:(binOp .neq t (.slice ao n c) (.slice none 0 0)).run P w= .ok (.bool (ao.isNone != true)) w:=by
        rw [run_neq_slice_nil w t e ao n c ht];cases ao<;>rfl
      simp only [execOp,ho,hv,e2];simp only [Sem.run_bind,hg,hr,Result.andThen_ok,Sem.run_pure]
  cases X<;>first | exact h.elim | skip
  case AL=>
    simp only [Rel] at h1;exact fin h1 (by simpa using h)
  case Ez n cs=>
    simp only [Rel] at h1;rcases h1 with ⟨hn,ao,c,e1⟩ | ⟨b,off,c,_,_,e1,_⟩
    · exact fin e1 (h _ fun _=>hn)
    · exact fin e1 (h _ fun e=>by simp at e)
  case sl l v off n=>
    simp only [Rel] at h1;rcases h1 with ⟨hn,ao,e1⟩ | ⟨b,base,cap,k,c,_,_,_,e1⟩
    · exact fin e1 (h _ fun _=>hn)
    · exact fin e1 (h _ fun e=>by simp at e)
theorem qA (st:St E fz S w) {l:Nat} (hd:S[l]?=some .dead) {cs:List AA} {vs rest:List Value} {T:TypeId} (k:Nat) (hr:AZ E fz w cs vs) (h1: ∀c∈vs,c.oneCell'=true)
    {w':World} (hw:w'.heap=w.heap.push (.cells (vs++rest).toArray T (0,0))) (g1:w'.os=w.os) (g2:w'.output=w.output) (g3:Tp w w'):
    ∃ver E',E' ver=some (.real w.heap.size 0 (vs++rest).length k)/\St E' fz (S.set l (.row ver k cs)) w'/\Ext E fz S w E' fz (S.set l (.row ver k cs)) w':=by
  obtain ⟨n,hn⟩:=st.fresh;have hll:l<S.length:=(List.getElem?_eq_some_iff.1 hd).1;have hE: ∀v x,E v=some x->(fun v=>if v=n then some (Bk.real w.heap.size 0 (vs++rest).length k) else E v) v=some x:=fun v x hx=>by
    have:v≠n:=fun e=>by subst e;rw [hn v (Nat.le_refl _)] at hx;cases hx
    simp [this,hx]
  have hlt: ∀b:Nat,b<w.heap.size->w'.heap[b]?=w.heap[b]?:=fun b hb=>by
    rw [hw,Array.getElem?_push,if_neg (by omega)]
  have hnew:w'.heap[w.heap.size]?=some (.cells (vs++rest).toArray T (0,0)):=by rw [hw];simp
  refine ⟨n,fun v=>if v=n then some (.real w.heap.size 0 (vs++rest).length k) else E v,by simp,
    st.fy l (.row n k cs) hE ⟨n+1,fun v hv=>by simp [hn v (by omega),show v≠n by omega]⟩ (fun l' hl'=>by rw [List.getElem?_set_ne (fun e=>hl' e.symm)]) (by rw [List.getElem?_set_self hll]) (by rw [hw];simp) (fun b hb _=>hlt b hb) (fun b hb=>.inr ?_) ?_ g1 g2 g3⟩
  · simp [AU] at hb;omega
  · refine .inr ⟨w.heap.size,0,(vs++rest).length,(vs++rest).toArray,T,0,0,by simp,hnew,by simp,?_,.inl rfl,?_,fun hf=>?_⟩
    · have:=hr.length;simp;omega
    · refine Ck.mk fun i x hx=>?_
      obtain ⟨v,hv,hrel⟩:=hr.get hx;have hil:i<vs.length:=by
        rcases Nat.lt_or_ge i vs.length with h | h
        · exact h
        · simp [List.getElem?_eq_none h] at hv
      refine ⟨v,?_,h1 v (List.mem_of_getElem? hv),hrel.mono hE (fun _ h=>h) (fun b hb=>hlt b (st.Gi b hb))⟩;rw [Ce hnew];simp [List.getElem?_append_left hil,hv]
    · have:=st.Gi _ hf;omega
theorem dq (st:St E fz S w) (hF:CH E fz w F a.tmps) {o:Oper} {t e:TypeId} {x y:Operand} {rx ry:AO} {n b d:Nat} {z:List AA} (ho:o.op= .makeSlice t x y) (ht:P.underlying t=some (.slice e)) (hn:CG P e=some n) (hb:Tl P e=some b) (hz:IK P e=some z) (h0:0<n) (hb0:0<b) (hzl:z.length=n) (hx:Ad x=some rx) (hy:Ad y=some ry)
    (h:AF P F S K (.NS d n b z rx ry)):Al P ((execOp a.eval o).run P w) (CQ K E fz S w):=by
  have hr1:=Ac hF hx;have hr2:=Ac hF hy;simp only [AF,AD] at h;obtain ⟨k,m,ex,hyx,hm,hd0,hdl,hdead,hk⟩:=Ep h;rw [hyx,ex] at hr2;rw [ex] at hr1;simp only [Rel] at hr1 hr2;have hzz: ∃i zv,P.info? e=some i/\i.zero=some zv/\ZZ zv.cells.toList=some z/\i.size=n/\i.bytes=b:=by
    unfold IK at hz;unfold CG at hn;unfold Tl at hb;split at hz
    · rename_i i hi
      rw [hi] at hn hb;split at hz
      · rename_i zv hzv
        exact ⟨i,zv,hi,hzv,hz,by simpa using hn,by simpa using hb⟩
      · cases hz
    · cases hz
  obtain ⟨i,zv,hi,hzv,hab,hsz,hby⟩:=hzz;have hmm:m<=b*m:=Nat.le_mul_of_pos_left m hb0;have hrun:=run_make (P:=P) w t e i zv ht hi hzv k k (m:Int) (m:Int) (by omega) (Int.le_refl _) (by rw [hby,<-Int.natCast_mul];omega) (by omega);have hrel:=KW (E:=E) (fz:=fz) (w:=w) hab;obtain ⟨g1,g2⟩:=Rb hrel.1 hrel.2 (by omega) m;rw [hzl] at g1 g2;obtain ⟨ver,E',q1,q2,q3⟩:=qA (w':=w.alloc (.cells (madeCells zv.cells (m*n)) e)) st hdead (rest:=[]) (T:=e) n g1 g2 (by rw [List.append_nil];rfl) rfl rfl (Tp.of rfl (Nat.le_refl _));have hlen:(madeCells zv.cells (m*n)).toList.length=m*n:=by simp [madeCells]
  refine C_ st (v:= .slice (some ⟨w.heap.size,0,none⟩) m m) (w':=w.alloc (.cells (madeCells zv.cells (m*n)) e)) ?_ ⟨.sl (S.length-d) ver 0 m,_,E',fz,hk ver,q3,q2,?_⟩
  · simp only [execOp,ho,hr1,hr2]
    simp only [Int.toNat_natCast,hsz] at hrun;simp [hrun]
  · simp only [Rel]
    refine .inr ⟨_,_,_,_,m,q1,Nat.le_refl _,?_,rfl⟩;simp [hlen]
theorem bz (st:St E fz S w) {o:Oper} {t:TypeId} {z:List AA} {k d:Nat} (ho:o.op= .alloc t) (hz:IK P t=some z)
    (h:AF P F S K (.NN d k z)):Al P ((execOp a.eval o).run P w) (CQ K E fz S w):=by
  simp only [AF] at h;obtain ⟨hd0,hdl,hdead,hk⟩:=h;obtain ⟨v,g1,g2,g3⟩:=OQ hz w;obtain ⟨ver,E',q1,q2,q3⟩:=qA (w':=w.alloc (.cells v.cells t)) st hdead (rest:=[]) (T:=t) k (g2 E fz w) g3 (by rw [List.append_nil];rfl) rfl rfl (Tp.of rfl (Nat.le_refl _));exact C_ st (by simp [execOp,ho,Instr.alloc,g1,newVar,newRow];rfl) ⟨.ptr (S.length-d) ver 0,_,E',fz,hk ver,q3,q2,by simp only [Rel];exact ⟨_,_,_,_,q1,rfl⟩⟩
theorem cL (st:St E fz S w) (hF:CH E fz w F a.tmps) {o:Oper} {c:Call} {r:AO} {t e:TypeId} {n:Nat} {z:List AA} (ho:o.op= .call c) (hc:c.callee= .builtin .clear) (hargs:GK c.args.toList=some [r])
    (ht:c.argTypes[0]?=some t) (hu:P.underlying t=some (.slice e)) (hn:CG P e=some n) (hz:IK P e=some z) (h0:0<n) (hzl:z.length=n)
    (h:AF P F S K (.clear n z r)):Al P ((execOp a.eval o).run P w) (CQ K E fz S w):=by
  have h1:=FW hF hargs;simp only [List.map_cons,List.map_nil,AZ] at h1;obtain ⟨v,us,e1,hr,rfl⟩:=h1;have e2:(c.args.map a.eval)[0]?=some v:=by rw [<-Array.getElem?_toList,Array.toList_map,e1];rfl
  simp only [AF,AD] at h;generalize rd F r=X at*;have hzz: ∃i zv,P.info? e=some i/\i.zero=some zv/\ZZ zv.cells.toList=some z/\i.size=n:=by
    unfold IK at hz;unfold CG at hn;split at hz
    · rename_i i hi
      rw [hi] at hn;split at hz
      · rename_i zv hzv
        exact ⟨i,zv,hi,hzv,hz,by simpa using hn⟩
      · cases hz
    · cases hz
  obtain ⟨i,zv,hi,hzv,hab,hsz⟩:=hzz;have go: ∀ {w':World} {S':AB},(Builtin.clear_ c.argTypes o.type (c.args.map a.eval)).run P w= .ok (.tuple #[]) w'->Ext E fz S w E fz S' w'->St E fz S' w'->K .C3 S'->Al P ((execOp a.eval o).run P w) (CQ K E fz S w):=fun {w' S'} hrun hx hs hk=>by
    refine C_ st (v:= .tuple #[]) (w':=w') ?_ ⟨.C3,S',E,fz,hk,hx,hs,by simp [Rel]⟩;simp [execOp,ho,resolve,hc,invoke,builtin,hrun]
  have zero: ∀ {ao:Option Addr} {c':Nat},v= .slice ao 0 c'->(Builtin.clear_ c.argTypes o.type (c.args.map a.eval)).run P w= .ok (.tuple #[]) w:=fun {ao c'} hv=>by
    subst hv;cases ao<;>simp [Builtin.clear_,ht,e2,run_underlying hu]
  have same: ∀ {l ver k:Nat} {cs:List AA} {off:Nat},S[l]?=some (.row ver k cs)->S.set l (.row ver k (setCells cs off []))=S:=fun {l ver k cs off} hl=>by
    have:setCells cs off []=cs:=by
      clear hl
      induction cs generalizing off with
      | nil=>cases off<;>rfl
      | cons c cs ih=>cases off with
        | zero=>rfl
        | succ off=>simp only [setCells];rw [ih]
    rw [this];exact List.ext_getElem? fun i=>by
      rw [List.getElem?_set];split
      · rename_i e;subst e;split
        · exact hl.symm
        · rename_i hh;rw [List.getElem?_eq_none (by omega)] at hl;cases hl
      · rfl
  cases X<;>first | exact h.elim | skip
  case AL=>
    simp only [Rel] at hr;exact go (zero hr) .refl st h
  case sl l ver off m=>
    simp only at h;obtain ⟨k',cs,hl,hk',hfit,hs⟩:=AP.1 h;subst hk';rw [Cj] at hs;simp only [Rel] at hr;rcases Nat.eq_zero_or_pos m with hm | hm
    · subst hm
      have hv: ∃ao c',v= .slice ao 0 c':=by
        rcases hr with ⟨_,ao,e⟩ | ⟨_,_,_,_,c',_,_,_,e⟩
        · exact ⟨ao,0,e⟩
        · exact ⟨_,c',e⟩
      obtain ⟨ao,c',hv⟩:=hv;have e3:=same (off:=off) hl;refine go (zero hv) .refl st ?_;have:=hs.2;simpa [e3] using this
    · rcases hr with ⟨hm0,_⟩ | ⟨b,base,cap,kk,c',hE,_,_,hv⟩
      · omega
      · have hrel:=KW (E:=E) (fz:=fz) (w:=w) hab
        obtain ⟨g1,g2⟩:=Rb hrel.1 hrel.2 (by omega) m;rw [hzl] at g1 g2;have hzs:zv.cells.size=k':=by have:=hrel.1.length;simp at this;omega
        obtain ⟨w',q1,q2,q3⟩:=Y7 (P:=P) (off:=off) st hl (by rw [Eh,hzl];exact hfit) (fun e=>by
          have:=congrArg List.length e;rw [Eh,hzl] at this;have:=Nat.mul_pos hm h0;simp at*;omega) g1 g2 hE
        refine go ?_ q3 q2 hs.2;subst hv;have hzv':(zeroValue e).run P w= .ok zv w:=by simp [zeroValue,Hg hi,hzv]
        have hcells:(Builtin.zeroCells zv.cells m).toList=(madeCells zv.cells (m*k')).toList:=by
          simp [Builtin.zeroCells,madeCells,hzs]
        obtain ⟨m',rfl⟩: ∃m',m=m'+1:=⟨m-1,by omega⟩
        rw [<-hcells] at q1;simp [Builtin.clear_,ht,e2,run_underlying hu,hzv',q1]
theorem nj (st:St E fz S w) (hF:CH E fz w F a.tmps) {o:Oper} {x:Operand} {r:AO} {s d e:TypeId} (ho:o.op= .convert s d x) (hs:P.underlying s=some .string) (hd:P.underlying d=some (.slice e)) (he:P.underlying e=some (.int .u8)) (hx:Ad x=some r)
    (h:AF P F S K (.rn r)):Al P ((execOp a.eval o).run P w) (CQ K E fz S w):=by
  have h1:=Ac hF hx;simp only [AF,AD,A5] at h;generalize rd F r=X at*;cases X<;>first | exact h.elim | skip
  rename_i bs;simp only [Rel] at h1;have hrun:=run_bytes_of_string (P:=P) w s d e ⟨bs.toArray⟩ hs hd he;have hsz:(⟨bs.toArray⟩:ByteArray).size=bs.length:=by simp [ByteArray.size]
  rw [hsz] at hrun;have hcg:=grownCap_ge w bs.length 0 e;generalize hcap:grownCap w bs.length 0 e=cap at hrun hcg;have hrow:bytesRow ⟨bs.toArray⟩ cap=((bs.map fun c=>Value.int .u8 (c.toNat:Int))++List.replicate (cap-bs.length) (Value.int .u8 0)).toArray:=by
    apply Array.ext';simp [bytesRow,hsz]
  rw [hrow] at hrun;obtain ⟨ver,E',p1,p2,p3⟩:=dx (E:=E) (fz:=fz) (S:=S) (w:=w) (w':=w.drew.alloc (.cells ((bs.map fun c=>Value.int .u8 (c.toNat:Int))++List.replicate (cap-bs.length) (Value.int .u8 0)).toArray e
      (((bs.map fun c=>Value.int .u8 (c.toNat:Int))++List.replicate (cap-bs.length) (Value.int .u8 0)).toArray.size,((bs.map fun c=>Value.int .u8 (c.toNat:Int))++List.replicate (cap-bs.length) (Value.int .u8 0)).toArray.size+1)))
    (rest:=List.replicate (cap-bs.length) (Value.int .u8 0)) (T:=e) (cs:=bs.map fun c=>AA.int .u8 (c.toNat:Int)) (vs:=bs.map fun c=>Value.int .u8 (c.toNat:Int)) _ _ st 1 (AZ.mk (by simp) fun i x v hx hv=>by
      simp only [List.getElem?_map] at hx hv;cases hs:bs[i]? with
      | none=>rw [hs] at hx;cases hx
      | some c=>rw [hs] at hx hv;cases hx;cases hv;simp [Rel]) (by simp [Value.oneCell']) (.inr ⟨by omega,by simp⟩) rfl rfl rfl (Tp.of rfl (Nat.le_succ _))
  refine C_ st (by simp only [execOp,ho,h1];simp [hrun];rfl) ⟨.sl S.length ver 0 bs.length,_,E',fz,h ver,p3,p2,?_⟩;simp only [Rel];exact .inr ⟨_,_,_,_,cap,p1,hcg,by simp;omega,rfl⟩
theorem jA (st:St E fz S w) (hF:CH E fz w F a.tmps) {o:Oper} {x:Operand} {r:AO} {s e:TypeId} (ho:o.op= .convert s s x) (hs:P.underlying s=some (.slice e)) (he:P.underlying e=some (.int .u8)) (hx:Ad x=some r)
    (h:AF P F S K (.mark r)):Al P ((execOp a.eval o).run P w) (CQ K E fz S w):=by
  have h1:=Ac hF hx;simp only [AF,AD] at h;generalize rd F r=X at*;cases X<;>first | exact h.elim | skip
  rename_i l ver off n;obtain ⟨hn,h⟩:=h;obtain ⟨k',cs,hl,hk0,hk⟩:=AP.1 h;have h1':=h1;simp only [Rel] at h1';rcases h1' with ⟨rfl,_⟩ | ⟨b,base,cap,kk,c,hE,hle,hcap,e2⟩
  · omega
  rcases st.ok l _ hl with ⟨g1,g2⟩ | ⟨b',base',cap',arr,T,lo,hi,g1,g2,g3,g4,g5,g6,g7⟩
  · rw [hE] at g1;cases g1
  rw [hE] at g1;cases g1;have hlt:l<S.length:=by
    rcases Nat.lt_or_ge l S.length with h | h
    · exact h
    · simp [List.getElem?_eq_none h] at hl
  have hsh:w.shape? b=some (T,arr.size):=by unfold World.shape?;rw [g2]
  obtain ⟨lo',hi',hm,hh⟩: ∃lo' hi',(lo'=hi'\/(k'=1/\arr.size<=lo'))/\(w.freeze ⟨b,arr.size,none⟩ 1).heap[b]?=some (.cells arr T (lo',hi')):=by
    by_cases c:lo=hi
    · refine ⟨arr.size,arr.size+1,.inr ⟨hk0,Nat.le_refl _⟩,?_⟩
      unfold World.freeze;simp [Array.getElem?_modify,g2,c]
    · refine ⟨min lo arr.size,max hi (arr.size+1),.inr ⟨hk0,by omega⟩,?_⟩
      unfold World.freeze;simp [Array.getElem?_modify,g2,c]
  have hne: ∀b':Nat,b'≠b->(w.freeze ⟨b,arr.size,none⟩ 1).heap[b']?=w.heap[b']?:=fun b' hb=>by
    unfold World.freeze;simp [Array.getElem?_modify,Ne.symm hb]
  have hsz:(w.freeze ⟨b,arr.size,none⟩ 1).heap.size=w.heap.size:=by unfold World.freeze;simp
  have hkeep: ∀bb,fz bb->(w.freeze ⟨b,arr.size,none⟩ 1).heap[bb]?=w.heap[bb]?:=fun bb hb=>hne bb fun e=>g7 (e▸hb);obtain ⟨q2,q3⟩:=st.fy (E':=E) (S':=S) (w':=w.freeze ⟨b,arr.size,none⟩ 1) l (.row ver k' cs) (fun _ _ h=>h) st.fresh (fun _ _=>rfl) hl (by omega)
    (fun bb _ hno=>hne bb fun e=>hno (by subst e;exact ⟨_,hl,by simp [AU,hE]⟩)) (fun bb hb=>.inl (by simp [AU,hE] at hb;subst hb;exact ⟨_,hl,by simp [AU,hE]⟩))
    (.inr ⟨b,base,cap,arr,T,lo',hi',hE,hh,g3,g4,hm,Ck.mk fun i x hx=>(by
      obtain ⟨c,hc,hone,hrel⟩:=g6.get hx;rw [Ce g2] at hc;exact ⟨c,by rw [Ce hh];exact hc,hone,hrel.mono (fun _ _ h=>h) (fun _ h=>h) hkeep⟩),g7⟩) rfl rfl (Tp.of rfl (Nat.le_refl _))
  refine C_ st (v:= .slice (some ⟨b,base+off,none⟩) n c) (w':=w.freeze ⟨b,arr.size,none⟩ 1) ?_ ⟨.sl l ver off n,S,E,fz,hk,q3,q2,?_⟩
  · simp only [execOp,ho,e2]
    simp [convert,run_underlying hs,run_underlying he,markStringish,hsh]
  · simp only [Rel]
    exact .inr ⟨b,base,cap,k',c,hE,hle,hcap,rfl⟩
theorem lX (st:St E fz S w) (hF:CH E fz w F a.tmps) {o:Oper} {x:Operand} {r:AO} {s d e:TypeId} (ho:o.op= .convert s d x) (hs:P.underlying s=some (.slice e)) (hd:P.underlying d=some .string) (he:P.underlying e=some (.int .u8)) (hx:Ad x=some r)
    (h:AF P F S K (.sA r)):Al P ((execOp a.eval o).run P w) (CQ K E fz S w):=by
  have h1:=Ac hF hx;simp only [AF,AD] at h;generalize rd F r=X at*;have go: ∀ {bs:List UInt8},(Conv.bytesToString (a.eval x)).run P w= .ok (.string ⟨bs.toArray⟩) w->(∃ao n c,a.eval x= .slice ao n c)->K (.str bs) S->Al P ((execOp a.eval o).run P w) (CQ K E fz S w):=fun {bs} hrun hsh hk=>by
    obtain ⟨ao,n,c,e1⟩:=hsh;rw [e1] at hrun;have:=run_convert_bytes_string w s d e ao n c hs he hd;exact Ak st (v:= .string ⟨bs.toArray⟩) (by simp only [execOp,ho,e1];simp [this,hrun]) hk (by simp [Rel])
  have nil0: ∀ {ao:Option Addr} {c:Nat},(Conv.bytesToString (.slice ao 0 c)).run P w= .ok (.string ⟨([]:List UInt8).toArray⟩) w:=fun {ao c}=>by
    cases ao with
    | none=>simp [Conv.bytesToString];rfl
    | some ad=>
      have:=run_bytesToString (P:=P) w ad 0 c [] (by simp [loadCells,loadCellsFrom]);rw [this];rfl
  have cells: ∀ {b off n c:Nat} {ns:List Int},Ck E fz w b off (ns.map (AA.int .u8))->ns.length=n->(Conv.bytesToString (.slice (some ⟨b,off,none⟩) n c)).run P w= .ok (.string ⟨(ns.map fun n=>UInt8.ofNat n.toNat).toArray⟩) w:=fun {b off n c ns} hc hl=>by
    obtain ⟨vs,g1,g2,g3,g4⟩:=OP (P:=P) hc;have e2:vs=ns.map (Value.int .u8):=by
      refine List.ext_getElem? fun i=>?_;cases hn:ns[i]? with
      | none=>
        have l1:=g1.length;rw [List.length_map] at l1;have:=List.getElem?_eq_none_iff.1 hn;rw [List.getElem?_eq_none (by omega),List.getElem?_map,hn];rfl
      | some y=>
        obtain ⟨v,q1,q2⟩:=g1.get (i:=i) (x:= .int .u8 y) (by rw [List.getElem?_map,hn];rfl);simp only [Rel] at q2;rw [q1,List.getElem?_map,hn,q2];rfl
    rw [List.length_map,hl] at g3;rw [e2] at g3;rw [run_bytesToString w _ n c ns g3];congr 2;have: ∀(l:List Int) (r:ByteArray),l.foldl (fun r n=>r.push (UInt8.ofNat n.toNat)) r=⟨r.data++(l.map fun n=>UInt8.ofNat n.toNat).toArray⟩:=by
      intro l
      induction l with
      | nil=>intro r;simp
      | cons y l ih=>intro r;simp only [List.foldl_cons];rw [ih];simp [ByteArray.push]
    rw [this];have he0:ByteArray.empty.data= #[]:=rfl;rw [he0];simp
  cases X<;>simp only [NL] at h
  case AL=>
    simp only [Rel] at h1;exact go (by rw [h1];exact nil0) ⟨_,_,_,h1⟩ h
  case Ez n cs=>
    obtain ⟨hle,ns,e1,hk⟩:=h;simp only [Rel] at h1;rcases h1 with ⟨rfl,ao,c,e2⟩ | ⟨b,off,c,hb,hle2,e2,hc⟩
    · have:ns=[]:=by cases ns with | nil=>rfl | cons y l=>simp at e1
      subst this;exact go (by rw [e2];exact nil0) ⟨_,_,_,e2⟩ hk
    · have hc':=hc.take n
      rw [e1] at hc';have hl:ns.length=n:=by have:=congrArg List.length e1;simp at this;omega
      exact go (by rw [e2];exact cells hc' hl) ⟨_,_,_,e2⟩ hk
  case sl l ver off n=>
    obtain ⟨k',cs,hl,hfit,ns,e1,hk⟩:=AP.1 h;have hlen:ns.length=n:=by have:=congrArg List.length e1;simp [A6] at this;omega
    simp only [Rel] at h1;rcases h1 with ⟨rfl,ao,e2⟩ | ⟨b,base,cap,kk,c,hE,hle,hcap,e2⟩
    · have:ns=[]:=List.length_eq_zero_iff.1 hlen
      subst this;exact go (by rw [e2];exact nil0) ⟨_,_,_,e2⟩ hk
    · rcases st.ok l _ hl with ⟨g1,g2⟩ | ⟨b',base',cap',arr,T,lo,hi,g1,g2,g3,g4,g5,g6,g7⟩
      · rw [hE] at g1;cases g1
      · rw [hE] at g1;cases g1
        have hc':=(g6.drop off).take n;rw [show (cs.drop off).take n=A6 cs off n from rfl,e1] at hc';exact go (by rw [e2];exact cells hc' hlen) ⟨_,_,_,e2⟩ hk
end
end Go.Vc
end
section
namespace Go.Vc
section
variable {P : Program} {E : Env} {fz : Nat -> Prop} {S : AB} {w : World} {F : Frame} {a : Act} {K : AA -> AB -> Prop} {ro : Bool}
theorem Oq (st:St E fz S w) (hF:CH E fz w F a.tmps) {o:Oper} {so:EL} (hc:fw P ro o.type o.op=some so) (h:AF P F S K so):
    Al P ((execOp a.eval o).run P w) (CQ K E fz S w):=by
  cases ho:o.op<;>rw [ho] at hc<;>simp only [fw] at hc
  case move x=>
    split at hc<;>cases hc;rename_i r hx;exact S_ st hF (.inl ho) hx h
  case assign x=>
    unfold wD at hc;split at hc
    · split at hc<;>cases hc
      · simp only [AF,A5] at h
        obtain ⟨ver,E',p1,p2,p3⟩:=aa st (uJ P o.type);exact C_ st (v:= .slice none 0 0) (by simp [execOp,ho,Act.eval]) ⟨_,_,E',fz,h ver,p3,p2,by simp only [Rel];exact .inl ⟨trivial,none,rfl⟩⟩
      · exact S_ st hF (.inr ho) (by simp [Ad,lP,om]) h
    · split at hc<;>cases hc
      rename_i r hx;exact S_ st hF (.inr ho) hx h
  case pick c x y=>
    split at hc<;>cases hc;rename_i h1 h2 h3;exact jI st hF ho h1 h2 h3 h
  case alloc t=>
    split at hc<;>cases hc;rename_i z hz;exact bx st ho hz h
  case box t x=>
    split at hc<;>cases hc;rename_i r hx;exact lk st hF ho hx h
  case build t parts=>
    split at hc
    · rename_i z fs hz ht
      split at hc
      · rename_i hall
        split at hc<;>cases hc;rename_i ps FL;refine P5 st hF ho ht hz (fun f hf=>?_) FL h;have:=List.all_eq_true.1 hall f hf;exact Option.isSome_iff_exists.1 this
      · cases hc
    · rename_i z len e hz ht
      split at hc
      · rename_i n hn
        split at hc<;>cases hc;rename_i ps FL;exact Qu st hF ho ht hz hn FL h
      · cases hc
    · cases hc
  case buildSlice t len parts=>
    split at hc
    · rename_i e ht
      split at hc
      · rename_i n z hn hz
        split at hc
        · rename_i hcond
          split at hc<;>cases hc;rename_i ps FL;exact Qt st hF ho ht hn hz hcond.1 hcond.2.1 hcond.2.2 FL (Nat.le_refl _) h
        · cases hc
      · cases hc
    · cases hc
  case load t x=>
    split at hc
    · rename_i i u r hi hu hx
      refine iv st hF ho hi hu hx ?_;split at hc<;>cases hc
      · rename_i hag;rw [if_pos hag];exact h
      · rename_i hag;rw [if_neg hag];exact h
    · cases hc
  case store t x v=>
    split at hc
    · rename_i n rx rv hn hx hv
      split at hc<;>cases hc;rename_i h0;exact fS st hF ho hn h0 hx hv h
    · cases hc
  case nilCheck x=>
    split at hc<;>cases hc;rename_i r hx;exact ab st hF ho hx h
  case binOp op t x y u=>
    split at hc
    · rename_i so' hs
      cases hc;unfold oy at hs;split at hs
      · rename_i e rx ht hx
        split at hs<;>cases hs
        · exact UE st hF ho ht hx (.inl ⟨rfl,rfl⟩) h
        · exact UE st hF ho ht hx (.inr ⟨rfl,rfl⟩) h
      · cases hs
    · split at hc
      · rename_i so' hs
        cases hc;unfold wE at hs;split at hs
        · rename_i hqq
          split at hs<;>cases hs
          · exact Y3 st hF ho (by assumption) (.inl ⟨rfl,rfl⟩) h
          · exact Y3 st hF ho (by assumption) (.inr ⟨rfl,rfl⟩) h
        · cases hs
      · split at hc<;>cases hc
        rename_i q rx ry hq hx hy;exact lj st hF ho hq hx hy h
  case unOp op t x=>
    cases op<;>simp only at hc<;>first | (cases hc;done) | skip
    all_goals
      split at hc<;>cases hc;rename_i r hx
    · exact fZ st hF hx (.inr ⟨ho,h⟩)
    · exact fZ st hF hx (.inl ⟨ho,h⟩)
  case convert s d x=>
    split at hc
    · rename_i u k r hs hd hx;cases hc;exact g_ st hF ho hs hd hx h
    · rename_i r hs hd hx;cases hc;exact fT st hF ho hs hd hx h
    · rename_i e r hs hd hx;split at hc<;>cases hc;rename_i he;exact nj st hF ho hs hd he hx h
    · rename_i e e' r hs hd hx;split at hc
      · rename_i hsd;subst hsd;split at hc<;>cases hc;rename_i he;exact jA st hF ho hs he hx h
      · cases hc
    · rename_i e r hs hd hx;split at hc<;>cases hc;rename_i he;exact lX st hF ho hs hd he hx h
    · cases hc
  case makeSlice t l c=>
    split at hc
    · rename_i e ht
      split at hc
      · rename_i n b z rl rc hn hb hz hl hcc
        split at hc<;>cases hc;rename_i hcond;exact Xj st hF ho ht hn hb hz hcond.1 hcond.2.1 hcond.2.2 hl hcc h
      · cases hc
    · cases hc
  case makeMap t r=>
    split at hc
    · rename_i k e ht
      split at hc
      · cases hc;exact OC st ho ht (.inl rfl) h
      · cases hc;exact OC st ho ht (.inr ⟨_,_,rfl⟩) h
      · cases hc
    · cases hc
  case lookup t m k ok=>
    split at hc
    · rename_i kt e rm rk ht hm hk
      split at hc
      · rename_i q z hq hz;cases hc;exact dr st hF ho ht hq hz hm hk h
      · cases hc
    · cases hc
  case mapUpdate t m k x=>
    unfold jz at hc;split at hc
    · rename_i kt e rm rk rx ht hm hk hx
      split at hc
      · rename_i q hq;cases hc;exact WU st hF (.inl ho) ht hq hm hk hx h
      · cases hc
    · cases hc
  case insert t m k x=>
    unfold jz at hc;split at hc
    · rename_i kt e rm rk rx ht hm hk hx
      split at hc
      · rename_i q hq;cases hc;exact WU st hF (.inr ho) ht hq hm hk hx h
      · cases hc
    · cases hc
  case mapEntry t m k=>
    split at hc
    · rename_i kt e rm rk ht hm hk
      split at hc
      · rename_i q z hq hz;cases hc;exact jC st hF ho ht hq hz hm hk h
      · cases hc
    · cases hc
  case range t x=>
    split at hc<;>cases hc;rename_i k e r ht hx;exact aY st hF ho ht hx h
  case next x b=>
    split at hc<;>cases hc;rename_i r hx;exact dt st hF ho hx h
  case entry x=>
    split at hc<;>cases hc;rename_i r hx;exact aW st hF ho hx h
  case entryStore t m i x=>
    split at hc
    · rename_i rm ri rx hm hi hx;cases hc;exact jE st hF ho hm hi hx h
    · cases hc
  case slice t x lo hi mx=>
    cases mx with
    | none=>
      have hc:fw P ro o.type (.slice t x lo hi none)=some so:=hc;unfold fw at hc;simp only at hc;split at hc
      · rename_i rx rlo rhi ht hx hlo hhi;cases hc;exact U4 st hF ho ht hx hlo hhi h
      · rename_i e rx rlo rhi ht hx hlo hhi
        split at hc<;>cases hc;rename_i n hn;exact R5 st hF ho ht hn hx hlo hhi h
      · rename_i n e rx ht hx hlo hhi
        split at hc<;>cases hc;rename_i hn;cases lo with
        | some y=>simp only [SJ] at hlo;split at hlo<;>cases hlo
        | none=>cases hi with
          | some y=>simp only [SJ] at hhi;split at hhi<;>cases hhi
          | none=>exact Zg st hF ho ht hn hx h
      · cases hc
    | some mx=>
      cases lo with
      | some lo=>cases hi<;>cases hc
      | none=>
        cases hi with
        | none=>cases hc
        | some hi=>
          have hc:fw P ro o.type (.slice t x none (some hi) (some mx))=some so:=hc;unfold fw at hc;simp only at hc;split at hc
          · rename_i e rx rh rm ht hx hh hm
            split at hc<;>cases hc;rename_i n hn;exact bP st hF ho ht hn hx hh hm h
          · cases hc
  case fieldAddr s x f=>
    split at hc
    · rename_i fs r hs hx
      split at hc
      · rename_i fd hf
        split at hc<;>cases hc;rename_i n hn;exact cz st hF ho hs hf hn hx h
      · cases hc
    · cases hc
  case field t x f=>
    split at hc
    · rename_i fs r hs hx
      split at hc
      · rename_i fd hf
        split at hc
        · rename_i u n hu hn
          refine c8 st hF ho hs hf hu hn hx ?_;split at hc<;>cases hc
          · rename_i hag;rw [if_pos hag];exact h
          · rename_i hag;rw [if_neg hag];exact h
        · cases hc
      · cases hc
    · cases hc
  case indexAddr t x i=>
    split at hc
    · rename_i e rx ri ht hx hi
      split at hc<;>cases hc;rename_i n hn;exact RS st hF ho ht hn hx hi h
    · rename_i len e rx ri ht hx hi
      split at hc<;>cases hc;rename_i n hn;exact RR st hF ho ht hn hx hi h
    · cases hc
  case index t x i=>
    split at hc
    · rename_i rx ri ht hx hi;cases hc;exact Un st hF ho ht hx hi h
    · rename_i len e rx ri ht hx hi
      split at hc
      · rename_i u n hu hn
        split at hc
        · rename_i hag
          cases hc;refine LH st hF ho ht hu hn (fun e=>by rw [hag] at e;cases e) hx hi ?_;rw [hag];exact h
        · rename_i hag
          split at hc<;>cases hc;rename_i h1;subst h1;have hag':H4 u=false:=by simpa using hag
          refine LH st hF ho ht hu hn (fun _=>rfl) hx hi ?_;rw [hag'];exact h
      · cases hc
    · cases hc
  case makeInterface t x=>
    split at hc
    · cases hc
    · rename_i d r hd h1 h2
      cases hc;exact jD st hF ho h1 (fun m e=>hd m (e)) h2 h
    · cases hc
  case makeFunc f x y=>
    split at hc<;>cases hc;rename_i h1 h2;exact aX st hF ho h1 h2 h
  case extract x i=>
    split at hc<;>cases hc;rename_i r hx;exact Xb st hF ho hx h
  case call c=>
    split at hc
    · rename_i x hcal hargs
      split at hc
      · rename_i ht
        cases hc;obtain ⟨t,ht0,ht⟩:=Option.bind_eq_some_iff.1 ht;exact Ym st hF ho hcal hargs ht0 (.inl ⟨rfl,ht⟩) h
      · rename_i e ht
        cases hc;obtain ⟨t,ht0,ht⟩:=Option.bind_eq_some_iff.1 ht;exact Ym st hF ho hcal hargs ht0 (.inr ⟨rfl,e,ht⟩) h
      · cases hc
    · rename_i rs rx hcal hargs
      split at hc
      · rename_i e u ht hu
        obtain ⟨t,ht0,ht⟩:=Option.bind_eq_some_iff.1 ht;obtain ⟨tu,ht1,hu⟩:=Option.bind_eq_some_iff.1 hu;split at hc
        · rename_i i hi
          split at hc
          · rename_i z e' hz _
            split at hc<;>cases hc;rename_i hcond;exact Qr st hF ho hcal hargs ht0 ht1 ht hu (.inl ⟨_,rfl⟩) hi hz hcond.1 hcond.2.1 hcond.2.2 h
          · rename_i z hz _
            split at hc<;>cases hc;rename_i hcond;exact Qr st hF ho hcal hargs ht0 ht1 ht hu (.inr rfl) hi hz hcond.1 hcond.2.1 hcond.2.2 h
          · cases hc
        · cases hc
      · cases hc
    · rename_i x hcal hargs
      split at hc
      · rename_i e ht
        obtain ⟨t,ht0,ht⟩:=Option.bind_eq_some_iff.1 ht;split at hc
        · rename_i n z hn hz
          split at hc<;>cases hc;rename_i hcond;exact cL st hF ho hcal hargs ht0 ht hn hz hcond.1 hcond.2 h
        · cases hc
      · cases hc
    · rename_i xs hcal hargs;cases hc;exact Rg st hF ho hargs (.inl ⟨hcal,h⟩)
    · rename_i xs hcal hargs;cases hc;exact Rg st hF ho hargs (.inr ⟨hcal,h⟩)
    · rename_i f xs hcal hargs
      split at hc
      · cases hc
        rename_i hf;exact gU st hF ho hcal hargs hf h
      · split at hc<;>cases hc
        rename_i hk;exact mG st hF ho hcal hargs hk h
    · rename_i x xs _ hcal hargs
      split at hc<;>cases hc;rename_i r hx;exact cG st hF ho hcal hargs hx h
    · cases hc
  all_goals cases hc
theorem h_ {c:Call} {ty:TypeId} {k b:Nat} {s x:AO} (hc:fw P ro ty (.call c)=some (.append k b s x)):c.callee= .builtin .append/\GK c.args.toList=some [s,x]/\ ∃t u e ut i z,c.argTypes[0]?=some t/\c.argTypes[1]?=some u/\
    P.underlying t=some (.slice e)/\P.underlying u=some ut/\((∃e',ut= .slice e')\/ut= .string)/\P.info? e=some i/\i.zero=some z/\0<i.size/\0<i.bytes/\z.cells.size=i.size/\i.size=k/\i.bytes=b:=by
  simp only [fw] at hc;split at hc
  · split at hc<;>cases hc
  · rename_i rs rx hcal hargs
    split at hc
    · rename_i e u ht hu
      obtain ⟨t,ht0,ht⟩:=Option.bind_eq_some_iff.1 ht;obtain ⟨tu,ht1,hu⟩:=Option.bind_eq_some_iff.1 hu;split at hc
      · rename_i i hi
        split at hc
        · rename_i z e' hz _
          split at hc<;>cases hc;rename_i hcond;exact ⟨hcal,hargs,t,tu,e,_,i,z,ht0,ht1,ht,hu,.inl ⟨_,rfl⟩,hi,hz,hcond.1,hcond.2.1,hcond.2.2,rfl,rfl⟩
        · rename_i z hz _
          split at hc<;>cases hc;rename_i hcond;exact ⟨hcal,hargs,t,tu,e,_,i,z,ht0,ht1,ht,hu,.inr rfl,hi,hz,hcond.1,hcond.2.1,hcond.2.2,rfl,rfl⟩
        · cases hc
      · cases hc
    · cases hc
  · split at hc
    · split at hc
      · split at hc<;>cases hc
      · cases hc
    · cases hc
  · cases hc
  · cases hc
  · split at hc
    · cases hc
    · split at hc<;>cases hc
  · split at hc<;>cases hc
  · cases hc
def Zl (P:Program) (ro:Bool) (hint:EL) (ty:TypeId) (op:Op):EL:=
  match hint,op with
  | .NS d _ _ _ _ _,.makeSlice t l c=>(match P.underlying t with
    | some (.slice e)=>(match CG P e,Tl P e,IK P e,Ad l,Ad c with
      | some n,some b,some z,some l,some c=>if 0<n/\0<b/\z.length=n then .NS d n b z l c else .bad
      | _,_,_,_,_=>.bad)
    | _=>.bad)
  | .J5 d,.makeMap t r=>(match P.underlying t with
    | some (.map _ _)=>(match r with | none=>.J5 d | some (.const (.int _ _))=>.J5 d | some _=>.bad)
    | _=>.bad)
  | .Lf d k _ _ zs,.call c=>(match fw P ro ty (.call c) with | some (.call f args)=>.Lf d k f args zs | _=>.bad)
  | .Ax false _ 0 _ _,.buildSlice t l p=>(match fw P false ty (.buildSlice t l p) with | some (.Ax false len k z ps)=>.Ax false len 0 z ps | _=>.bad)
  | .Nv d k _ _,.call c=>(match fw P ro ty (.call c) with | some (.call f args)=>.Nv d k f args | _=>.bad)
  | .Pr _ _,.call c=>(match fw P ro ty (.call c) with | some (.call f args)=>.Pr f args | _=>.bad)
  | .NN d _ _,.alloc t=>(match IK P t with | some z=>.NN d (xR P t) z | none=>.bad)
  | .XQ _ _ _ _,.call c=>(match fw P ro ty (.call c) with | some (.append k b s x)=>.XQ k b s x | _=>.bad)
  | _,op=>(match fw P ro ty op with | some so=>so | none=>.bad)
theorem Vi (st:St E fz S w) (hF:CH E fz w F a.tmps) {o:Oper} {hint so:EL} (hc:Zl P ro hint o.type o.op=so) (h:AF P F S K so):
    Al P ((execOp a.eval o).run P w) (CQ K E fz S w):=by
  unfold Zl at hc;split at hc
  · rename_i d _ _ _ _ _ t l c ho
    split at hc
    · rename_i e ht
      split at hc
      · rename_i n b z rl rc hn hb hz hl hcc
        split at hc
        · rename_i hcond
          subst hc;exact dq st hF ho ht hn hb hz hcond.1 hcond.2.1 hcond.2.2 hl hcc h
        · subst hc;exact h.elim
      · subst hc;exact h.elim
    · subst hc;exact h.elim
  · rename_i d t r ho
    split at hc
    · rename_i ht
      split at hc<;>subst hc<;>first | exact h.elim | skip
      · exact Re st ho ht (.inl rfl) h
      · exact Re st ho ht (.inr ⟨_,_,rfl⟩) h
    · subst hc;exact h.elim
  · rename_i d k _ _ zs c ho
    split at hc
    · rename_i f args hs
      subst hc;simp only [AF,Ar] at h;obtain ⟨h1,h2,h3,h4,h5⟩:=h;exact Oq st hF (ho▸hs) (by simp only [AF,Ar];exact h1.kept (by omega) h5)
    · subst hc;exact h.elim
  · rename_i t l p ho
    split at hc
    · rename_i len k z ps hs
      subst hc;simp only [fw] at hs;split at hs
      · rename_i e ht
        split at hs
        · rename_i n z' hn hz
          split at hs
          · rename_i hcond
            split at hs
            · rename_i ps' FL
              cases hs;exact Qt st hF ho ht hn hz hcond.1 hcond.2.1 hcond.2.2 FL (Nat.zero_le _) h
            · cases hs
          · cases hs
        · cases hs
      · cases hs
    · subst hc;exact h.elim
  · rename_i d k _ _ c ho
    split at hc
    · rename_i f args hs
      subst hc;simp only [AF,Ar] at h;obtain ⟨n,cs,h1,h2,h3,h4,h5⟩:=h;exact Oq st hF (ho▸hs) (by
        simp only [AF,Ar];exact h1.bh fun r S' ⟨v,e1,e2⟩=>by subst e1;subst e2;exact ⟨.sl (S.length-d) v 0 n,_,_,PS.sl,Sub.put (by omega),h5 v⟩)
    · subst hc;exact h.elim
  · rename_i c ho
    split at hc
    · rename_i f args hs
      subst hc;simp only [AF,Ar] at h;obtain ⟨r0,h1,h2⟩:=h;exact Oq st hF (ho▸hs) (by simp only [AF,Ar];exact h1.aE fun r S' q=>⟨r,id,[],.refl r,.nil,by rw [List.append_nil,q];exact h2⟩)
    · subst hc;exact h.elim
  · rename_i d _ _ t ho
    split at hc
    · rename_i z hz
      subst hc;exact bz st ho hz h
    · subst hc;exact h.elim
  · rename_i c ho
    split at hc
    · rename_i k b s x hs
      subst hc;obtain ⟨hcal,hargs,t,u,e,ut,i,z,ht0,ht1,ht,hu,hut,hi,hz,c1,c2,c3,rfl,rfl⟩:=h_ hs;exact gK st hF ho hcal hargs ht0 ht1 ht hu hut hi hz c1 c2 c3 h
    · subst hc;exact h.elim
  · split at hc
    · rename_i so' hs
      subst hc;exact Oq st hF hs h
    · subst hc;exact h.elim
end
end Go.Vc
end
section
namespace Go.Vc
def vW (g:C9):Bool:=match g.op with | .Ax ro _ _ _ _=>ro | .DE _=>true | _=>false
def P7 (ops:Array Oper):Option (Nat×Bool)->Option (Option (Nat×Bool))
  | none=>some none
  | some (j,want)=>match (ops[j]?).bind (·.dst) with | some d=>some (some (d,want)) | none=>none
def cZ (N:Nat) (d:Option Nat):Bool:=match d with | some d=>d<N | none=>true
def Qv (P:Program) (N:Nat) (ops:Array Oper):List Oper->List C9->Option (List C9)
  | [],[]=>some []
  | o::l,g::gl=>(match P7 ops o.guard,Qv P N ops l gl with
      | some gd,some rest=>if cZ N o.dst then some ({dst:=o.dst,op:=Zl P (vW g) g.op o.type o.op,guard:=gd,H5:=g.H5,Lg:=g.Lg}::rest) else none
      | _,_=>none)
  | _,_=>none
section
variable {P : Program} {E : Env} {fz : Nat -> Prop} {S : AB} {w : World} {F : Frame} {a : Act} {ro : Bool}
theorem Ww {d:Option Nat} {x:AA} {v:Value} (hF:CH E fz w F a.tmps) (hx:Rel E fz w x v) (hd:cZ a.tmps.size d=true):CH E fz w (AK F d x) (a.put d v).tmps:=by
  cases d with
  | none=>exact hF
  | some d=>
    simp only [cZ,decide_eq_true_eq] at hd;intro n;simp only [AK,Frame.get,Act.put];cases h:Nat.beq d n with
    | true=>
      have e:d=n:=Nat.eq_of_beq_eq_true h;subst e;simpa [Array.getD,hd] using hx
    | false=>
      have e:d≠n:=Nat.ne_of_beq_eq_false h;have:(a.tmps.setIfInBounds d v).getD n undef=a.tmps.getD n undef:=by
        simp only [Array.getD_eq_getD_getElem?,Array.getElem?_setIfInBounds,if_neg e]
      simp only [this];exact hF n
theorem ee {d:Option Nat} {v:Value}:(a.put d v).tmps.size=a.tmps.size:=by
  cases d<;>simp [Act.put]
theorem put_defers {d:Option Nat} {v:Value}:(a.put d v).defers=a.defers:=by
  cases d<;>simp [Act.put]
theorem Y8 {d:Option Nat} {v:Value} {t:Nat} (h:d≠some t):(a.put d v).tmps[t]?=a.tmps[t]?:=by
  cases d with
  | none=>rfl
  | some d=>simp only [Act.put,Array.getElem?_setIfInBounds];rw [if_neg (fun e=>h (by rw [e]))]
theorem CH.mono {E':Env} {fz':Nat->Prop} {S':AB} {w':World} (st:St E fz S w) (hx:Ext E fz S w E' fz' S' w') {tmps:Array Value} (h:CH E fz w F tmps):CH E' fz' w' F tmps:=
  fun n=>st.rel hx (h n)
theorem sj {x y:Array Value} {t:Nat} (h:x[t]?=y[t]?):x.getD t undef=y.getD t undef:=by
  rw [Array.getD_eq_getD_getElem?,Array.getD_eq_getD_getElem?,h]
def IX (N:Nat) (E:Env) (fz:Nat->Prop) (S:AB) (w:World) (a:Act) (W:List Nat) (K:Frame->AB->Prop) (a':Act) (w':World):Prop:=
  ∃F' S' E' fz',K F' S'/\Ext E fz S w E' fz' S' w'/\St E' fz' S' w'/\CH E' fz' w' F' a'.tmps/\a'.tmps.size=N/\a'.defers=a.defers/\ ∀t,t ∉ W->a'.tmps[t]?=a.tmps[t]?
def Ie:List C9->List Nat
  | []=>[]
  | o::l=>o.dst.toList++Ie l
theorem XA {b:Bool} {x:AA} {v:Value} {K:AA->Prop} (h:Ao b x K) (hx:Rel E fz w x v): ∃y,K y/\Rel E fz w y v:=by
  cases b
  · exact ⟨x,h,hx⟩
  · cases x<;>simp only [Ao] at h
    case tt=>exact ⟨_,h,hx⟩
    case ff=>exact ⟨_,h,hx⟩
    case bool b=>
      simp only [Rel] at hx;cases b
      · exact ⟨.ff,h.2 rfl,by simpa [Rel] using hx⟩
      · exact ⟨.tt,h.1 rfl,by simpa [Rel] using hx⟩
theorem XI {ops:Array Oper} {o:Oper} {g:Nat} {want:Bool} {j:Nat} (hg:o.guard=some (j,want)) (hd:(ops[j]?).bind (·.dst)=some g) (hF:CH E fz w F a.tmps):
    (F.get g= .tt->Region.wanted o (yielded ops a.tmps)=want)/\(F.get g= .ff->Region.wanted o (yielded ops a.tmps)= !want)/\(∀l,F.get g= .DH l->Region.wanted o (yielded ops a.tmps)=false):=by
  have hr:=hF g;have hy: ∀v,a.tmps.getD g undef=v->v≠undef->a.tmps[g]?=some v:=fun v hv hne=>by
    rw [Array.getD_eq_getD_getElem?] at hv;cases h:a.tmps[g]? with
    | none=>rw [h] at hv;exact (hne hv.symm).elim
    | some u=>rw [h] at hv;simp at hv;rw [hv]
  refine ⟨fun e=>?_,fun e=>?_,fun l e=>?_⟩
  · rw [e] at hr
    simp only [Rel] at hr;have:=hy _ hr (by simp [undef]);simp [Region.wanted,hg,yielded,hd,this]
  · rw [e] at hr
    simp only [Rel] at hr;have:=hy _ hr (by simp [undef]);cases want<;>simp [Region.wanted,hg,yielded,hd,this]
  · rw [e] at hr
    simp only [Rel] at hr;obtain ⟨vs,hv,_⟩:=hr;have:yielded ops a.tmps j=none:=by
      simp only [yielded,hd,Option.bind_some];cases h:a.tmps[g]? with
      | none=>rfl
      | some u=>
        rw [Array.getD_eq_getD_getElem?,h] at hv;simp at hv;subst hv;rfl
    simp [Region.wanted,hg,this]
theorem Q0 {P:Program} {ro:Bool} {hint:EL} {ty:TypeId} {op:Op} {F:Frame} {S:AB} {K:AA->AB->Prop} (h:AF P F S K (Zl P ro hint ty op)): ∀c,op≠ .defer c:=by
  rintro c rfl;have e:Zl P ro hint ty (.defer c)= .bad:=by unfold Zl;split<;>first | rfl | (rename_i q;cases q) | (rename_i q1 q2;cases q2) | (simp only [fw])
  rw [e] at h;exact h
theorem Yy {rr:Option Nat} {N:Nat} {ops:Array Oper} {Q:Exit->Act->World->Prop} {K:Frame->AB->Prop}: ∀(l:List Oper) (hint gl:List C9) (k:Nat) {E:Env} {fz:Nat->Prop} {S:AB} {w:World} {F:Frame} {a:Act},
    (∀j,l[j]?=ops[k+j]?)->Qv P N ops l hint=some gl->St E fz S w->CH E fz w F a.tmps->a.tmps.size=N->BK P K gl F S->
    (∀a' w',IX N E fz S w a (Ie gl) K a' w'->Q .normal a' w')->wpOpsIn (wf rr) 0 P ops Q (List.range' k l.length) a w
  | [],hint,gl,k,E,fz,S,w,F,a,hl,hc,st,hF,hN,h,hQ=>by
    cases hint<;>simp only [Qv] at hc<;>cases hc;simp only [List.length_nil,List.range'_zero,wpOpsIn];exact hQ a w ⟨F,S,E,fz,h,.refl,st,hF,hN,rfl,fun _ _=>rfl⟩
  | o::l,hint,gl,k,E,fz,S,w,F,a,hl,hc,st,hF,hN,h,hQ=>by
    cases hint with
    | nil=>simp only [Qv] at hc;cases hc
    | cons g hint=>
    simp only [Qv] at hc;split at hc
    case h_2=>cases hc
    rename_i gd rest hgd hrest;split at hc
    case isFalse=>cases hc
    rename_i hdst;cases hc;have h0:ops[k]?=some o:=by simpa using (hl 0).symm
    simp only [List.length_cons,List.range'_succ,wpOpsIn,h0];have ih: ∀ {x:AA} {S':AB} {E':Env} {fz':Nat->Prop} {w':World} {v:Value},BK P K rest (AK F o.dst x) S'->Ext E fz S w E' fz' S' w'->St E' fz' S' w'->Rel E' fz' w' x v->wpOpsIn (wf rr) 0 P ops Q (List.range' (k+1) l.length) (a.put o.dst v) w':=
      fun {x S' E' fz' w' v} hk hx hs hr=>by
        refine Yy l hint rest (k+1) (fun j=>by have:=hl (j+1);simpa [Nat.add_assoc,Nat.add_comm 1 j] using this) hrest hs (Ww (CH.mono st hx hF) hr (by rw [hN];exact hdst)) (by rw [ee];exact hN) hk ?_;rintro a' w'' ⟨F',S'',E'',fz'',q1,q2,q3,q4,q5,q6,q7⟩;refine hQ a' w'' ⟨F',S'',E'',fz'',q1,hx.trans q2,q3,q4,q5,by rw [q6,put_defers],fun t ht=>?_⟩;simp only [Ie,List.mem_append,not_or] at ht;rw [q7 t ht.2,Y8 (fun e=>ht.1 (by simp [e]))]
    have run:AF P F S (fun x S'=>Ao g.H5 x fun x=>BK P K rest (AK F o.dst x) S') (Zl P (vW g) g.op o.type o.op)->o.wpIn (wf rr) 0 P a w (wpOpsIn (wf rr) 0 P ops Q (List.range' (k+1) l.length)) Q:=fun hop=>by
      refine XO (Q0 hop) (Vi st hF rfl hop) ?_;rintro v w' ⟨x,S',E',fz',hk,hx,hs,hr⟩;obtain ⟨y,hy,hr'⟩:=XA hk hr;exact ih hy hx hs hr'
    have skip:BK P K rest (AK F o.dst (.DH [])) S->wpOpsIn (wf rr) 0 P ops Q (List.range' (k+1) l.length) (a.put o.dst undef) w:=fun hk=>
      ih hk .refl st (by simp only [Rel];exact ⟨[],rfl,by simp [AZ]⟩)
    simp only [BK] at h;cases hgo:o.guard with
    | none=>
      rw [hgo] at hgd;simp only [P7] at hgd;cases hgd;rw [if_pos (by simp [Region.wanted,hgo])];exact run h
    | some jw=>
      obtain ⟨j,want⟩:=jw;rw [hgo] at hgd;simp only [P7] at hgd;split at hgd
      case h_2=>cases hgd
      rename_i d hd;cases hgd;obtain ⟨w1,w2,w3⟩:=XI hgo hd hF;simp only [Bj] at h;cases hg:F.get d<;>rw [hg] at h<;>simp only at h
      case tt=>
        rw [w1 hg];cases want
        · rw [if_neg (by simp)];exact ⟨fun _ _=>trivial,skip h⟩
        · rw [if_pos rfl];exact run h
      case ff=>
        rw [w2 hg];cases want
        · rw [if_pos (by simp)];exact run h
        · rw [if_neg (by simp)];exact ⟨fun _ _=>trivial,skip h⟩
      case DH=>
        rw [w3 _ hg,if_neg (by simp)];exact ⟨fun _ _=>trivial,skip h⟩
end
end Go.Vc
end
section
namespace Go.Vc
def AO.Ap:AO->List Nat | .t n=>[n] | .c _=>[]
def KI (xs:List AO):List Nat:=xs.flatMap AO.Ap
def Rk:Option AO->List Nat | none=>[] | some r=>r.Ap
def KO (ps:List (Nat×Nat×AO)):List Nat:=ps.flatMap fun p=>p.2.2.Ap
def EL.Ap:EL->List Nat
  | .CD x | .box _ x | .load _ _ x | .Fg x | .Od x | .not x | .neg x | .conv _ x | .Bo _ x | .field _ _ _ x | .len _ x | .extract x _=>x.Ap
  | .DE _ | .alloc _ _ | .NN _ _ _=>[]
  | .pick c a b=>c.Ap++a.Ap++b.Ap
  | .build _ ps=>KO ps
  | .Ax _ _ _ _ ps=>KO ps
  | .store _ x v=>x.Ap++v.Ap
  | .bin _ _ x y=>x.Ap++y.Ap
  | .Hq _ _ _ x y=>x.Ap++y.Ap
  | .slice _ x lo hi=>x.Ap++Rk lo++Rk hi
  | .DT _ _ x i=>x.Ap++i.Ap
  | .index _ _ _ x i=>x.Ap++i.Ap
  | .append _ _ s x=>s.Ap++x.Ap
  | .XQ _ _ s x=>s.Ap++x.Ap
  | .min xs=>KI xs
  | .max xs=>KI xs
  | .HJ _ xs ys=>KI xs++KI ys
  | .ext _ xs=>KI xs
  | .call _ xs=>KI xs
  | .GZ x xs=>x.Ap++KI xs
  | .bad=>[]
  | .HB _ x=>x.Ap
  | .peq _ x y=>x.Ap++y.Ap
  | .Ms _ x=>x.Ap
  | .NS _ _ _ _ x y=>x.Ap++y.Ap
  | .clear _ _ x=>x.Ap
  | .rn x=>x.Ap
  | .sA x=>x.Ap
  | .mark x=>x.Ap
  | .again t _ _ x=>t::x.Ap
  | .WR _ x=>x.Ap
  | .Pr _ xs=>xs.flatMap AO.Ap
  | .Nv _ _ _ xs=>xs.flatMap AO.Ap
  | .slice3 _ x h m=>x.Ap++h.Ap++m.Ap
  | .NR=>[]
  | .J5 _=>[]
  | .Lf _ _ _ xs zs=>(xs.flatMap AO.Ap)++(zs.flatMap AO.Ap)
  | .LL _ _ _ m k=>m.Ap++k.Ap
  | .aZ _ m k x=>m.Ap++k.Ap++x.Ap
  | .m_ _ _ m k=>m.Ap++k.Ap
  | .nC m i x=>m.Ap++i.Ap++x.Ap
  | .Ll x=>x.Ap
  | .UK x=>x.Ap
  | .OA x=>x.Ap
theorem DM {P:Program} {f:FuncId} {args:List AA} {S:AB} {R R':AA->AB->Prop} (h:AV P f args S R) (hr: ∀r S',R r S'->R' r S'):AV P f args S R':=
  ⟨fun E fz w vals st hrel=>(h.out E fz w vals st hrel).mono fun e w' ⟨r,S',v,E',fz',h1,h2,h3,h4,h5⟩=>⟨r,S',v,E',fz',h1,h2,h3,h4,hr _ _ h5⟩⟩
theorem LW.mono {P:Program} {l:Nat} {args:List AA} {S:AB} {R R':AA->AB->Prop} (h:LW P l args S R) (hr: ∀r S',R r S'->R' r S'):LW P l args S R':=
  ⟨fun E fz w vals st hrel=>by
    obtain ⟨fn,tmps,assign,body,hy,hR⟩:=h.out E fz w vals st hrel;exact ⟨fn,tmps,assign,body,hy,RoundIn.mono hR fun e w' ⟨r,S',v,E',fz',h1,h2,h3,h4,h5⟩=>⟨r,S',v,E',fz',h1,h2,h3,h4,hr _ _ h5⟩⟩⟩
section
variable {P : Program} {F F' : Frame} {S : AB} {K : AA -> AB -> Prop}
theorem Af {x:AO} (h: ∀t∈x.Ap,F.get t=F'.get t):rd F x=rd F' x:=by
  cases x with
  | t n=>exact h n (by simp [AO.Ap])
  | c x=>rfl
theorem Dy {xs:List AO} (h: ∀t∈KI xs,F.get t=F'.get t):xs.map (rd F)=xs.map (rd F'):=by
  refine List.map_congr_left fun x hx=>Af fun t ht=>h t ?_;simp only [KI,List.mem_flatMap];exact ⟨x,hx,ht⟩
theorem LQ {Q:List AA->Prop}: ∀ {ps:List (Nat×Nat×AO)} {cs:List AA},(∀t∈KO ps,F.get t=F'.get t)->KC F cs Q ps->KC F' cs Q ps
  | [],cs,_,h=>h
  | (o,n,x)::ps,cs,hs,h=>by
    simp only [KC,AD] at h |-;rw [<-Af fun t ht=>hs t (by simp [KO,ht])];have hr: ∀t∈KO ps,F.get t=F'.get t:=fun t ht=>hs t (by simp only [KO,List.flatMap_cons,List.mem_append] at ht |-;exact .inr ht)
    revert h
    cases rd F x<;>simp only [HR,GH]<;>first | exact id | exact fun h=>⟨h.1,h.2.1,LQ hr h.2.2⟩
theorem oH {x:Option AO} {Q:Nat->Prop} (hs: ∀t∈Rk x,F.get t=F'.get t):X_ F x Q=X_ F' x Q:=by
  cases x with
  | none=>rfl
  | some r=>simp only [X_,AD];rw [Af hs]
theorem oE {x:Option AO} {n:Nat} {Q:Nat->Prop} (hs: ∀t∈Rk x,F.get t=F'.get t):ZS F n x Q=ZS F' n x Q:=by
  cases x with
  | none=>rfl
  | some r=>simp only [ZS,AD];rw [Af hs]
theorem jl {so:EL} (hq:so.quiet=true) (hs: ∀t∈so.Ap,F.get t=F'.get t) (h:AF P F S K so):AF P F' S K so:=by
  cases so<;>simp only [EL.quiet] at hq<;>first | (cases hq;done) | skip
  case build z ps=>exact LQ hs h
  case Ax ro len k z ps=>subst hq;exact LQ hs h
  case slice k x lo hi=>
    simp only [EL.Ap,List.mem_append] at hs;have h1:=Af (x:=x) fun t ht=>hs t (.inl (.inl ht));have h2: ∀Q,X_ F lo Q=X_ F' lo Q:=fun Q=>oH fun t ht=>hs t (.inl (.inr ht));have h3: ∀n Q,ZS F n hi Q=ZS F' n hi Q:=fun n Q=>oE fun t ht=>hs t (.inr ht);simp only [AF,AD,h1,h2,h3] at h |-;exact h
  all_goals
    simp only [EL.Ap,List.mem_append] at hs;simp only [AF,AD,Ar] at h |-
  case slice3 k x y z=>rw [<-Af (x:=x) fun t ht=>hs t (.inl (.inl ht)),<-Af (x:=y) fun t ht=>hs t (.inl (.inr ht)),<-Af (x:=z) fun t ht=>hs t (.inr ht)];exact h
  case pick c a b=>rw [<-Af (x:=c) fun t ht=>hs t (.inl (.inl ht)),<-Af (x:=a) fun t ht=>hs t (.inl (.inr ht)),<-Af (x:=b) fun t ht=>hs t (.inr ht)];exact h
  case bin q o x y=>rw [<-Af (x:=x) fun t ht=>hs t (.inl ht),<-Af (x:=y) fun t ht=>hs t (.inr ht)];exact h
  case DT k ar x y=>rw [<-Af (x:=x) fun t ht=>hs t (.inl ht),<-Af (x:=y) fun t ht=>hs t (.inr ht)];exact h
  case LL q ok z x y=>rw [<-Af (x:=x) fun t ht=>hs t (.inl ht),<-Af (x:=y) fun t ht=>hs t (.inr ht)];exact h
  case index k ar ag x y=>rw [<-Af (x:=x) fun t ht=>hs t (.inl ht),<-Af (x:=y) fun t ht=>hs t (.inr ht)];exact h
  case again t n ag x=>rw [<-Af (x:=x) fun u hu=>hs u (by simp [hu]),<-Af (F:=F) (x:= .t t) fun u hu=>hs u (by simp [AO.Ap] at hu;simp [hu])];exact h
  case HJ f xs ys=>rw [<-Dy (xs:=xs) fun t ht=>hs t (.inl ht),<-Dy (xs:=ys) fun t ht=>hs t (.inr ht)];exact h
  case GZ x xs=>rw [<-Af (x:=x) fun t ht=>hs t (.inl ht),<-Dy (xs:=xs) fun t ht=>hs t (.inr ht)];exact h
  case min xs=>rw [<-Dy (xs:=xs) hs];exact h
  case max xs=>rw [<-Dy (xs:=xs) hs];exact h
  case call f xs=>rw [<-Dy (xs:=xs) hs];exact h
  case Pr f xs=>rw [<-Dy (xs:=xs) hs];exact h
  case ext k xs=>rw [<-Dy (xs:=xs) hs];exact h
  all_goals
    rw [<-Af hs];exact h
def fv {α:Type} (T:(α->Prop)->Prop):Prop:= ∀K,T K-> ∃x,K x/\ ∀K',K' x->T K'
theorem Q5 {k:IntKind} {n:Int}:fv (f_ k n):=fun K h=>by
  unfold f_ at h;split at h
  · exact ⟨_,h.2,fun K' hk=>⟨h.1,hk⟩⟩
  · rename_i hk
    refine ⟨_,h,fun K' hk'=>?_⟩;unfold f_;split
    · exact (hk rfl).elim
    · exact hk'
theorem j5 {op:BinOp} {r:Bool}:fv (YR op r):=fun K h=>by
  cases op<;>simp only [YR] at h<;>first | exact h.elim | exact ⟨_,h,fun K' hk=>hk⟩
theorem Ov: ∀ {ks:List FK} {xs ys:List AA},fv (BC ks xs ys)
  | [],xs,ys,K,h=>by
    cases xs<;>cases ys<;>simp only [BC] at h;exact ⟨true,h,fun K' hk=>hk⟩
  | k::ks,[],ys,K,h=>by cases k<;>simp only [BC] at h
  | k::ks,x::xs,[],K,h=>by cases k<;>cases x<;>simp only [BC] at h
  | k::ks,x::xs,y::ys,K,h=>by
    cases k<;>cases x<;>cases y<;>simp only [BC] at h |-
    · obtain ⟨r,h1,h2⟩:=Ov (ks:=ks) (xs:=xs) (ys:=ys) _ h.2
      exact ⟨_,h1,fun K' hk=>⟨h.1,h2 _ hk⟩⟩
    · obtain ⟨r,h1,h2⟩:=Ov (ks:=ks) (xs:=xs) (ys:=ys) _ h
      exact ⟨_,h1,fun K' hk=>h2 _ hk⟩
    · obtain ⟨r,h1,h2⟩:=Ov (ks:=ks) (xs:=xs) (ys:=ys) _ h
      exact ⟨_,h1,fun K' hk=>h2 _ hk⟩
theorem sO {op:BinOp} {k:IntKind} {a b:Int}:fv (JE op k a b):=fun K h=>by
  cases op<;>simp only [JE] at h<;>first
    | exact h.elim
    | exact Q5 K h
    | (obtain ⟨x,h1,h2⟩:=Q5 K h.2;exact ⟨x,h1,fun K' hk=>⟨h.1,h2 K' hk⟩⟩)
    | exact ⟨_,h.2,fun K' hk=>⟨h.1,hk⟩⟩
    | exact ⟨_,h,fun K' hk=>hk⟩
theorem sP {op:BinOp} {a b:List UInt8}:fv (NJ op a b):=fun K h=>by
  cases op<;>simp only [NJ] at h<;>first | exact h.elim | exact ⟨_,h.2,fun K' hk=>⟨h.1,hk⟩⟩ | exact ⟨_,h,fun K' hk=>hk⟩
theorem sN {q:lN} {op:BinOp} {x y:AA}:fv (HI q op x y):=by
  intro K h;cases x<;>cases y<;>simp only [HI] at h |- <;>first | exact h.elim | skip
  case int.int k a k' b=>
    cases op<;>simp only at h |- <;>first
      | (obtain ⟨x,h1,h2⟩:=sO _ h.2;exact ⟨x,h1,fun K' hk=>⟨h.1,h2 K' hk⟩⟩)
      | (obtain ⟨x,h1,h2⟩:=Q5 K h.2;exact ⟨x,h1,fun K' hk=>⟨h.1,h2 K' hk⟩⟩)
      | exact ⟨_,h.2,fun K' hk=>⟨h.1,hk⟩⟩
  case str.str a b=>exact sP _ h
  all_goals
    cases q<;>simp only at h |- <;>first | exact h.elim | exact j5 _ h | skip
  case agg.agg.agg xs ys ks=>
    obtain ⟨r,h1,h2⟩:=Ov _ h;obtain ⟨z,h3,h4⟩:=j5 _ h1;exact ⟨z,h3,fun K' hk=>h2 _ (h4 K' hk)⟩
theorem Vo {n:Nat} {cs:List AA}:fv (SC n cs):=fun K h=>by
  rw [Dz] at h;obtain ⟨xs,h1,h2⟩:=h;exact ⟨xs,h2,fun K' hk=>Dz.2 ⟨xs,h1,hk⟩⟩
theorem Vn {ag:Bool} {xs:List AA}:fv (Lk ag xs):=fun K h=>by
  rcases Ij.1 h with ⟨h1,h2⟩ | ⟨h1,x,h2,h3⟩
  · exact ⟨_,h2,fun K' hk=>Ij.2 (.inl ⟨h1,hk⟩)⟩
  · exact ⟨x,h3,fun K' hk=>Ij.2 (.inr ⟨h1,x,h2,hk⟩)⟩
theorem j7: ∀ {xs:List AA} {a:AA},fv fun K=>Ud a K xs
  | [],a,K,h=>⟨a,h,fun K' hk=>hk⟩
  | b::xs,a,K,h=>by
    cases a<;>cases b<;>simp only [Ud] at h |-;obtain ⟨z,h1,h2⟩:=j7 (xs:=xs) K h.2;exact ⟨z,h1,fun K' hk=>⟨h.1,h2 K' hk⟩⟩
theorem j6: ∀ {xs:List AA} {a:AA},fv fun K=>Uc a K xs
  | [],a,K,h=>⟨a,h,fun K' hk=>hk⟩
  | b::xs,a,K,h=>by
    cases a<;>cases b<;>simp only [Uc] at h |-;obtain ⟨z,h1,h2⟩:=j6 (xs:=xs) K h.2;exact ⟨z,h1,fun K' hk=>⟨h.1,h2 K' hk⟩⟩
theorem Q4: ∀ {ps:List (Nat×Nat×AO)} {cs:List AA},fv fun K=>KC F cs K ps
  | [],cs,K,h=>⟨cs,h,fun K' hk=>hk⟩
  | (o,n,x)::ps,cs,K,h=>by
    simp only [KC,AD] at h |-
    revert h
    cases rd F x<;>simp only [HR,GH]<;>first
      | exact fun h=>h.elim
      | (intro h
         obtain ⟨z,h1,h2⟩:=Q4 (ps:=ps) K h.2.2;exact ⟨z,h1,fun K' hk=>⟨h.1,h.2.1,h2 K' hk⟩⟩)
theorem Ka {n:Nat} {ag:Bool} {x:AA}:fv (I7 S n ag x):=fun K h=>by
  cases x<;>simp only [I7] at h |- <;>first | exact h.elim | skip
  case ptr l v off=>
    obtain ⟨k,cs,hl,h⟩:=AP.1 h;cases k with
    | zero=>
      simp only [Cn] at h;obtain ⟨xs,h1,h2⟩:=Vo _ h;obtain ⟨z,h3,h4⟩:=Vn _ h1;exact ⟨z,h3,fun K' hk=>AP.2 ⟨0,cs,hl,by simp only [Cn];exact h2 _ (h4 _ hk)⟩⟩
    | succ k=>
      obtain ⟨xs,h1,h2⟩:=h;obtain ⟨z,h3,h4⟩:=Vn _ h2;exact ⟨z,h3,fun K' hk=>AP.2 ⟨k+1,cs,hl,xs,h1,h4 _ hk⟩⟩
  case GX cs=>
    obtain ⟨xs,h1,h2⟩:=Vo _ h;obtain ⟨z,h3,h4⟩:=Vn _ h1;exact ⟨z,h3,fun K' hk=>h2 _ (h4 _ hk)⟩
theorem My {x:AA}:fv (Lu x):=fun K h=>by
  cases x<;>simp only [Lu] at h |-;obtain ⟨j,h1,h2⟩:=h;exact ⟨j,h2,fun K' hk=>⟨j,h1,hk⟩⟩
theorem iG {x:Option AO}:fv (X_ F x):=fun K h=>by
  cases x with
  | none=>exact ⟨0,h,fun K' hk=>hk⟩
  | some r=>simp only [X_,AD] at h |-;exact My _ h
theorem iE {n:Nat} {x:Option AO}:fv (ZS F n x):=fun K h=>by
  cases x with
  | none=>exact ⟨n,h,fun K' hk=>hk⟩
  | some r=>simp only [ZS,AD] at h |-;exact My _ h
theorem YO {x:AA}:fv (NL S x):=fun K h=>by
  cases x<;>simp only [NL] at h |- <;>first | exact h.elim | exact ⟨_,h,fun K' hk=>hk⟩ | skip
  · obtain ⟨k,cs,h1,h2,ns,h3,h4⟩:=AP.1 h
    exact ⟨_,h4,fun K' hk=>AP.2 ⟨k,cs,h1,h2,ns,h3,hk⟩⟩
  · obtain ⟨h1,ns,h2,h3⟩:=h
    exact ⟨_,h3,fun K' hk=>⟨h1,ns,h2,hk⟩⟩
theorem O9 {so:EL} (hq:so.quiet=true) (h:DI P F S K so): ∃x,K x S/\ ∀K':AA->AB->Prop,K' x S->AF P F S K' so:=by
  cases so<;>simp only [EL.quiet] at hq<;>first | (cases hq;done) | skip
  case call f xs=>
    simp only [DI,AF,Ar] at h |-;obtain ⟨r0,h1,h2⟩:=h;exact ⟨r0,h2,fun K' hk=>DM h1 fun r S' hr=>by obtain ⟨rfl,rfl⟩:=hr;exact hk⟩
  case GZ x xs=>
    simp only [DI,AF,AD,Ar] at h |-;generalize rd F x=X at*;cases X<;>first | exact h.elim | skip
    rename_i f first cap
    cases f<;>first | exact h.elim | skip
    cases first<;>first | exact h.elim | skip
    obtain ⟨hc,r0,h1,h2⟩:=h;exact ⟨r0,h2,fun K' hk=>⟨hc,DM h1 fun r S' hr=>by obtain ⟨rfl,rfl⟩:=hr;exact hk⟩⟩
  all_goals simp only [DI,AF,AD,Ar] at h |-
  case sA x=>
    obtain ⟨z,h1,h2⟩:=YO _ h;exact ⟨_,h1,fun K' hk=>h2 _ hk⟩
  case again t n ag x=>
    obtain ⟨z,h1,h2⟩:=Ka _ h;exact ⟨_,h1.2,fun K' hk=>h2 _ ⟨h1.1,hk⟩⟩
  case ext k xs=>
    unfold lH at h |-;split at h
    · exact ⟨_,h,fun K' hk=>hk⟩
    · exact ⟨_,h,fun K' hk=>hk⟩
    · exact h.elim
  case CD x=>exact ⟨_,h,fun K' hk=>hk⟩
  case pick c a b=>
    generalize rd F c=C at*;cases C<;>first | exact h.elim | exact ⟨_,h,fun K' hk=>hk⟩ | skip
    rename_i cb;cases cb
    · exact ⟨_,h.2 rfl,fun K' hk=>⟨fun e=>(by cases e),fun _=>hk⟩⟩
    · exact ⟨_,h.1 rfl,fun K' hk=>⟨fun _=>hk,fun e=>by cases e⟩⟩
  case build z ps=>
    obtain ⟨x,h1,h2⟩:=Q4 _ h;exact ⟨_,h1,fun K' hk=>h2 _ hk⟩
  case Ax ro len k z ps=>
    subst hq;obtain ⟨x,h1,h2⟩:=Q4 _ h;exact ⟨_,h1,fun K' hk=>h2 _ hk⟩
  case load n ag x=>
    obtain ⟨z,h1,h2⟩:=Ka _ h;exact ⟨z,h1,fun K' hk=>h2 _ hk⟩
  case Fg x=>
    generalize rd F x=X at*;cases X<;>first | exact h.elim | exact ⟨_,h,fun K' hk=>hk⟩ | skip
    rename_i f a b;cases f<;>first | exact h.elim | exact ⟨_,h,fun K' hk=>hk⟩
  case bin q op x y=>
    obtain ⟨z,h1,h2⟩:=sN _ h;exact ⟨z,h1,fun K' hk=>h2 _ hk⟩
  case Od x=>
    generalize rd F x=X at*;cases X<;>first | exact h.elim | exact ⟨_,h,fun K' hk=>hk⟩
  case not x=>
    generalize rd F x=X at*;cases X<;>simp only [lJ] at h |- <;>first | exact h.elim | exact ⟨_,h,fun K' hk=>hk⟩
  case neg x=>
    generalize rd F x=X at*;cases X<;>simp only [jn] at h |- <;>first | exact h.elim | skip
    obtain ⟨z,h1,h2⟩:=Q5 _ h;exact ⟨z,h1,fun K' hk=>h2 _ hk⟩
  case conv k x=>
    generalize rd F x=X at*;cases X<;>simp only [jn] at h |- <;>first | exact h.elim | skip
    obtain ⟨z,h1,h2⟩:=Q5 _ h;exact ⟨z,h1,fun K' hk=>h2 _ hk⟩
  case slice3 k x y z=>
    obtain ⟨n,h1,h2⟩:=My _ h;generalize rd F x=X at*;cases X<;>simp only at h1 h2 |- <;>first | exact h1.2.elim | skip
    · exact ⟨_,h1.2.2,fun K' hk=>h2 _ ⟨h1.1,h1.2.1,hk⟩⟩
    · obtain ⟨g0,g1,g2⟩:=h1
      obtain ⟨k',cs,hl,e,hk⟩:=AP.1 g2;exact ⟨_,hk,fun K' hk=>h2 _ ⟨g0,g1,AP.2 ⟨k',cs,hl,e,hk⟩⟩⟩
  case slice k x lo hi=>
    generalize rd F x=X at*;cases k with
    | zero=>
      cases X<;>first | exact h.elim | skip
      simp only at h |-;obtain ⟨hh,h1,h2⟩:=iE _ h;obtain ⟨j,h3,h4⟩:=iG _ h1;exact ⟨_,h3.2.2,fun K' hk=>h2 _ (h4 _ ⟨h3.1,h3.2.1,hk⟩)⟩
    | succ k=>
      cases X<;>first | exact h.elim | skip
      all_goals
        simp only at h |-;obtain ⟨hh,h1,h2⟩:=iE _ h;obtain ⟨j,h3,h4⟩:=iG _ h1
      · exact ⟨_,h3.2.2,fun K' hk=>h2 _ (h4 _ ⟨h3.1,h3.2.1,hk⟩)⟩
      · obtain ⟨k',cs,hl,e,hk⟩:=AP.1 h3.2.2
        exact ⟨_,hk,fun K' hk=>h2 _ (h4 _ ⟨h3.1,h3.2.1,AP.2 ⟨k',cs,hl,e,hk⟩⟩)⟩
      · exact ⟨_,h3.2.2.2,fun K' hk=>h2 _ (h4 _ ⟨h3.1,h3.2.1,h3.2.2.1,hk⟩)⟩
  case Bo o x=>
    generalize rd F x=X at*;cases X<;>simp only [Cn] at h |- <;>first | exact h.elim | exact ⟨_,h,fun K' hk=>hk⟩
  case field o n ag x=>
    generalize rd F x=X at*;cases X<;>simp only [Cn] at h |- <;>first | exact h.elim | skip
    obtain ⟨xs,h1,h2⟩:=Vo _ h;obtain ⟨z,h3,h4⟩:=Vn _ h1;exact ⟨z,h3,fun K' hk=>h2 _ (h4 _ hk)⟩
  case DT k ar x i=>
    generalize rd F x=X at*;obtain ⟨j,h1,h2⟩:=My _ h;cases X<;>cases ar<;>simp only at h1 h2 |- <;>first | exact h1.elim | skip
    · exact ⟨_,h1.2,fun K' hk=>h2 _ ⟨h1.1,hk⟩⟩
    · exact ⟨_,h1.2,fun K' hk=>h2 _ ⟨h1.1,hk⟩⟩
    · obtain ⟨g1,g2⟩:=h1
      obtain ⟨k',cs,hl,e,hk⟩:=AP.1 g2;exact ⟨_,hk,fun K' hk=>h2 _ ⟨g1,AP.2 ⟨k',cs,hl,e,hk⟩⟩⟩
    · obtain ⟨g1,xs,g2,g3⟩:=h1
      exact ⟨_,g3,fun K' hk=>h2 _ ⟨g1,xs,g2,hk⟩⟩
  case index k ar ag x i=>
    generalize rd F x=X at*;obtain ⟨j,h1,h2⟩:=My _ h;cases X<;>cases ar<;>simp only at h1 h2 |- <;>first | exact h1.elim | skip
    · obtain ⟨c,g1,g2⟩:=h1
      exact ⟨_,g2,fun K' hk=>h2 _ ⟨c,g1,hk⟩⟩
    · obtain ⟨g1,xs,g2,g3⟩:=h1
      obtain ⟨z,h3,h4⟩:=Vn _ g3;exact ⟨z,h3,fun K' hk=>h2 _ ⟨g1,xs,g2,h4 _ hk⟩⟩
  case len str x=>
    generalize rd F x=X at*;cases str<;>cases X<;>first | exact h.elim | exact ⟨_,h,fun K' hk=>hk⟩
  case min xs=>
    generalize xs.map (rd F)=ys at*;cases ys<;>first | exact h.elim | skip
    obtain ⟨z,h1,h2⟩:=j7 _ h;exact ⟨z,h1,fun K' hk=>h2 _ hk⟩
  case max xs=>
    generalize xs.map (rd F)=ys at*;cases ys<;>first | exact h.elim | skip
    obtain ⟨z,h1,h2⟩:=j6 _ h;exact ⟨z,h1,fun K' hk=>h2 _ hk⟩
  case HJ f a b=>exact ⟨_,h,fun K' hk=>hk⟩
  case WR t x=>exact ⟨_,h,fun K' hk=>hk⟩
  case Pr f xs=>
    obtain ⟨r0,h1,h2⟩:=h;exact ⟨r0,h2,fun K' hk=>⟨r0,h1,hk⟩⟩
  case LL q ok z m k=>
    obtain ⟨h0,h⟩:=h;generalize rd F m=X at*;cases X<;>first | exact h.elim | skip
    · obtain ⟨es,hl,h1,h2⟩:=C7.1 h
      exact ⟨_,h2,fun K' hk=>⟨h0,C7.2 ⟨es,hl,h1,hk⟩⟩⟩
    · exact ⟨_,h,fun K' hk=>⟨h0,hk⟩⟩
  case extract x i=>
    generalize rd F x=X at*;cases X<;>simp only [Cn] at h |- <;>first | exact h.elim | skip
    split at h
    · rename_i y _ e;exact ⟨y,h,fun K' hk=>hk⟩
    · exact h.elim
end
end Go.Vc
end
end
