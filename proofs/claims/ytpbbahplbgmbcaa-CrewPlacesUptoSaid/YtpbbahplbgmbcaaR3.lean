/- Part of the proof of crewPlacesUpto_holds: the whole is true of every input. Conditions: none. -/
import Derived.Test.YtpbbahplbgmbcaaR2
import Derived.Laws.MakeOwn
import Derived.MapKept
import Derived.Maps.RangeRun
import Derived.Laws.IdiomStrings
import Derived.Laws.Cover3
import Derived.Laws.CopyRow
set_option linter.all false
section
section
namespace Go.Vc
section
variable {P : Program} {E : Env} {fz : Nat → Prop} {S : Store} {w : World} {F : Frame} {a : Act} {K : AVal → Store → Prop} {ro : Bool}
theorem wIdx_iff {x:AVal} {K:Nat→Prop} (h:wIdx x K): ∃(k:IntKind) (j:Nat),x= .int k (j:Int)∧K j:=by
  cases x<;>simp only [wIdx] at h
  obtain ⟨j,rfl,hk⟩:=h
  exact ⟨_,j,rfl,hk⟩
theorem iaddr_slice_sound (st:St E fz S w) (hF:RelF E fz w F a.tmps) {o:Oper} {t e:TypeId} {x i:Operand} {rx ri:Rand} {k:Nat} (ho:o.op= .indexAddr t x i) (ht:P.underlying t=some (.slice e)) (hk:tSize P e=some k) (hx:cRand x=some rx) (hi:cRand i=some ri)
    (h:vcOp P F S K (.iaddr k none rx ri)):RunsTo P ((execOp a.eval o).run P w) (Post K E fz S w):=by
  have hr:=eval_rel hF hx
  have hri:=eval_rel hF hi
  simp only [vcOp,rdK_iff] at h
  have h':=h
  clear h
  obtain ⟨ki,j,ei,h⟩:=wIdx_iff h'
  clear h'
  rw [ei] at hri
  simp only [Rel] at hri
  generalize rd F rx=X at*
  have go: ∀ {b off len cap:Nat} {y:AVal},a.eval x= .slice (some ⟨b,off,none⟩) len cap→j<len→K y S→Rel E fz w y (.pointer (some ⟨b,off+j*k,none⟩))→RunsTo P ((execOp a.eval o).run P w) (Post K E fz S w):=fun {b off len cap y} ex hlt hk' hrel=>by
    refine runs_pure st ?_ hk' hrel
    have:(0:Int)≤(j:Int)∧(j:Int)<(len:Int):=by omega
    simp [execOp,ho,Instr.indexAt,hri,asIntOf,run_underlying ht,ex,this,run_size hk,add_mk]
    omega
  cases X<;>first | exact h.elim | skip
  case ros n cs=>
    simp only at h
    obtain ⟨hlt,xs,htk,hk'⟩:=h
    simp only [Rel] at hr
    rcases hr with ⟨rfl,_⟩ | ⟨b,off,c,hb,hle,ex,hc⟩
    · omega
    · obtain ⟨e2,_⟩:=takeN_eq htk
      exact go ex hlt hk' (by simp only [Rel];exact ⟨b,off+j*k,hb,rfl,e2▸(hc.drop _).take _⟩)
  case sl l ver off n=>
    simp only at h
    obtain ⟨hlt,h⟩:=h
    obtain ⟨k',cs,hl,_,hk'⟩:=wRow_iff.1 h
    simp only [Rel] at hr
    rcases hr with ⟨rfl,_⟩ | ⟨b,base,cap,kk,c,hE,hle,_,ex⟩
    · omega
    · exact go ex hlt hk' (by simp only [Rel];exact ⟨b,base,cap,kk,hE,by rw [Nat.add_assoc]⟩)
theorem iaddr_array_sound (st:St E fz S w) (hF:RelF E fz w F a.tmps) {o:Oper} {t e:TypeId} {x i:Operand} {rx ri:Rand} {k len:Nat} (ho:o.op= .indexAddr t x i) (ht:P.underlying t=some (.array len e)) (hk:tSize P e=some k) (hx:cRand x=some rx) (hi:cRand i=some ri)
    (h:vcOp P F S K (.iaddr k (some len) rx ri)):RunsTo P ((execOp a.eval o).run P w) (Post K E fz S w):=by
  have hr:=eval_rel hF hx
  have hri:=eval_rel hF hi
  simp only [vcOp,rdK_iff] at h
  have h':=h
  clear h
  obtain ⟨ki,j,ei,h⟩:=wIdx_iff h'
  clear h'
  rw [ei] at hri
  simp only [Rel] at hri
  generalize rd F rx=X at*
  have go: ∀ {b off:Nat} {y:AVal},a.eval x= .pointer (some ⟨b,off,none⟩)→j<len→K y S→Rel E fz w y (.pointer (some ⟨b,off+j*k,none⟩))→RunsTo P ((execOp a.eval o).run P w) (Post K E fz S w):=fun {b off y} ex hlt hk' hrel=>by
    refine runs_pure st ?_ hk' hrel
    have:(0:Int)≤(j:Int)∧(j:Int)<(len:Int):=by omega
    simp [execOp,ho,Instr.indexAt,hri,asIntOf,run_underlying ht,ex,Instr.sureAddr,this,run_size hk,add_mk]
    omega
  cases X<;>first | exact h.elim | skip
  case ptr l ver off=>
    simp only at h
    simp only [Rel] at hr
    obtain ⟨b,base,cap,kk,hE,ex⟩:=hr
    exact go ex h.1 h.2 (by simp only [Rel];exact ⟨b,base,cap,kk,hE,by rw [Nat.add_assoc]⟩)
  case rop cs=>
    simp only at h
    simp only [Rel] at hr
    obtain ⟨b,off,hb,ex,hc⟩:=hr
    exact go ex h.1 h.2 (by simp only [Rel];exact ⟨b,off+j*k,hb,rfl,hc.drop _⟩)
theorem index_str_sound (st:St E fz S w) (hF:RelF E fz w F a.tmps) {o:Oper} {t:TypeId} {x i:Operand} {rx ri:Rand} (ho:o.op= .index t x i) (ht:P.underlying t=some .string) (hx:cRand x=some rx) (hi:cRand i=some ri)
    (h:vcOp P F S K (.index 1 none false rx ri)):RunsTo P ((execOp a.eval o).run P w) (Post K E fz S w):=by
  have hr:=eval_rel hF hx
  have hri:=eval_rel hF hi
  simp only [vcOp,rdK_iff] at h
  have h':=h
  clear h
  obtain ⟨ki,j,ei,h⟩:=wIdx_iff h'
  clear h'
  rw [ei] at hri
  simp only [Rel] at hri
  generalize rd F rx=X at*
  cases X<;>first | exact h.elim | skip
  case str s=>
    simp only at h
    obtain ⟨c,hc,hk'⟩:=h
    simp only [Rel] at hr
    refine runs_pure st (v:= .int .u8 (c.toNat:Int)) ?_ hk' (by simp [Rel])
    have hg:(⟨s.toArray⟩:ByteArray)[j]?=some c:=by
      have hlt:j<s.length:=by
        rcases Nat.lt_or_ge j s.length with h | h
        · exact h
        · simp [List.getElem?_eq_none h] at hc
      have hlt':j<(⟨s.toArray⟩:ByteArray).size:=by simpa [ByteArray.size] using hlt
      rw [getElem?_pos (⟨s.toArray⟩:ByteArray) j hlt']
      rw [List.getElem?_eq_getElem hlt] at hc
      simpa [ByteArray.getElem_eq_getElem_data] using hc
    simp [execOp,ho,Instr.index,hri,asIntOf,run_underlying ht,hr,hg]
theorem index_array_sound (st:St E fz S w) (hF:RelF E fz w F a.tmps) {o:Oper} {t e:TypeId} {x i:Operand} {rx ri:Rand} {k len:Nat} {u:TypeDesc} (ho:o.op= .index t x i) (ht:P.underlying t=some (.array len e)) (hu:P.underlying e=some u) (hk:tSize P e=some k) (hk1:isAggD u=false→k=1)
    (hx:cRand x=some rx) (hi:cRand i=some ri)
    (h:vcOp P F S K (.index k (some len) (isAggD u) rx ri)):RunsTo P ((execOp a.eval o).run P w) (Post K E fz S w):=by
  have hr:=eval_rel hF hx
  have hri:=eval_rel hF hi
  simp only [vcOp,rdK_iff] at h
  have h':=h
  clear h
  obtain ⟨ki,j,ei,h⟩:=wIdx_iff h'
  clear h'
  rw [ei] at hri
  simp only [Rel] at hri
  generalize rd F rx=X at*
  cases X<;>first | exact h.elim | skip
  case agg cs=>
    simp only at h
    obtain ⟨hlt,xs,htk,hk'⟩:=h
    simp only [Rel] at hr
    obtain ⟨vs,ex,hl,hone⟩:=hr
    obtain ⟨e2,hle⟩:=takeN_eq htk
    have hlt':(0:Int)≤(j:Int)∧(j:Int)<(len:Int):=by omega
    rcases mkVK_iff.1 hk' with ⟨hag,hk2⟩ | ⟨hag,y,rfl,hk2⟩
    · refine runs_pure st (v:= .agg ((vs.drop (j*k)).take k).toArray) ?_ hk2 ?_
      · simp [execOp,ho,Instr.index,hri,asIntOf,run_underlying ht,ex,hlt',part,run_isAgg hu,hag,run_size hk]
        omega
      · simp only [Rel]
        exact ⟨_,rfl,e2▸(hl.drop _).take _,fun c hc=>hone c (List.mem_of_mem_drop (List.mem_of_mem_take hc))⟩
    · have hk1':=hk1 hag
      subst hk1'
      have hy:cs[j*1]?=some y:=by
        have:=congrArg (·[0]?) e2
        simp [List.getElem?_take,List.getElem?_drop] at this
        simpa using this.symm
      obtain ⟨v,hv,hrel⟩:=hl.get hy
      refine runs_pure st (v:=v) ?_ hk2 hrel
      have hv':vs[j]?=some v:=by simpa using hv
      simp [execOp,ho,Instr.index,hri,asIntOf,run_underlying ht,ex,hlt',part,run_isAgg hu,hag,run_size hk,hv']
      omega
theorem opt_rel (hF:RelF E fz w F a.tmps) {x:Option Operand} {r:Option Rand} (hx:cOpt x=some r):
    (x=none∧r=none)∨ ∃y s,x=some y∧r=some s∧Rel E fz w (rd F s) (a.eval y):=by
  cases x with
  | none=>simp [cOpt] at hx;exact .inl ⟨rfl,hx.symm⟩
  | some y=>
    simp only [cOpt] at hx
    split at hx
    · rename_i s hs;cases hx;exact .inr ⟨y,s,rfl,rfl,eval_rel hF hs⟩
    · cases hx
theorem bounds_ok {isS:Bool} {len cap:Nat} {lo hi:Option Value} {j h:Nat} (hj:j≤h) (hh:h≤len) (hc:len≤cap)
    (hlo:(lo=none∧j=0)∨ ∃k,lo=some (.int k (j:Int))) (hhi:(hi=none∧h=len)∨ ∃k,hi=some (.int k (h:Int))):
    (Instr.sliceBounds isS len cap lo hi none).run P w= .ok (j,h,cap) w:=by
  have b1: ∀k code,(Instr.sliceBound (.int k (h:Int)) cap code).run P w= .ok h w:=fun k code=>by
    rw [run_sliceBound w k h cap code (by omega) (by omega)];simp
  have b2: ∀k code,(Instr.sliceBound (.int k (j:Int)) h code).run P w= .ok j w:=fun k code=>by
    rw [run_sliceBound w k j h code (by omega) (by omega)];simp
  rcases hlo with ⟨rfl,rfl⟩ | ⟨k1,rfl⟩<;>rcases hhi with ⟨rfl,rfl⟩ | ⟨k2,rfl⟩<;>simp [Instr.sliceBounds,b1,b2]
theorem cut_bounds (hF:RelF E fz w F a.tmps) {n:Nat} {lo hi:Option Operand} {rlo rhi:Option Rand} {Q:Nat→Nat→Prop} (hlo:cOpt lo=some rlo) (hhi:cOpt hi=some rhi)
    (h:wHi F n rhi fun h=>wLo F rlo fun j=>Q j h): ∃j h,Q j h∧((lo.map a.eval=none∧j=0)∨ ∃k,lo.map a.eval=some (.int k (j:Int)))∧((hi.map a.eval=none∧h=n)∨ ∃k,hi.map a.eval=some (.int k (h:Int))):=by
  have l1: ∀ {K:Nat→Prop},wLo F rlo K→ ∃j,K j∧((lo.map a.eval=none∧j=0)∨ ∃k,lo.map a.eval=some (.int k (j:Int))):=fun {K} hk=>by
    rcases opt_rel hF hlo with ⟨rfl,rfl⟩ | ⟨y,s,rfl,rfl,hr⟩
    · exact ⟨0,hk,.inl ⟨rfl,rfl⟩⟩
    · simp only [wLo,rdK_iff] at hk
      obtain ⟨k,j,e,hk⟩:=wIdx_iff hk
      rw [e] at hr
      simp only [Rel] at hr
      exact ⟨j,hk,.inr ⟨k,by simp [hr]⟩⟩
  have l2: ∃h,(wLo F rlo fun j=>Q j h)∧((hi.map a.eval=none∧h=n)∨ ∃k,hi.map a.eval=some (.int k (h:Int))):=by
    rcases opt_rel hF hhi with ⟨rfl,rfl⟩ | ⟨y,s,rfl,rfl,hr⟩
    · exact ⟨n,h,.inl ⟨rfl,rfl⟩⟩
    · simp only [wHi,rdK_iff] at h
      obtain ⟨k,j,e,hk⟩:=wIdx_iff h
      rw [e] at hr
      simp only [Rel] at hr
      exact ⟨j,hk,.inr ⟨k,by simp [hr]⟩⟩
  obtain ⟨h,hk,g2⟩:=l2
  obtain ⟨j,hq,g1⟩:=l1 hk
  exact ⟨j,h,hq,g1,g2⟩
theorem slice_str_sound (st:St E fz S w) (hF:RelF E fz w F a.tmps) {o:Oper} {t:TypeId} {x:Operand} {lo hi:Option Operand} {rx:Rand} {rlo rhi:Option Rand} (ho:o.op= .slice t x lo hi none) (ht:P.underlying t=some .string) (hx:cRand x=some rx) (hlo:cOpt lo=some rlo) (hhi:cOpt hi=some rhi)
    (h:vcOp P F S K (.slice 0 rx rlo rhi)):RunsTo P ((execOp a.eval o).run P w) (Post K E fz S w):=by
  have hr:=eval_rel hF hx
  simp only [vcOp,rdK_iff] at h
  generalize rd F rx=X at*
  cases X<;>first | exact h.elim | skip
  case str s=>
    simp only at h
    obtain ⟨j,hh,⟨q1,q2,q3⟩,g1,g2⟩:=cut_bounds hF hlo hhi h
    simp only [Rel] at hr
    have hsz:(⟨s.toArray⟩:ByteArray).size=s.length:=by simp [ByteArray.size]
    have hb:=bounds_ok (P:=P) (w:=w) (isS:=false) q1 q2 (Nat.le_refl _) g1 g2
    refine runs_pure st (v:= .string ((⟨s.toArray⟩:ByteArray).extract j hh)) ?_ q3 ?_
    · simp [execOp,ho,Instr.sliceAt,run_underlying ht,Instr.slice,hr,hsz,hb]
    · simp only [Rel]
      congr 1
      apply ByteArray.ext
      simp [ByteArray.data_extract,List.drop_take]
theorem aslice_sound (st:St E fz S w) (hF:RelF E fz w F a.tmps) {o:Oper} {t e:TypeId} {x:Operand} {rx:Rand} {n:Nat} (ho:o.op= .slice t x none none none) (ht:P.underlying t=some (.array n e)) (hk:tSize P e=some 1) (hx:cRand x=some rx)
    (h:vcOp P F S K (.aslice n rx)):RunsTo P ((execOp a.eval o).run P w) (Post K E fz S w):=by
  have hr:=eval_rel hF hx
  simp only [vcOp,rdK_iff] at h
  generalize rd F rx=X at*
  cases X<;>first | exact h.elim | skip
  case ptr l v off=>
    simp only at h
    obtain ⟨k,cs,hl,rfl,hlen,hk'⟩:=wRow_iff.1 h
    simp only [Rel] at hr
    obtain ⟨b,base,cap,kk,hE,ex⟩:=hr
    refine runs_pure st (v:= .slice (some ⟨b,base+off,none⟩) n n) ?_ hk' ?_
    · simp [execOp,ho,Instr.sliceAt,run_underlying ht,ex,Instr.sliceBounds,run_size hk,Instr.sureAddr,add_mk]
    · simp only [Rel]
      rcases st.ok l _ hl with ⟨p1,p2⟩ | ⟨_,_,_,_,_,_,_,p1,_,_,p2,_⟩
      · rw [hE] at p1;cases p1
      · rw [hE] at p1;cases p1
        exact .inr ⟨b,base,cap,0,n,hE,Nat.le_refl _,by omega,rfl⟩
theorem slice3_sound (st:St E fz S w) (hF:RelF E fz w F a.tmps) {o:Oper} {t e:TypeId} {x h m:Operand} {rx rh rm:Rand} {k:Nat} (ho:o.op= .slice t x none (some h) (some m)) (ht:P.underlying t=some (.slice e)) (hk:tSize P e=some (k+1)) (hx:cRand x=some rx) (hh:cRand h=some rh) (hm:cRand m=some rm)
    (h:vcOp P F S K (.slice3 (k+1) rx rh rm)):RunsTo P ((execOp a.eval o).run P w) (Post K E fz S w):=by
  have hr:=eval_rel hF hx
  have hr1:=eval_rel hF hh
  have hr2:=eval_rel hF hm
  simp only [vcOp,rdK_iff] at h
  obtain ⟨kk,n,e1,e2,h⟩:=wIdx_iff h
  rw [e2,e1] at hr2
  rw [e1] at hr1
  simp only [Rel] at hr1 hr2
  generalize rd F rx=X at hr h
  have go: ∀ {ao:Option Addr} {len c:Nat} {y:AVal},a.eval x= .slice ao len c→n≤c→K y S→Rel E fz w y (.slice (if n=0 then ao else ao.map (·.add (0*(k+1)))) (n-0) (n-0))→RunsTo P ((execOp a.eval o).run P w) (Post K E fz S w):=fun {ao len c y} ex q1 hk' hrel=>by
    have b1: ∀code,(Instr.sliceBound (.int kk (n:Int)) c code).run P w= .ok n w:=fun code=>by
      rw [run_sliceBound w kk n c code (by omega) (by omega)];simp
    have b2: ∀code,(Instr.sliceBound (.int kk (n:Int)) n code).run P w= .ok n w:=fun code=>by
      rw [run_sliceBound w kk n n code (by omega) (by omega)];simp
    refine runs_pure st ?_ hk' hrel
    simp [execOp,ho,Instr.sliceAt,run_underlying ht,Instr.slice,Instr.sliceBounds,ex,hr1,hr2,b1,b2,run_size hk]
  cases X<;>first | exact h.elim | skip
  case nils=>
    obtain ⟨rfl,h⟩:=h
    simp only [Rel] at hr
    exact go hr (Nat.le_refl _) h (by simp [Rel])
  case sl lc ver off len=>
    simp only at h
    obtain ⟨q1,q2⟩:=h
    obtain ⟨k',cs,hl,e4,hk'⟩:=wRow_iff.1 q2
    subst e4
    simp only [Rel] at hr
    rcases hr with ⟨rfl,ao,ex⟩ | ⟨b,base,cap,kk',c,hE,hle,hcap,ex⟩
    · obtain rfl:n=0:=by omega
      exact go ex (Nat.le_refl _) hk' (by simp [Rel])
    · have hkk:kk'=k+1:=by
        rcases st.ok lc _ hl with ⟨p1,_⟩ | ⟨_,_,_,_,_,_,_,p1,_⟩<;>rw [hE] at p1<;>cases p1
        rfl
      subst hkk
      refine go ex (by omega) hk' ?_
      simp only [Rel]
      by_cases e:n=0
      · exact .inl ⟨e,_,by rw [if_pos e,e]⟩
      · refine .inr ⟨b,base,cap,k+1,n,hE,Nat.le_refl _,?_,by rw [if_neg e];simp [add_mk,Nat.add_assoc]⟩
        have:=Nat.mul_le_mul_right (k+1) (show n≤c by omega)
        omega
theorem slice_slice_sound (st:St E fz S w) (hF:RelF E fz w F a.tmps) {o:Oper} {t e:TypeId} {x:Operand} {lo hi:Option Operand} {rx:Rand} {rlo rhi:Option Rand} {k:Nat} (ho:o.op= .slice t x lo hi none) (ht:P.underlying t=some (.slice e)) (hk:tSize P e=some (k+1)) (hx:cRand x=some rx) (hlo:cOpt lo=some rlo) (hhi:cOpt hi=some rhi)
    (h:vcOp P F S K (.slice (k+1) rx rlo rhi)):RunsTo P ((execOp a.eval o).run P w) (Post K E fz S w):=by
  have hr:=eval_rel hF hx
  simp only [vcOp,rdK_iff] at h
  generalize rd F rx=X at*
  have go: ∀ {ao:Option Addr} {n c j h:Nat} {y:AVal},a.eval x= .slice ao n c→j≤h→h≤n→n≤c→((lo.map a.eval=none∧j=0)∨ ∃k,lo.map a.eval=some (.int k (j:Int)))→((hi.map a.eval=none∧h=n)∨ ∃k,hi.map a.eval=some (.int k (h:Int)))→
      K y S→Rel E fz w y (.slice (if c=j then ao else ao.map (·.add (j*(k+1)))) (h-j) (c-j))→RunsTo P ((execOp a.eval o).run P w) (Post K E fz S w):=fun {ao n c j h y} ex q1 q2 q3 g1 g2 hk' hrel=>by
    have hb:=bounds_ok (P:=P) (w:=w) (isS:=true) q1 q2 q3 g1 g2
    refine runs_pure st ?_ hk' hrel
    simp [execOp,ho,Instr.sliceAt,run_underlying ht,Instr.slice,ex,hb,run_size hk]
  cases X<;>first | exact h.elim | skip
  case nils=>
    simp only at h
    obtain ⟨j,hh,⟨rfl,rfl,q3⟩,g1,g2⟩:=cut_bounds hF hlo hhi h
    simp only [Rel] at hr
    exact go hr (Nat.le_refl _) (Nat.le_refl _) (Nat.le_refl _) g1 g2 q3 (by simp [Rel])
  case sl l ver off n=>
    simp only at h
    obtain ⟨j,hh,⟨q1,q2,q3⟩,g1,g2⟩:=cut_bounds hF hlo hhi h
    obtain ⟨k',cs,hl,rfl,hk'⟩:=wRow_iff.1 q3
    simp only [Rel] at hr
    rcases hr with ⟨rfl,ao,ex⟩ | ⟨b,base,cap,kk,c,hE,hle,hcap,ex⟩
    · obtain rfl:hh=0:=by omega
      obtain rfl:j=0:=by omega
      exact go ex (Nat.le_refl _) (Nat.le_refl _) (Nat.le_refl _) g1 g2 hk' (by simp [Rel])
    · have hkk:kk=k+1:=by
        rcases st.ok l _ hl with ⟨p1,_⟩ | ⟨_,_,_,_,_,_,_,p1,_⟩<;>rw [hE] at p1<;>cases p1
        rfl
      subst hkk
      refine go ex q1 q2 hle g1 g2 hk' ?_
      simp only [Rel]
      by_cases e:c=j
      · exact .inl ⟨by omega,_,by rw [if_pos e,e,Nat.sub_self,show hh-j=0 by omega]⟩
      · refine .inr ⟨b,base,cap,k+1,c-j,hE,by omega,?_,by rw [if_neg e];simp [add_mk,Nat.add_assoc]⟩
        have:j*(k+1)+(c-j)*(k+1)=c*(k+1):=by rw [←Nat.add_mul,Nat.add_sub_cancel' (by omega)]
        omega
  case ros n cs=>
    simp only at h
    obtain ⟨j,hh,⟨q1,q2,q3,hk'⟩,g1,g2⟩:=cut_bounds hF hlo hhi h
    simp only [Rel] at hr
    rcases hr with ⟨rfl,ao,c,ex⟩ | ⟨b,off,c,hb,hle,ex,hc⟩
    · obtain rfl:hh=0:=by omega
      obtain rfl:j=0:=by omega
      exact go ex (Nat.le_refl _) (Nat.le_refl _) (Nat.zero_le _) g1 g2 hk' (by simp [Rel])
    · refine go ex q1 q2 hle g1 g2 hk' ?_
      simp only [Rel]
      by_cases e:c=j
      · exact .inl ⟨by omega,_,_,by rw [if_pos e,show hh-j=0 by omega]⟩
      · exact .inr ⟨b,off+j*(k+1),c-j,hb,by omega,by rw [if_neg e];simp [add_mk],(hc.drop _).take _⟩
end
end Go.Vc
end
section
namespace Go.Vc
section
variable {P : Program} {E : Env} {fz : Nat → Prop} {S : Store} {w : World} {F : Frame} {a : Act} {K : AVal → Store → Prop} {ro : Bool}
theorem flatten_rep_length (z:List AVal) (n:Nat):(List.replicate n z).flatten.length=n*z.length:=by
  induction n with
  | zero=>simp
  | succ n ih=>simp [List.replicate_succ,Nat.succ_mul];omega
theorem flatten_rep_get (z:List AVal) (n i:Nat) (hi:i<n*z.length):(List.replicate n z).flatten[i]?=z[i%z.length]?:=by
  induction n generalizing i with
  | zero=>simp at hi
  | succ n ih=>
    simp only [List.replicate_succ,List.flatten_cons]
    by_cases h:i<z.length
    · rw [List.getElem?_append_left h,Nat.mod_eq_of_lt h]
    · rw [List.getElem?_append_right (by omega),ih _ (by rw [Nat.add_mul,Nat.one_mul] at hi;omega),←Nat.mod_eq_sub_mod (by omega)]
theorem made_rel {z:List AVal} {v:Value} (h:RelL E fz w z v.cells.toList) (h1: ∀c∈v.cells.toList,c.oneCell'=true) (hz:0<z.length) (n:Nat):
    RelL E fz w (List.replicate n z).flatten (madeCells v.cells (n*z.length)).toList∧ ∀c∈(madeCells v.cells (n*z.length)).toList,c.oneCell'=true:=by
  have hl:=h.length
  have hsz:v.cells.size=z.length:=by simpa using hl
  have get: ∀i,i<n*z.length→ ∃c,(madeCells v.cells (n*z.length)).toList[i]?=some c∧v.cells.toList[i%z.length]?=some c:=fun i hi=>by
    have hm:i%z.length<v.cells.size:=by rw [hsz];exact Nat.mod_lt _ hz
    refine ⟨v.cells[i%z.length],?_,by simp⟩
    simp [madeCells,hi,hsz]
    exact getElem!_pos v.cells (i%z.length) hm
  refine ⟨RelL.mk (by simp [madeCells,flatten_rep_length]) fun i x u hx hu=>?_,fun c hc=>?_⟩
  · have hi:i<n*z.length:=by
      have:=(List.getElem?_eq_some_iff.1 hx).1
      rwa [flatten_rep_length] at this
    rw [flatten_rep_get z n i hi] at hx
    obtain ⟨c,g1,g2⟩:=get i hi
    rw [hu] at g1;cases g1
    obtain ⟨u',q1,q2⟩:=h.get hx
    rw [g2] at q1;cases q1
    exact q2
  · obtain ⟨i,hi,e⟩:=List.mem_iff_getElem.1 hc
    have hi':i<n*z.length:=by simpa [madeCells] using hi
    obtain ⟨c',g1,g2⟩:=get i hi'
    rw [List.getElem?_eq_getElem hi,e] at g1;cases g1
    exact h1 c (List.mem_of_getElem? g2)
theorem mkslice_sound (st:St E fz S w) (hF:RelF E fz w F a.tmps) {o:Oper} {t e:TypeId} {x y:Operand} {rx ry:Rand} {n b:Nat} {z:List AVal} (ho:o.op= .makeSlice t x y) (ht:P.underlying t=some (.slice e)) (hn:tSize P e=some n) (hb:tBytes P e=some b) (hz:tZero P e=some z) (h0:0<n) (hb0:0<b) (hzl:z.length=n) (hx:cRand x=some rx) (hy:cRand y=some ry)
    (h:vcOp P F S K (.mkslice n b z rx ry)):RunsTo P ((execOp a.eval o).run P w) (Post K E fz S w):=by
  have hr1:=eval_rel hF hx
  have hr2:=eval_rel hF hy
  simp only [vcOp,rdK_iff,wPush_iff] at h
  obtain ⟨k,m,ex,hyx,hm,hk⟩:=wIdx_iff h
  obtain ⟨kc,c,ey,hmc,hbc⟩: ∃kc,∃c:Nat,rd F ry= .int kc (c:Int)∧m≤c∧b*c≤140737488355328:=by
    rcases hyx with hyx | hyx
    · exact ⟨k,m,by rw [hyx,ex],Nat.le_refl _,hm⟩
    · exact hyx
  rw [ey] at hr2
  rw [ex] at hr1
  simp only [Rel] at hr1 hr2
  have hzz: ∃i zv,P.info? e=some i∧i.zero=some zv∧absL zv.cells.toList=some z∧i.size=n∧i.bytes=b:=by
    unfold tZero at hz
    unfold tSize at hn
    unfold tBytes at hb
    split at hz
    · rename_i i hi
      rw [hi] at hn hb
      split at hz
      · rename_i zv hzv
        exact ⟨i,zv,hi,hzv,hz,by simpa using hn,by simpa using hb⟩
      · cases hz
    · cases hz
  obtain ⟨i,zv,hi,hzv,hab,hsz,hby⟩:=hzz
  have hmm:c≤b*c:=Nat.le_mul_of_pos_left c hb0
  have hrun:=run_make (P:=P) w t e i zv ht hi hzv k kc (m:Int) (c:Int) (by omega) (by omega) (by rw [hby,←Int.natCast_mul];omega) (by omega)
  have hrel:=absL_rel (E:=E) (fz:=fz) (w:=w) hab
  obtain ⟨g1,g2⟩:=made_rel hrel.1 hrel.2 (by omega) m
  rw [hzl] at g1 g2
  have hmn:m*n≤c*n:=Nat.mul_le_mul_right n hmc
  have htk:(madeCells zv.cells (c*n)).toList.take (m*n)=(madeCells zv.cells (m*n)).toList:=List.ext_getElem (by rw [List.length_take,Array.length_toList,Array.length_toList,size_madeCells,size_madeCells];omega) fun i h1 h2=>by simp [madeCells]
  have hsp:(madeCells zv.cells (c*n)).toList=(madeCells zv.cells (m*n)).toList++(madeCells zv.cells (c*n)).toList.drop (m*n):=by rw [←htk,List.take_append_drop]
  obtain ⟨ver,E',q1,q2,q3⟩:=new_row (w':=w.alloc (.cells (madeCells zv.cells (c*n)) e)) st (rest:=(madeCells zv.cells (c*n)).toList.drop (m*n)) (T:=e) n g1 g2 (by rw [←hsp];rfl) rfl rfl (Tp.of rfl (Nat.le_refl _))
  have hlen:(madeCells zv.cells (c*n)).toList.length=c*n:=by simp [madeCells]
  rw [←hsp] at q1
  refine runs_of st (v:= .slice (some ⟨w.heap.size,0,none⟩) m c) (w':=w.alloc (.cells (madeCells zv.cells (c*n)) e)) ?_ ⟨.sl S.length ver 0 m,_,E',fz,hk ver,q3,q2,?_⟩
  · simp only [execOp,ho,hr1,hr2]
    simp only [Int.toNat_natCast,hsz] at hrun
    simp [hrun]
  · simp only [Rel]
    refine .inr ⟨_,_,_,_,c,q1,hmc,?_,rfl⟩
    simp [hlen]
def keyD:KeyQ→TypeDesc | .str=>.string | .int k=>.int k | .bool=>.bool
theorem keyQ_desc {t:TypeId} {q:KeyQ} (h:keyQ P t=some q):P.underlying t=some (keyD q):=by
  unfold keyQ at h
  split at h<;>first | (cases h;assumption) | cases h
theorem key_is {q:KeyQ} {y:AVal} {v:Value} (hq:keyOk q y=true) (hr:Rel E fz w y v):MapKept.IsKey (keyD q) v:=by
  cases q<;>cases y<;>simp only [keyOk,Bool.false_eq_true] at hq<;>simp only [Rel] at hr<;>subst hr<;>simp only [keyD,MapKept.IsKey]
  exact (of_decide_eq_true hq).symm
theorem key_same {q:KeyQ} {y k:AVal} {v u:Value} (h1:keyOk q y=true) (h2:keyOk q k=true) (hv:Rel E fz w y v) (hu:Rel E fz w k u):keySame y k=true↔v=u:=by
  cases q<;>cases y<;>simp only [keyOk,Bool.false_eq_true] at h1<;>cases k<;>simp only [keyOk,Bool.false_eq_true] at h2<;>simp only [Rel] at hv hu<;>subst hv<;>subst hu<;>simp only [keySame,beq_iff_eq]
  · simp
  · have e1:=of_decide_eq_true h1
    have e2:=of_decide_eq_true h2
    subst e1;subst e2
    simp
  · simp
theorem RelE.get {es:List (AVal×AVal)} {ms:List MapEntry} (h:RelE E fz w es ms):es.length=ms.length∧ ∀(i:Nat) (m:MapEntry),ms[i]?=some m→ ∃k v,es[i]?=some (k,v)∧Rel E fz w k m.key∧Rel E fz w v m.val:=by
  induction h with
  | nil=>exact ⟨rfl,fun i m h=>by simp at h⟩
  | cons hk hv _ ih=>
    refine ⟨by simp [ih.1],fun i m h=>?_⟩
    cases i with
    | zero=>simp at h;subst h;exact ⟨_,_,rfl,hk,hv⟩
    | succ i=>simpa using ih.2 i m (by simpa using h)
theorem RelE.of: ∀ {es:List (AVal×AVal)} {ms:List MapEntry},es.length=ms.length→(∀(i:Nat) k v m,es[i]?=some (k,v)→ms[i]?=some m→Rel E fz w k m.key∧Rel E fz w v m.val)→RelE E fz w es ms
  | [],[],_,_=>.nil
  | [],_::_,h,_=>by simp at h
  | _::_,[],h,_=>by simp at h
  | (k,v)::es,m::ms,h,g=>.cons (g 0 k v m rfl rfl).1 (g 0 k v m rfl rfl).2 (RelE.of (by simpa using h) fun i k v m h1 h2=>g (i+1) k v m (by simpa using h1) (by simpa using h2))
theorem keyAt_rel {q:KeyQ} {y:AVal} {ky:Value} (hq:keyOk q y=true) (hy:Rel E fz w y ky): ∀ {es:List (AVal×AVal)} {ms:List MapEntry},RelE E fz w es ms→(∀e∈es,keyOk q e.1=true)→ ∀i,
    (keyAt y es=none∧Instr.findNow (keyD q) ky ms i=some none)∨ ∃j x m,keyAt y es=some (j,x)∧Instr.findNow (keyD q) ky ms i=some (some (i+j,m.val))∧ms[j]?=some m∧m.key=ky∧Rel E fz w x m.val
  | _,_,.nil,_,i=>.inl ⟨rfl,rfl⟩
  | (k,x)::es,m::ms,.cons hk hv hr,ho,i=>by
    have o1:=ho (k,x) (by simp)
    obtain ⟨r,g1,g2⟩:=MapKept.sameNow_of_keys (key_is hq hy) (key_is o1 hk)
    have g3:=key_same hq o1 hy hk
    cases r with
    | true=>
      have e:=g2.1 rfl
      refine .inr ⟨0,x,m,?_,by simp [Instr.findNow,g1],rfl,e.symm,hv⟩
      unfold keyAt;rw [g3.2 e]
    | false=>
      have e:keySame y k=false:=by
        cases h:keySame y k with
        | false=>rfl
        | true=>have:=g2.2 (g3.1 h);cases this
      rcases keyAt_rel hq hy hr (fun e he=>ho e (by simp [he])) (i+1) with ⟨h1,h2⟩ | ⟨j,x',m',h1,h2,h3,h4,h5⟩
      · exact .inl ⟨by unfold keyAt;rw [e,h1],by simp [Instr.findNow,g1,h2]⟩
      · refine .inr ⟨j+1,x',m',by unfold keyAt;rw [e,h1],?_,by simpa using h3,h4,h5⟩
        simp only [Instr.findNow,g1,h2,Option.some.injEq,Prod.mk.injEq,and_true]
        omega
theorem new_map (st:St E fz S w) {w':World} (hw:w'.heap=w.heap.push (.map #[] 0)) (g1:w'.os=w.os) (g2:w'.output=w.output) (g3:Tp w w'):
    ∃ver E',E' ver=some (.mapb w.heap.size)∧St E' fz (S++[.mapo ver []]) w'∧Ext E fz S w E' fz (S++[.mapo ver []]) w':=by
  obtain ⟨n,hn⟩:=st.fresh
  have hE: ∀v x,E v=some x→(fun v=>if v=n then some (Bk.mapb w.heap.size) else E v) v=some x:=fun v x hx=>by
    have:v≠n:=fun e=>by subst e;rw [hn v (Nat.le_refl _)] at hx;cases hx
    simp [this,hx]
  have hlt: ∀b:Nat,b<w.heap.size→w'.heap[b]?=w.heap[b]?:=fun b hb=>by
    rw [hw,Array.getElem?_push,if_neg (by omega)]
  have hnew:w'.heap[w.heap.size]?=some (.map #[] 0):=by rw [hw];simp
  refine ⟨n,fun v=>if v=n then some (.mapb w.heap.size) else E v,by simp,
    st.upd S.length (.mapo n []) hE ⟨n+1,fun v hv=>by simp [hn v (by omega),show v≠n by omega]⟩ (fun l' hl'=>?_) (by simp) (by rw [hw];simp) (fun b hb _=>hlt b hb) (fun b hb=>.inr ?_) ?_ g1 g2 g3⟩
  · rw [List.getElem?_append]
    split
    · rfl
    · rename_i hh
      rw [List.getElem?_eq_none (by simp;omega),List.getElem?_eq_none (by omega)]
  · simp [obBlock] at hb;omega
  · exact ⟨w.heap.size,#[],0,by simp,hnew,⟨.nil,rfl,fun i m h=>by simp at h⟩,fun hf=>by have:=st.fzlt _ hf;omega⟩
theorem put_map (st:St E fz S w) {l v b:Nat} {es es':List (AVal×AVal)} {en':Array MapEntry} {en:Array MapEntry} {cl:Nat} (hl:S[l]?=some (.mapo v es)) (hE:E v=some (.mapb b)) (hb:w.heap[b]?=some (.map en cl)) (hf: ¬fz b)
    {w':World} (hw:w'={w with heap:=w.heap.setIfInBounds b (.map en' en'.size)})
    (hr:RelE E fz w es' en'.toList) (hbo: ∀(i:Nat) m,en'[i]?=some m→m.born=i):
    St E fz (S.set l (.mapo v es')) w'∧Ext E fz S w E fz (S.set l (.mapo v es')) w':=by
  subst hw
  have hlt:l<S.length:=(List.getElem?_eq_some_iff.1 hl).1
  obtain ⟨h1,h2⟩:=MapKept.heap_set (o':= .map en' en'.size) hb
  have own:OwnAt E S l b:=⟨_,hl,by simp [obBlock,hE]⟩
  refine st.upd l (.mapo v es') (fun _ _ h=>h) st.fresh (fun l' hl'=>by rw [List.getElem?_set_ne (Ne.symm hl')]) (by simp [hlt]) (by simp) (fun b' hb' hno=>h2 b' fun e=>hno (e▸own)) (fun b' hb'=>.inl ?_) ?_ rfl rfl (Tp.of rfl (Nat.le_refl _))
  · simp only [obBlock,hE,Option.some.injEq] at hb';subst hb';exact own
  · exact ⟨b,en',en'.size,hE,h1,⟨hr.mono (fun _ _ h=>h) (fun _ h=>h) (fun b' hb'=>h2 b' fun e=>hf (e▸hb')),rfl,hbo⟩,hf⟩
theorem mkmap_sound (st:St E fz S w) {o:Oper} {t k e:TypeId} {r:Option Operand} (ho:o.op= .makeMap t r) (ht:P.underlying t=some (.map k e)) (hc:r=none∨ ∃j n,r=some (.const (.int j n)))
    (h:vcOp P F S K .mkmap):RunsTo P ((execOp a.eval o).run P w) (Post K E fz S w):=by
  simp only [vcOp,wPush_iff] at h
  obtain ⟨ver,E',q1,q2,q3⟩:=new_map (w':=w.alloc (.map #[] 0)) st rfl rfl rfl (Tp.of rfl (Nat.le_refl _))
  refine runs_of st (v:= .map (some w.heap.size)) (w':=w.alloc (.map #[] 0)) ?_ ⟨.map S.length ver,_,E',fz,h ver,q3,q2,by simp only [Rel];exact ⟨_,q1,rfl⟩⟩
  rcases hc with rfl | ⟨j,n,rfl⟩
  · simp [execOp,ho,Instr.makeMap]
  · simp [execOp,ho,Instr.makeMap,run_underlying ht,Act.eval,asInt,asIntOf,Result.andThen]
theorem mapres_sound (st:St E fz S w) {o:Oper} {t k e:TypeId} {r:Option Operand} {d:Nat} (ho:o.op= .makeMap t r) (ht:P.underlying t=some (.map k e)) (hc:r=none∨ ∃j n,r=some (.const (.int j n)))
    (h:vcOp P F S K (.mapres d)):RunsTo P ((execOp a.eval o).run P w) (Post K E fz S w):=by
  simp only [vcOp] at h
  obtain ⟨h1,h2,h3,h4⟩:=h
  refine (mkmap_sound (F:=F) (K:=fun r S'=> ∃v,r= .map S.length v∧S'=S++[.mapo v []]) st ho ht hc (by simp only [vcOp,wPush_iff];exact fun v=>⟨v,rfl,rfl⟩)).mono fun v w' hp=>hp.sub fun r S' ⟨v,e1,e2⟩=>?_
  subst e1;subst e2
  exact ⟨.map (S.length-d) v,_,_,.map,Sub.put (by omega),h4 v⟩
theorem run_mZero {t:TypeId} {z:AVal} (h:mZero P t=some z): ∃v,absV v=some z∧ ∀w:World,(zeroValue t).run P w= .ok v w:=by
  unfold mZero at h
  split at h
  · rename_i i hi
    split at h
    · rename_i v hv
      exact ⟨v,h,fun w=>by simp [zeroValue,run_info hi,hv,Result.andThen]⟩
    · cases h
  · cases h
theorem mlook_sound (st:St E fz S w) (hF:RelF E fz w F a.tmps) {o:Oper} {t kt e:TypeId} {m k:Operand} {ok:Bool} {rm rk:Rand} {q:KeyQ} {z:AVal} (ho:o.op= .lookup t m k ok) (ht:P.underlying t=some (.map kt e)) (hq:keyQ P kt=some q) (hz:mZero P e=some z) (hm:cRand m=some rm) (hk:cRand k=some rk)
    (h:vcOp P F S K (.mlook q ok z rm rk)):RunsTo P ((execOp a.eval o).run P w) (Post K E fz S w):=by
  have r1:=eval_rel hF hm
  have r2:=eval_rel hF hk
  obtain ⟨zv,z1,z2⟩:=run_mZero hz
  have hd:=keyQ_desc hq
  simp only [vcOp,rdK_iff] at h
  obtain ⟨hko,h⟩:=h
  have ik:=key_is hko r2
  have zr:Rel E fz w z zv:=absV_rel z1
  have fin: ∀ {x:AVal} {v:Value} {b:Bool},(Instr.lookup t (a.eval m) (a.eval k) ok).run P w= .ok (if ok then .tuple #[v,.bool b] else v) w→Rel E fz w x v→K (lookV ok x b) S→RunsTo P ((execOp a.eval o).run P w) (Post K E fz S w):=fun {x v b} hr hx hK=>by
    refine runs_pure st (v:=if ok then .tuple #[v,.bool b] else v) (by simp [execOp,ho,hr]) hK ?_
    cases ok
    · exact hx
    · exact ⟨[v,.bool b],rfl,⟨_,_,rfl,hx,⟨_,_,rfl,rfl,rfl⟩⟩⟩
  generalize rd F rm=X at*
  cases X<;>first | exact h.elim | skip
  case map l v=>
    obtain ⟨es,hl,ho',hK⟩:=wMap_iff.1 h
    simp only [Rel] at r1
    obtain ⟨b,hE,em⟩:=r1
    obtain ⟨b',en,cl,hE',hb,⟨hr,_,_⟩,hf⟩:=st.ok l _ hl
    rw [hE] at hE';cases hE'
    rcases keyAt_rel hko r2 hr ho' 0 with ⟨g1,g2⟩ | ⟨j,x,me,g1,g2,g3,g4,g5⟩
    · rw [g1] at hK
      refine fin (x:=z) (v:=zv) (b:=false) ?_ zr hK
      simp [Instr.lookup,run_underlying ht,em,MapKept.run_getObj_map hb,MapKept.run_checkKey hd ik,MapKept.run_findKey hd g2,z2,Result.andThen]
    · rw [g1] at hK
      refine fin (x:=x) (v:=me.val) (b:=true) ?_ g5 hK
      simp [Instr.lookup,run_underlying ht,em,MapKept.run_getObj_map hb,MapKept.run_checkKey hd ik,MapKept.run_findKey hd g2,Result.andThen]
  case nilm=>
    simp only [Rel] at r1
    refine fin (x:=z) (v:=zv) (b:=false) ?_ zr h
    have g2:Instr.findNow (keyD q) (a.eval k) [] 0=some none:=rfl
    simp [Instr.lookup,run_underlying ht,r1,MapKept.run_checkKey hd ik,MapKept.run_findKey hd g2,z2,Result.andThen]
theorem born_push {en:Array MapEntry} (h: ∀(i:Nat) m,en[i]?=some m→m.born=i) {k v:Value}: ∀(i:Nat) m,(en.push {key:=k,val:=v,born:=en.size})[i]?=some m→m.born=i:=fun i m hi=>by
  rw [Array.getElem?_push] at hi
  split at hi
  · cases hi;simp_all
  · exact h i m hi
theorem born_mod {en:Array MapEntry} (h: ∀(i:Nat) m,en[i]?=some m→m.born=i) {j:Nat} {f:MapEntry→MapEntry} (hf: ∀m,(f m).born=m.born): ∀(i:Nat) m,(en.modify j f)[i]?=some m→m.born=i:=fun i m hi=>by
  rw [Array.getElem?_modify] at hi
  split at hi
  · cases hg:en[i]? with
    | none=>rw [hg] at hi;cases hi
    | some m'=>rw [hg] at hi;cases hi;rw [hf];exact h i m' hg
  · exact h i m hi
theorem relE_push {es:List (AVal×AVal)} {en:Array MapEntry} (h:RelE E fz w es en.toList) {y u:AVal} {ky x:Value} {n:Nat} (h1:Rel E fz w y ky) (h2:Rel E fz w u x):RelE E fz w (es++[(y,u)]) (en.push {key:=ky,val:=x,born:=n}).toList:=by
  obtain ⟨g1,g2⟩:=h.get
  refine RelE.of (by simp at g1 ⊢;omega) fun i k v m a1 a2=>?_
  rw [Array.toList_push] at a2
  rw [List.getElem?_append] at a1 a2
  rw [g1] at a1
  split at a1
  · rename_i hi
    rw [if_pos hi] at a2
    obtain ⟨k',v',b1,b2,b3⟩:=g2 i m a2
    rw [a1] at b1;cases b1;exact ⟨b2,b3⟩
  · rename_i hi
    rw [if_neg hi] at a2
    have hz:i-en.toList.length=0:=by
      have:=(List.getElem?_eq_some_iff.1 a2).1
      simp only [List.length_singleton] at this;omega
    rw [hz] at a1 a2
    cases a1;cases a2;exact ⟨h1,h2⟩
theorem relE_mod {es:List (AVal×AVal)} {en:Array MapEntry} (h:RelE E fz w es en.toList) {j:Nat} {f:MapEntry→MapEntry} {y u:AVal} (hf: ∀m,en[j]?=some m→Rel E fz w y (f m).key∧Rel E fz w u (f m).val):RelE E fz w (es.set j (y,u)) (en.modify j f).toList:=by
  obtain ⟨g1,g2⟩:=h.get
  refine RelE.of (by simp at g1 ⊢;omega) fun i k v m a1 a2=>?_
  rw [Array.getElem?_toList,Array.getElem?_modify] at a2
  rw [List.getElem?_set] at a1
  split at a2
  · rename_i hj
    rw [if_pos hj] at a1
    cases hg:en[i]? with
    | none=>rw [hg] at a2;cases a2
    | some m'=>
      rw [hg] at a2;cases a2
      split at a1
      · cases a1;exact hf m' (by rw [hj];exact hg)
      · cases a1
  · rename_i hj
    rw [if_neg hj] at a1
    obtain ⟨k',v',b1,b2,b3⟩:=g2 i m (by rw [Array.getElem?_toList];exact a2)
    rw [a1] at b1;cases b1;exact ⟨b2,b3⟩
theorem mod_size {en:Array MapEntry} {j:Nat} {f:MapEntry→MapEntry}:(en.modify j f).size=en.size:=by simp
theorem mupd_sound (st:St E fz S w) (hF:RelF E fz w F a.tmps) {o:Oper} {t kt e:TypeId} {m k x:Operand} {rm rk rx:Rand} {q:KeyQ} (ho:o.op= .mapUpdate t m k x∨o.op= .insert t m k x) (ht:P.underlying t=some (.map kt e)) (hq:keyQ P kt=some q) (hm:cRand m=some rm) (hk:cRand k=some rk) (hx:cRand x=some rx)
    (h:vcOp P F S K (.mupd q rm rk rx)):RunsTo P ((execOp a.eval o).run P w) (Post K E fz S w):=by
  have r1:=eval_rel hF hm
  have r2:=eval_rel hF hk
  have r3:=eval_rel hF hx
  have hd:=keyQ_desc hq
  simp only [vcOp,rdK_iff] at h
  obtain ⟨hko,h⟩:=h
  have ik:=key_is hko r2
  generalize rd F rm=X at*
  cases X<;>first | exact h.elim | skip
  case map l v=>
    obtain ⟨es,hl,ho',hK⟩:=wMap_iff.1 h
    rw [wSet_iff] at hK
    simp only [Rel] at r1
    obtain ⟨b,hE,em⟩:=r1
    obtain ⟨b',en,cl,hE',hb,⟨hr,rfl,hbo⟩,hf⟩:=st.ok l _ hl
    rw [hE] at hE';cases hE'
    have fin: ∀ {w':World},(Instr.mapUpdate t (a.eval m) (a.eval k) (a.eval x)).run P w= .ok () w'→St E fz (S.set l (.mapo v (keyPut (rd F rk) (rd F rx) es))) w'→Ext E fz S w E fz (S.set l (.mapo v (keyPut (rd F rk) (rd F rx) es))) w'→RunsTo P ((execOp a.eval o).run P w) (Post K E fz S w):=fun {w'} hr q2 q3=>by
      have hrun:(execOp a.eval o).run P w= .ok .skip w':=by
        rcases ho with ho | ho<;>simp [execOp,ho,hr]
      rw [hrun]
      exact ⟨.junk,_,E,fz,hK.2,q3,q2,by simp [Rel]⟩
    rcases keyAt_rel hko r2 hr ho' 0 with ⟨g1,g2⟩ | ⟨j,y,me,g1,g2,g3,g4,g5⟩
    · have ek:keyPut (rd F rk) (rd F rx) es=es++[(rd F rk,rd F rx)]:=by unfold keyPut;rw [g1]
      rw [ek] at fin
      obtain ⟨q2,q3⟩:=put_map (es':=es++[(rd F rk,rd F rx)]) (en':=en.push {key:=a.eval k,val:=a.eval x,born:=en.size}) st hl hE hb hf rfl (relE_push hr r2 r3) (born_push hbo)
      refine fin ?_ q2 q3
      simp [Instr.mapUpdate,run_underlying ht,em,MapKept.run_getObj_map hb,MapKept.run_checkKey hd ik,MapKept.run_findKey hd g2,MapKept.run_setObj_map _ hb,Result.andThen]
    · have hj:en[j]?=some me:=by simpa using g3
      have ek:keyPut (rd F rk) (rd F rx) es=es.set j (rd F rk,rd F rx):=by unfold keyPut;rw [g1]
      rw [ek] at fin
      obtain ⟨q2,q3⟩:=put_map (es':=es.set j (rd F rk,rd F rx)) (en':=en.modify j fun e=>{e with key:=a.eval k,val:=a.eval x}) st hl hE hb hf rfl (relE_mod hr fun _ _=>⟨r2,r3⟩) (born_mod hbo fun _=>rfl)
      rw [mod_size] at q2 q3
      refine fin ?_ q2 q3
      simp [Instr.mapUpdate,run_underlying ht,em,MapKept.run_getObj_map hb,MapKept.run_checkKey hd ik,MapKept.run_findKey hd g2,hj,g4,MapKept.run_keyThatStays ik,MapKept.run_setObj_map _ hb,Result.andThen]
theorem ment_sound (st:St E fz S w) (hF:RelF E fz w F a.tmps) {o:Oper} {t kt e:TypeId} {m k:Operand} {rm rk:Rand} {q:KeyQ} {z:AVal} (ho:o.op= .mapEntry t m k) (ht:P.underlying t=some (.map kt e)) (hq:keyQ P kt=some q) (hz:mZero P e=some z) (hm:cRand m=some rm) (hk:cRand k=some rk)
    (h:vcOp P F S K (.ment q z rm rk)):RunsTo P ((execOp a.eval o).run P w) (Post K E fz S w):=by
  have r1:=eval_rel hF hm
  have r2:=eval_rel hF hk
  obtain ⟨zv,z1,z2⟩:=run_mZero hz
  have hd:=keyQ_desc hq
  simp only [vcOp,rdK_iff] at h
  obtain ⟨hko,h⟩:=h
  have ik:=key_is hko r2
  have zr:Rel E fz w z zv:=absV_rel z1
  generalize rd F rm=X at*
  cases X<;>first | exact h.elim | skip
  case map l v=>
    obtain ⟨es,hl,ho',hK⟩:=wMap_iff.1 h
    simp only [Rel] at r1
    obtain ⟨b,hE,em⟩:=r1
    obtain ⟨b',en,cl,hE',hb,⟨hr,rfl,hbo⟩,hf⟩:=st.ok l _ hl
    rw [hE] at hE';cases hE'
    have hlen:es.length=en.size:=by simpa using hr.get.1
    rcases keyAt_rel hko r2 hr ho' 0 with ⟨g1,g2⟩ | ⟨j,y,me,g1,g2,g3,g4,g5⟩
    · rw [g1] at hK
      simp only [wSet_iff] at hK
      obtain ⟨q2,q3⟩:=put_map (es':=es++[(rd F rk,z)]) (en':=en.push {key:=a.eval k,val:=zv,born:=en.size}) st hl hE hb hf rfl (relE_push hr r2 zr) (born_push hbo)
      refine runs_of st (v:= .tuple #[zv,goInt en.size]) (w':={w with heap:=w.heap.setIfInBounds b (.map (en.push {key:=a.eval k,val:=zv,born:=en.size}) (en.push {key:=a.eval k,val:=zv,born:=en.size}).size)}) ?_ ⟨_,_,E,fz,hK.2,q3,q2,?_⟩
      · simp [execOp,ho,Instr.mapEntry,run_underlying ht,em,MapKept.run_getObj_map hb,MapKept.run_checkKey hd ik,MapKept.run_findKey hd g2,MapKept.run_setObj_map _ hb,z2,Result.andThen]
      · rw [hlen]
        exact ⟨[zv,goInt en.size],rfl,⟨_,_,rfl,absV_rel z1,⟨_,_,rfl,rfl,rfl⟩⟩⟩
    · have hj:en[j]?=some me:=by simpa using g3
      rw [g1] at hK
      simp only [wSet_iff] at hK
      obtain ⟨q2,q3⟩:=put_map (es':=es.set j (rd F rk,y)) (en':=en.modify j fun e=>{e with key:=a.eval k}) st hl hE hb hf rfl (relE_mod hr fun m hm'=>⟨r2,by rw [hj] at hm';cases hm';exact g5⟩) (born_mod hbo fun _=>rfl)
      rw [mod_size] at q2 q3
      refine runs_of st (v:= .tuple #[me.val,goInt j]) (w':={w with heap:=w.heap.setIfInBounds b (.map (en.modify j fun e=>{e with key:=a.eval k}) en.size)}) ?_ ⟨_,_,E,fz,hK.2,q3,q2,?_⟩
      · simp [execOp,ho,Instr.mapEntry,run_underlying ht,em,MapKept.run_getObj_map hb,MapKept.run_checkKey hd ik,MapKept.run_findKey hd g2,hj,g4,MapKept.run_keyThatStays ik,MapKept.run_setObj_map _ hb,hbo j me hj,Result.andThen]
      · exact ⟨[me.val,goInt j],rfl,⟨_,_,rfl,St.rel st q3 g5,⟨_,_,rfl,rfl,rfl⟩⟩⟩
theorem mset_sound (st:St E fz S w) (hF:RelF E fz w F a.tmps) {o:Oper} {t:TypeId} {m i x:Operand} {rm ri rx:Rand} (ho:o.op= .entryStore t m i x) (hm:cRand m=some rm) (hi:cRand i=some ri) (hx:cRand x=some rx)
    (h:vcOp P F S K (.mset rm ri rx)):RunsTo P ((execOp a.eval o).run P w) (Post K E fz S w):=by
  have r1:=eval_rel hF hm
  have r2:=eval_rel hF hi
  have r3:=eval_rel hF hx
  simp only [vcOp,rdK_iff] at h
  obtain ⟨kk,j,ej,h⟩:=wIdx_iff h
  rw [ej] at r2
  simp only [Rel] at r2
  generalize rd F rm=X at*
  cases X<;>first | exact h.elim | skip
  case map l v _=>
    obtain ⟨es,hl,hK⟩:=wMap_iff.1 h
    split at hK
    · rename_i en0 hes
      rw [wSet_iff] at hK
      simp only [Rel] at r1
      obtain ⟨b,hE,em⟩:=r1
      obtain ⟨b',en,cl,hE',hb,⟨hr,rfl,hbo⟩,hf⟩:=st.ok l _ hl
      rw [hE] at hE';cases hE'
      obtain ⟨hlen,hget⟩:=hr.get
      have hjl:j<en.size:=by have:=(List.getElem?_eq_some_iff.1 hes).1;simp at hlen;omega
      obtain ⟨me,hme⟩: ∃me,en[j]?=some me:=⟨_,Array.getElem?_eq_getElem hjl⟩
      obtain ⟨k',v',b1,b2,b3⟩:=hget j me (by simpa using hme)
      rw [hes] at b1;cases b1
      have hfi:en.findIdx? (fun e=>(e.born:Int) == (j:Int))=some j:=by
        rw [Array.findIdx?_eq_some_iff_getElem]
        refine ⟨hjl,?_,fun i hij=>?_⟩
        · have:=hbo j _ (Array.getElem?_eq_getElem hjl)
          simp [this]
        · have:=hbo i _ (Array.getElem?_eq_getElem (by omega))
          simp only [this,Bool.not_eq_true,beq_eq_false_iff_ne]
          omega
      obtain ⟨q2,q3⟩:=put_map (es':=es.set j (k',rd F rx)) (en':=en.modify j fun e=>{e with val:=a.eval x}) st hl hE hb hf rfl (relE_mod hr fun m hm'=>⟨by rw [hme] at hm';cases hm';exact b2,r3⟩) (born_mod hbo fun _=>rfl)
      rw [mod_size] at q2 q3
      have hrun:(execOp a.eval o).run P w= .ok .skip {w with heap:=w.heap.setIfInBounds b (.map (en.modify j fun e=>{e with val:=a.eval x}) en.size)}:=by
        simp [execOp,ho,Instr.entryStore,em,MapKept.run_getObj_map hb,r2,asInt,asIntOf,hfi,MapKept.run_setObj_map _ hb,Result.andThen]
      rw [hrun]
      exact ⟨.junk,_,E,fz,hK.2,q3,q2,by simp [Rel]⟩
    · exact hK.elim
theorem map_at (st:St E fz S w) {l v:Nat} {es:List (AVal×AVal)} (hl:S[l]?=some (.mapo v es)): ∃b en,E v=some (.mapb b)∧w.heap[b]?=some (.map en en.size)∧RelE E fz w es en.toList∧(∀(i:Nat) m,en[i]?=some m→m.born=i)∧ ¬fz b:=by
  obtain ⟨b,en,cl,h1,h2,⟨h3,rfl,h4⟩,h5⟩:=st.ok l _ hl
  exact ⟨b,en,h1,h2,h3,h4,h5⟩
theorem new_iter (st:St E fz S w) {mv m since:Nat} (hm:E mv=some (.mapb m)) {w':World} (hw:w'.heap=w.heap.push (.mapIter (some m) since #[] since)) (g1:w'.os=w.os) (g2:w'.output=w.output) (g3:Tp w w'):
    ∃ver E',E' ver=some (.real w.heap.size 0 0 0)∧St E' fz (S++[.itero ver mv since since []]) w'∧Ext E fz S w E' fz (S++[.itero ver mv since since []]) w':=by
  obtain ⟨n,hn⟩:=st.fresh
  have hE: ∀v x,E v=some x→(fun v=>if v=n then some (Bk.real w.heap.size 0 0 0) else E v) v=some x:=fun v x hx=>by
    have:v≠n:=fun e=>by subst e;rw [hn v (Nat.le_refl _)] at hx;cases hx
    simp [this,hx]
  have hlt: ∀b:Nat,b<w.heap.size→w'.heap[b]?=w.heap[b]?:=fun b hb=>by
    rw [hw,Array.getElem?_push,if_neg (by omega)]
  have hnew:w'.heap[w.heap.size]?=some (.mapIter (some m) since #[] since):=by rw [hw];simp
  refine ⟨n,fun v=>if v=n then some (.real w.heap.size 0 0 0) else E v,by simp,
    st.upd S.length (.itero n mv since since []) hE ⟨n+1,fun v hv=>by simp [hn v (by omega),show v≠n by omega]⟩ (fun l' hl'=>?_) (by simp) (by rw [hw];simp) (fun b hb _=>hlt b hb) (fun b hb=>.inr ?_) ?_ g1 g2 g3⟩
  · rw [List.getElem?_append]
    split
    · rfl
    · rename_i hh
      rw [List.getElem?_eq_none (by simp;omega),List.getElem?_eq_none (by omega)]
  · simp [obBlock] at hb;omega
  · exact ⟨w.heap.size,m,by simp,hE _ _ hm,hnew,Nat.le_refl _,fun hf=>by have:=st.fzlt _ hf;omega⟩
theorem mrange_sound (st:St E fz S w) (hF:RelF E fz w F a.tmps) {o:Oper} {t k e:TypeId} {x:Operand} {r:Rand} (ho:o.op= .range t x) (ht:P.underlying t=some (.map k e)) (hx:cRand x=some r)
    (h:vcOp P F S K (.mrange r)):RunsTo P ((execOp a.eval o).run P w) (Post K E fz S w):=by
  have r1:=eval_rel hF hx
  simp only [vcOp,rdK_iff] at h
  generalize rd F r=X at*
  cases X<;>first | exact h.elim | skip
  case map l v=>
    obtain ⟨es,hl,h⟩:=wMap_iff.1 h
    simp only [wPush_iff] at h
    simp only [Rel] at r1
    obtain ⟨b,hE,em⟩:=r1
    obtain ⟨b',en,hE',hb,hr,hbo,hf⟩:=map_at st hl
    rw [hE] at hE';cases hE'
    have hlen:es.length=en.size:=by simpa using hr.get.1
    rw [hlen] at h
    obtain ⟨ver,E',q1,q2,q3⟩:=new_iter (mv:=v) (m:=b) (since:=en.size) st hE (w':=w.alloc (.mapIter (some b) en.size #[] en.size)) rfl rfl rfl (Tp.of rfl (Nat.le_refl _))
    refine runs_of st (v:= .pointer (some ⟨w.heap.size,0,none⟩)) (w':=w.alloc (.mapIter (some b) en.size #[] en.size)) ?_ ⟨.ptr S.length ver 0,_,E',fz,h ver,q3,q2,by simp only [Rel];exact ⟨_,0,_,_,q1,rfl⟩⟩
    simp [execOp,ho,Instr.range,run_underlying ht,em,MapKept.run_getObj_map hb,Result.andThen]
theorem mnext_sound (st:St E fz S w) (hF:RelF E fz w F a.tmps) {o:Oper} {x:Operand} {r:Rand} (ho:o.op= .next x false) (hx:cRand x=some r)
    (h:vcOp P F S K (.mnext r)):RunsTo P ((execOp a.eval o).run P w) (Post K E fz S w):=by
  have r1:=eval_rel hF hx
  simp only [vcOp,rdK_iff] at h
  generalize rd F r=X at*
  cases X<;>first | exact h.elim | skip
  case ptr l v off=>
    cases off with
    | succ off=>exact h.elim
    | zero=>
      obtain ⟨mv,since,last,seen,hl,lm,es,hlm,hsz,hend,hstep⟩:=wIter_iff.1 h
      simp only [Rel] at r1
      obtain ⟨b0,base,cap,kk,hE,ev⟩:=r1
      obtain ⟨bQ,m,hE1,hEm,hit,hsl,hf⟩:=st.ok l _ hl
      rw [hE1] at hE;cases hE
      obtain ⟨m',en,hEm',hb,hr,hbo,hfm⟩:=map_at st hlm
      rw [hEm] at hEm';cases hEm'
      have hlen:es.length=en.size:=by simpa using hr.get.1
      have hold: ∀x∈en.toList,x.born<since:=fun x hx=>by
        obtain ⟨i,hi,rfl⟩:=List.getElem_of_mem hx
        have hi':i<en.size:=by simpa using hi
        have:=hbo i en[i] (Array.getElem?_eq_getElem hi')
        simp only [Array.getElem_toList,this];omega
      rcases run_next_at (P:=P) w o.type b0 m since last seen.toArray en en.size hit hb hold hsl with ⟨h0,hrun⟩ | ⟨e,hmem,w1,hw1,hrun⟩
      · refine runs_pure st (v:= .tuple #[.bool false]) (x:= .tup [.bool false]) (by simp only [execOp,ho,ev,Nat.add_zero];simp [hrun]) (hend fun i hi=>?_) ⟨[.bool false],rfl,⟨_,_,rfl,rfl,rfl⟩⟩
        refine Classical.byContradiction fun hn=>?_
        have hi':i<en.size:=by omega
        have:en[i]∈(leftOf en seen.toArray):=by
          unfold leftOf
          rw [Array.mem_filter]
          refine ⟨Array.getElem_mem hi',?_⟩
          rw [hbo i _ (Array.getElem?_eq_getElem hi')]
          simpa using hn
        have:=Array.size_pos_of_mem this
        omega
      · have hmem:e∈leftOf en seen.toArray:=by simpa using hmem
        unfold leftOf at hmem
        rw [Array.mem_filter] at hmem
        obtain ⟨i,hi,he⟩:=Array.getElem_of_mem hmem.1
        have hei:en[i]?=some e:=by rw [Array.getElem?_eq_getElem hi,he]
        have hbi:=hbo i e hei
        have hns:i ∉ seen:=by
          have:=hmem.2
          rw [hbi] at this
          simpa using this
        obtain ⟨k',v',hes,hk,hv⟩:=hr.get.2 i e (by simpa using hei)
        have hK:=hstep i (k',v') hes hns
        rw [wSet_iff,hlen] at hK
        have hw1h:w1.heap=w.heap:=by rcases hw1 with rfl | rfl<;>rfl
        have hltb:b0<w.heap.size:=(Array.getElem?_eq_some_iff.1 hit).1
        have hit':(Go.ChangeMaps.setBlock w1 b0 (.mapIter (some m) since (seen.toArray.push e.born) en.size)).heap=w.heap.setIfInBounds b0 (.mapIter (some m) since (seen.toArray.push e.born) en.size):=by
          unfold Go.ChangeMaps.setBlock;rw [hw1h]
        obtain ⟨k1,k2⟩:=MapKept.heap_set (o':= .mapIter (some m) since (seen.toArray.push e.born) en.size) hit
        have own:OwnAt E S l b0:=⟨_,hl,by simp [obBlock,hE1]⟩
        obtain ⟨q2,q3⟩:=st.upd (E':=E) (S':=S.set l (.itero v mv since en.size (seen++[i]))) (w':=Go.ChangeMaps.setBlock w1 b0 (.mapIter (some m) since (seen.toArray.push e.born) en.size)) l (.itero v mv since en.size (seen++[i])) (fun _ _ h=>h) st.fresh
          (fun l' hl'=>by rw [List.getElem?_set_ne (Ne.symm hl')]) (by simp [hK.1]) (by rw [hit'];simp) (fun b' hb' hno=>by rw [hit'];exact k2 b' fun e=>hno (e▸own))
          (fun b' hb'=>.inl (by simp only [obBlock,hE1,Option.some.injEq] at hb';subst hb';exact own))
          ⟨b0,m,hE1,hEm,by rw [hit',k1,hbi];simp,by omega,hf⟩ (by rcases hw1 with rfl | rfl<;>rfl) (by rcases hw1 with rfl | rfl<;>rfl)
          (by rcases hw1 with rfl | rfl
              · exact Tp.of rfl (Nat.le_refl _)
              · exact Tp.of rfl (by show w.drawn≤w.drawn+1;omega))
        refine runs_of st (v:= .tuple #[.bool true,e.key,e.val]) (w':=Go.ChangeMaps.setBlock w1 b0 (.mapIter (some m) since (seen.toArray.push e.born) en.size)) (by simp only [execOp,ho,ev,Nat.add_zero];simp [hrun]) ⟨_,_,E,fz,hK.2,q3,q2,?_⟩
        exact ⟨[.bool true,e.key,e.val],rfl,⟨_,_,rfl,rfl,⟨_,_,rfl,St.rel st q3 hk,⟨_,_,rfl,St.rel st q3 hv,rfl⟩⟩⟩⟩
theorem mentry_sound (st:St E fz S w) (hF:RelF E fz w F a.tmps) {o:Oper} {x:Operand} {r:Rand} (ho:o.op= .entry x) (hx:cRand x=some r)
    (h:vcOp P F S K (.mentry r)):RunsTo P ((execOp a.eval o).run P w) (Post K E fz S w):=by
  have r1:=eval_rel hF hx
  simp only [vcOp,rdK_iff] at h
  generalize rd F r=X at*
  cases X<;>first | exact h.elim | skip
  case ptr l v off=>
    cases off with
    | succ off=>exact h.elim
    | zero=>
      obtain ⟨mv,since,last,seen,hl,lm,es,i,e,hlm,hlast,hseen,hes,hK⟩:=wIter_iff.1 h
      simp only [Rel] at r1
      obtain ⟨b0,base,cap,kk,hE,ev⟩:=r1
      obtain ⟨bQ,m,hE1,hEm,hit,hsl,hf⟩:=st.ok l _ hl
      rw [hE1] at hE;cases hE
      obtain ⟨m',en,hEm',hb,hr,hbo,hfm⟩:=map_at st hlm
      rw [hEm] at hEm';cases hEm'
      have hlen:es.length=en.size:=by simpa using hr.get.1
      have hi:i<en.size:=by have:=(List.getElem?_eq_some_iff.1 hes).1;omega
      have hei:en[i]?=some en[i]:=Array.getElem?_eq_getElem hi
      have hbi:=hbo i _ hei
      obtain ⟨k',v',hes',hk,hv⟩:=hr.get.2 i en[i] (by rw [Array.getElem?_toList];exact hei)
      rw [hes] at hes';cases hes'
      have hnd:(en.toList.map (·.born)).Nodup:=by
        have:en.toList.map (·.born)=List.range en.size:=by
          refine List.ext_getElem (by simp) fun j h1 h2=>?_
          simp only [List.getElem_map,Array.getElem_toList,List.getElem_range]
          exact hbo j _ (Array.getElem?_eq_getElem (by simpa using h1))
        rw [this];exact List.nodup_range
      obtain ⟨s0,rfl⟩: ∃s0,seen=s0++[i]:=by
        obtain ⟨hne,hg⟩:=List.getLast?_eq_some_iff.1 hseen
        exact ⟨_,hg⟩
      have hit2:w.heap[b0]?=some (.mapIter (some m) since (s0.toArray.push (en[i]).born) en.size):=by
        rw [hit,hbi,hlast,hlen];simp
      have hrun:=run_entry_at (P:=P) w b0 m since s0.toArray en en.size en[i] hit2 hb (by simp) hnd
      exact runs_pure st (v:= .tuple #[(en[i]).key,(en[i]).val]) (by simp only [execOp,ho,ev,Nat.add_zero];simp [hrun]) hK ⟨[_,_],rfl,⟨_,_,rfl,hk,⟨_,_,rfl,hv,rfl⟩⟩⟩
theorem foldl_put (off:Nat): ∀(l:List Value) (i:Nat) (cs:Array Value),off+i+l.length≤cs.size→ ∀j,((l.zipIdx i).foldl (fun cs (x:Value×Nat)=>cs.setIfInBounds (off+x.2) x.1) cs)[j]?=
    if off+i≤j∧j<off+i+l.length then l[j-(off+i)]? else cs[j]?
  | [],i,cs,_,j=>by simp;omega
  | v::l,i,cs,h,j=>by
    simp only [List.length_cons] at h
    simp only [List.zipIdx_cons,List.foldl_cons]
    rw [foldl_put off l (i+1) (cs.setIfInBounds (off+i) v) (by simp;omega) j]
    simp only [List.length_cons,Array.getElem?_setIfInBounds]
    by_cases e:j=off+i
    · subst e
      rw [if_neg (by omega),if_pos rfl,if_pos (by omega),if_pos (by omega)]
      simp
    · by_cases e2:off+i≤j∧j<off+i+(l.length+1)
      · rw [if_pos (by omega),if_pos e2,show j-(off+i)=(j-(off+(i+1)))+1 by omega]
        simp
      · rw [if_neg (by omega),if_neg (fun h=>e h.symm),if_neg e2]
theorem foldl_put_size (off:Nat): ∀(l:List Value) (i:Nat) (cs:Array Value),((l.zipIdx i).foldl (fun cs (x:Value×Nat)=>cs.setIfInBounds (off+x.2) x.1) cs).size=cs.size
  | [],i,cs=>by simp
  | v::l,i,cs=>by simp only [List.zipIdx_cons,List.foldl_cons];rw [foldl_put_size off l (i+1)];simp
theorem fill_go (hF:RelF E fz w F a.tmps) (place:Nat→Option (Nat×Nat)): ∀(parts:List (Nat×Operand)) (ps:List (Nat×Nat×Rand)) (cs:List AVal) (arr:Array Value) {Q:List AVal→Prop},
    ps.length=parts.length→(∀(j:Nat) i x off n r,parts[j]?=some (i,x)→ps[j]?=some (off,n,r)→place i=some (off,n)∧cRand x=some r)→
    RelL E fz w cs arr.toList→(∀c∈arr.toList,c.oneCell'=true)→wFill F cs Q ps→
    ∃(cs':List AVal) (arr':Array Value),Instr.fill place arr (parts.map fun (i,x)=>(i,a.eval x))=some arr'∧Q cs'∧RelL E fz w cs' arr'.toList∧(∀c∈arr'.toList,c.oneCell'=true)∧cs'.length=cs.length
  | [],[],cs,arr,Q,_,_,hr,h1,h=>⟨cs,arr,rfl,h,hr,h1,rfl⟩
  | [],p::ps,cs,arr,Q,hl,_,_,_,_=>by simp at hl
  | q::parts,[],cs,arr,Q,hl,_,_,_,_=>by simp at hl
  | (i,x)::parts,(off,n,r)::ps,cs,arr,Q,hl,hp,hr,h1,h=>by
    obtain ⟨hplace,hxr⟩:=hp 0 i x off n r rfl rfl
    simp only [wFill,rdK_iff] at h
    obtain ⟨ys,⟨hyl,hfit,hk⟩,hys,hone⟩:=wCells_rel h (eval_rel hF hxr)
    simp only [setCellsK_iff] at hk
    have hcl:(a.eval x).cells.size=n:=by have:=hys.length;simp at this;omega
    have harr:arr.size=cs.length:=by have:=hr.length;simpa using this
    have hget:=foldl_put off (a.eval x).cells.toList 0 arr (by simp;omega)
    have hsz:=foldl_put_size off (a.eval x).cells.toList 0 arr
    generalize hg:((a.eval x).cells.toList.zipIdx 0).foldl (fun cs (x:Value×Nat)=>cs.setIfInBounds (off+x.2) x.1) arr=arr1 at hget hsz
    have hr':RelL E fz w (setCells cs off ys) arr1.toList:=by
      refine RelL.mk (by rw [setCells_length];simp;omega) fun j y v hy hv=>?_
      rw [setCells_get cs off ys j (by omega)] at hy
      rw [Array.getElem?_toList,hget] at hv
      split at hy
      · rename_i hh
        rw [if_pos (by simp;omega)] at hv
        obtain ⟨v',q1,q2⟩:=hys.get hy
        simp only [Nat.add_zero] at hv
        rw [hv] at q1;cases q1;exact q2
      · rename_i hh
        rw [if_neg (by simp;omega)] at hv
        obtain ⟨v',q1,q2⟩:=hr.get hy
        rw [Array.getElem?_toList,hv] at q1;cases q1;exact q2
    have h1': ∀c∈arr1.toList,c.oneCell'=true:=fun c hc=>by
      obtain ⟨j,hj,e⟩:=List.mem_iff_getElem.1 hc
      have hv:arr1[j]?=some c:=by rw [←Array.getElem?_toList,List.getElem?_eq_getElem hj,e]
      rw [hget] at hv
      split at hv
      · exact hone c (List.mem_of_getElem? hv)
      · exact h1 c (by rw [←Array.getElem?_toList] at hv;exact List.mem_of_getElem? hv)
    obtain ⟨cs',arr',p1,p2,p3,p4,p5⟩:=fill_go hF place parts ps (setCells cs off ys) arr1 (by simpa using hl) (fun j i' x' off' n' r' g1 g2=>hp (j+1) i' x' off' n' r' (by simpa using g1) (by simpa using g2)) hr' h1' hk
    refine ⟨cs',arr',?_,p2,p3,p4,by rw [p5,setCells_length]⟩
    simp only [List.map_cons,Instr.fill,hplace]
    rw [if_neg (by simp [hcl];omega)]
    refine Eq.trans (congrArg (fun z=>Instr.fill place z _) ?_) p1
    rw [←hg,←Array.foldl_toList,Array.toList_zipIdx]
theorem structParts_ok {fs:Array Field}: ∀ {parts:List (Nat×Operand)} {ps:List (Nat×Nat×Rand)},cStructParts P fs parts=some ps→ps.length=parts.length∧
    ∀(j:Nat) i x off n r,parts[j]?=some (i,x)→ps[j]?=some (off,n,r)→(∃f,fs[i]?=some f∧f.offset=off∧tSize P f.type=some n)∧cRand x=some r
  | [],ps,h=>by simp [cStructParts] at h;subst h;simp
  | (i,x)::rest,ps,h=>by
    simp only [cStructParts] at h
    split at h
    · rename_i f r qs h1 h2 h3
      split at h
      · rename_i n hn
        cases h
        have ih:=structParts_ok h3
        refine ⟨by simp [ih.1],fun j i' x' off n' r' g1 g2=>?_⟩
        cases j with
        | zero=>simp at g1 g2;obtain ⟨rfl,rfl⟩:=g1;obtain ⟨rfl,rfl,rfl⟩:=g2;exact ⟨⟨f,h1,rfl,hn⟩,h2⟩
        | succ j=>exact ih.2 j i' x' off n' r' (by simpa using g1) (by simpa using g2)
      · cases h
    · cases h
theorem rowParts_ok {k:Nat}: ∀ {parts:List (Nat×Operand)} {ps:List (Nat×Nat×Rand)},cRowParts k parts=some ps→ps.length=parts.length∧
    ∀(j:Nat) i x off n r,parts[j]?=some (i,x)→ps[j]?=some (off,n,r)→(off=i*k∧n=k)∧cRand x=some r
  | [],ps,h=>by simp [cRowParts] at h;subst h;simp
  | (i,x)::rest,ps,h=>by
    simp only [cRowParts] at h
    split at h
    · rename_i r qs h2 h3
      cases h
      have ih:=rowParts_ok h3
      refine ⟨by simp [ih.1],fun j i' x' off n' r' g1 g2=>?_⟩
      cases j with
      | zero=>simp at g1 g2;obtain ⟨rfl,rfl⟩:=g1;obtain ⟨rfl,rfl,rfl⟩:=g2;exact ⟨⟨rfl,rfl⟩,h2⟩
      | succ j=>exact ih.2 j i' x' off n' r' (by simpa using g1) (by simpa using g2)
    · cases h
theorem mapM_places {fs:Array Field} (hs: ∀f∈fs.toList,∃n,tSize P f.type=some n): ∃pl:Array (Nat×Nat),(fs.mapM fun f=>(do pure (f.offset,←sizeOf f.type):Sem (Nat×Nat))).run P w= .ok pl w∧
    ∀(i:Nat) f n,fs[i]?=some f→tSize P f.type=some n→pl[i]?=some (f.offset,n):=by
  rw [Array.mapM_eq_mapM_toList]
  have key: ∀l:List Field,(∀f∈l,∃n,tSize P f.type=some n)→ ∃pl:List (Nat×Nat),(l.mapM fun f=>(do pure (f.offset,←sizeOf f.type):Sem (Nat×Nat))).run P w= .ok pl w∧
      ∀(i:Nat) f n,l[i]?=some f→tSize P f.type=some n→pl[i]?=some (f.offset,n):=by
    intro l
    induction l with
    | nil=>intro _;exact ⟨[],by simp,by simp⟩
    | cons f l ih=>
      intro h
      obtain ⟨pl,h1,h2⟩:=ih fun g hg=>h g (by simp [hg])
      obtain ⟨n,hn⟩:=h f (by simp)
      refine ⟨(f.offset,n)::pl,by simp only [List.mapM_cons,Sem.run_bind,run_size hn,Result.andThen_ok,Sem.run_pure,h1],fun i g m hg hm=>?_⟩
      cases i with
      | zero=>simp at hg;subst hg;rw [hn] at hm;cases hm;rfl
      | succ i=>simpa using h2 i g m (by simpa using hg) hm
  obtain ⟨pl,h1,h2⟩:=key fs.toList hs
  exact ⟨pl.toArray,by rw [Sem.run_map,h1];rfl,fun i f n hf hn=>by simpa using h2 i f n (by simpa using hf) hn⟩
theorem build_struct_sound (st:St E fz S w) (hF:RelF E fz w F a.tmps) {o:Oper} {t:TypeId} {parts:Array (Nat×Operand)} {ps:List (Nat×Nat×Rand)} {z:List AVal} {fs:Array Field} (ho:o.op= .build t parts) (ht:P.underlying t=some (.struct fs)) (hz:tZero P t=some z) (hs: ∀f∈fs.toList,∃n,tSize P f.type=some n) (hps:cStructParts P fs parts.toList=some ps)
    (h:vcOp P F S K (.build z ps)):RunsTo P ((execOp a.eval o).run P w) (Post K E fz S w):=by
  simp only [vcOp] at h
  obtain ⟨v,g1,g2,g3⟩:=run_zero hz w
  obtain ⟨pl,p1,p2⟩:=mapM_places (P:=P) (w:=w) hs
  obtain ⟨q1,q2⟩:=structParts_ok hps
  obtain ⟨cs',arr',r1,r2,r3,r4,_⟩:=fill_go hF (pl[·]?) parts.toList ps z v.cells q1 (fun j i x off n r e1 e2=>by
    obtain ⟨⟨f,h1,h2,h3⟩,h4⟩:=q2 j i x off n r e1 e2
    exact ⟨by rw [p2 i f n h1 h3,h2],h4⟩) (g2 E fz w) g3 h
  refine runs_pure st (v:= .agg arr') ?_ r2 ?_
  · have e:(parts.map fun (i,x)=>(i,a.eval x)).toList=parts.toList.map fun (i,x)=>(i,a.eval x):=by simp
    simp only [execOp,ho,Instr.build,Sem.run_bind,g1,Result.andThen_ok,run_underlying ht,p1,e,r1,Sem.run_pure]
  · simp only [Rel];exact ⟨arr'.toList,by simp,r3,r4⟩
theorem build_array_sound (st:St E fz S w) (hF:RelF E fz w F a.tmps) {o:Oper} {t e:TypeId} {parts:Array (Nat×Operand)} {ps:List (Nat×Nat×Rand)} {z:List AVal} {len n:Nat} (ho:o.op= .build t parts) (ht:P.underlying t=some (.array len e)) (hz:tZero P t=some z) (hn:tSize P e=some n) (hps:cRowParts n parts.toList=some ps)
    (h:vcOp P F S K (.build z ps)):RunsTo P ((execOp a.eval o).run P w) (Post K E fz S w):=by
  simp only [vcOp] at h
  obtain ⟨v,g1,g2,g3⟩:=run_zero hz w
  obtain ⟨q1,q2⟩:=rowParts_ok hps
  obtain ⟨cs',arr',r1,r2,r3,r4,_⟩:=fill_go hF (fun i=>some (i*n,n)) parts.toList ps z v.cells q1 (fun j i x off n' r e1 e2=>by
    obtain ⟨⟨h1,h2⟩,h4⟩:=q2 j i x off n' r e1 e2
    exact ⟨by rw [h1,h2],h4⟩) (g2 E fz w) g3 h
  refine runs_pure st (v:= .agg arr') ?_ r2 ?_
  · have e:(parts.map fun (i,x)=>(i,a.eval x)).toList=parts.toList.map fun (i,x)=>(i,a.eval x):=by simp
    simp only [execOp,ho,Instr.build,Sem.run_bind,g1,Result.andThen_ok,run_underlying ht,run_size hn,e,r1,Sem.run_pure]
  · simp only [Rel];exact ⟨arr'.toList,by simp,r3,r4⟩
theorem freeze_new (st:St E fz S w) {cs:List AVal} {arr:Array Value} {T:TypeId} (hr:RelL E fz w cs arr.toList) (h1: ∀c∈arr.toList,c.oneCell'=true):
    St E (fun b=>fz b∨b=w.heap.size) S (w.alloc (.cells arr T))∧Ext E fz S w E (fun b=>fz b∨b=w.heap.size) S (w.alloc (.cells arr T))∧
      RelC E (fun b=>fz b∨b=w.heap.size) (w.alloc (.cells arr T)) w.heap.size 0 cs:=by
  have hlt: ∀b:Nat,b<w.heap.size→(w.alloc (.cells arr T)).heap[b]?=w.heap[b]?:=fun b hb=>by
    simp only [World.alloc];rw [Array.getElem?_push,if_neg (by omega)]
  have hnew:(w.alloc (.cells arr T)).heap[w.heap.size]?=some (.cells arr T (0,0)):=by
    show (w.heap.push _)[w.heap.size]?=_
    simp
  refine ⟨⟨fun l o hl=>?_,st.sep,fun b hb=>?_,st.fresh⟩,⟨fun _ _ h=>h,fun _ h=>.inl h,fun b hb=>?_,fun b hb _=>hlt b hb,fun _ h=>.inl h,by simp,rfl,rfl,(Tp.of rfl (Nat.le_refl _))⟩,RelC.mk fun i x hx=>?_⟩
  · refine (st.ok l o hl).mono (fun _ _ h=>h) (fun _ h=>.inl h) (fun b hb=>hlt b (st.fzlt b hb)) fun b hb=>?_
    have:=st.own_lt ⟨o,hl,hb⟩
    exact ⟨hlt b this.1,fun h=>h.elim this.2 fun e=>by omega⟩
  · rcases hb with hb | rfl
    · have:=st.fzlt b hb;simp;omega
    · simp
  · rcases hb with hb | rfl
    · exact .inl hb
    · exact .inr (.inr (Nat.le_refl _))
  · obtain ⟨v,hv,hrel⟩:=hr.get hx
    refine ⟨v,?_,h1 v (List.mem_of_getElem? hv),hrel.mono (fun _ _ h=>h) (fun _ h=>.inl h) (fun b hb=>hlt b (st.fzlt b hb))⟩
    rw [cell_mk hnew,Nat.zero_add,←Array.getElem?_toList]
    exact hv
theorem bslice_sound {kr:Nat} (st:St E fz S w) (hF:RelF E fz w F a.tmps) {o:Oper} {t e:TypeId} {parts:Array (Nat×Operand)} {ps:List (Nat×Nat×Rand)} {z:List AVal} {len n:Nat} (ho:o.op= .buildSlice t len parts) (ht:P.underlying t=some (.slice e)) (hn:tSize P e=some n) (hz:tZero P e=some z) (hlim:len*n≤2 ^ 24) (h0:0<n) (hzl:z.length=n) (hps:cRowParts n parts.toList=some ps)
    (hkr:kr≤n) (h:vcOp P F S K (.bslice ro len kr (List.replicate len z).flatten ps)):RunsTo P ((execOp a.eval o).run P w) (Post K E fz S w):=by
  simp only [vcOp] at h
  obtain ⟨v,g1,g2,g3⟩:=run_zero hz w
  obtain ⟨q1,q2⟩:=rowParts_ok hps
  obtain ⟨m1,m2⟩:=made_rel (g2 E fz w) g3 (by omega) len
  rw [hzl] at m1 m2
  obtain ⟨cs',arr',r1,r2,r3,r4,r5⟩:=fill_go hF (fun i=>some (i*n,n)) parts.toList ps _ (madeCells v.cells (len*n)) q1 (fun j i x off n' r e1 e2=>by
    obtain ⟨⟨h1,h2⟩,h4⟩:=q2 j i x off n' r e1 e2
    exact ⟨by rw [h1,h2],h4⟩) m1 m2 h
  have hlen:arr'.toList.length=len*n:=by rw [r3.length,r5,flatten_rep_length,hzl]
  have hrun:(execOp a.eval o).run P w= .ok (.value (.slice (some ⟨w.heap.size,0,none⟩) len len)) (w.alloc (.cells arr' e)):=by
    have e1:(parts.map fun (i,x)=>(i,a.eval x)).toList=parts.toList.map fun (i,x)=>(i,a.eval x):=by simp
    by_cases hl0:len*n=0
    · have hlen0:len=0:=by
        rcases Nat.mul_eq_zero.1 hl0 with h | h
        · exact h
        · omega
      have e2:madeCells v.cells (len*n)=(Array.range (len*n)).map ((#[]:Array Value)[· %0]!):=by rw [hl0];simp [madeCells,Array.range_zero']
      simp only [execOp,ho,Instr.buildSlice,Sem.run_bind,run_underlying ht,Result.andThen_ok,run_size hn]
      rw [if_neg (by omega),if_pos hl0]
      rw [e2] at r1
      simp only [Sem.run_bind,Sem.run_pure,Result.andThen_ok,e1]
      simp only [List.size_toArray,List.length_nil] at*
      rw [r1]
      rfl
    · simp only [execOp,ho,Instr.buildSlice,Sem.run_bind,run_underlying ht,Result.andThen_ok,run_size hn]
      rw [if_neg (by omega),if_neg hl0]
      simp only [Sem.run_bind,g1,Sem.run_pure,Result.andThen_ok,e1]
      have:(Array.range (len*n)).map (v.cells[· %v.cells.size]!)=madeCells v.cells (len*n):=rfl
      rw [this,r1]
      rfl
  cases ro
  · simp only [wPush_iff] at r2
    obtain ⟨ver,E',p1,p2,p3⟩:=new_row (w':=w.alloc (.cells arr' e)) st (rest:=[]) (T:=e) kr r3 r4 (by rw [List.append_nil];rfl) rfl rfl (Tp.of rfl (Nat.le_refl _))
    refine runs_of st hrun ⟨.sl S.length ver 0 len,_,E',fz,r2 ver,p3,p2,?_⟩
    simp only [Rel]
    have hm:=Nat.mul_le_mul_left len hkr
    exact .inr ⟨_,_,_,_,len,p1,Nat.le_refl _,by simp at hlen ⊢;omega,rfl⟩
  · obtain ⟨p1,p2,p3⟩:=freeze_new (T:=e) st r3 r4
    refine runs_of st hrun ⟨.ros len cs',S,E,_,r2,p2,p1,?_⟩
    simp only [Rel]
    exact .inr ⟨w.heap.size,0,len,.inr rfl,Nat.le_refl _,rfl,p3⟩
end
end Go.Vc
end
section
namespace Go.Vc
section
variable {P : Program} {E : Env} {fz : Nat → Prop} {S : Store} {w : World} {F : Frame} {a : Act} {K : AVal → Store → Prop} {ro : Bool}
theorem src_rel (st:St E fz S w) {k:Nat} {x:AVal} {v:Value} {Q:Nat→List AVal→Prop} (h:wSrc S k x Q) (hr:Rel E fz w x v):
    ∃(n:Nat) (ys:List AVal) (news:List Value),Q n ys∧ys.length=n*k∧RelL E fz w ys news∧(∀c∈news,c.oneCell'=true)∧(∀w',(Builtin.lenOf v).run P w'= .ok n w')∧
      ∀w':World,w'.heap=w.heap→(Builtin.firstCells k n v).run P w'= .ok news.toArray w':=by
  have cells: ∀ {b off n:Nat} {cs:List AVal} {c:Nat},RelC E fz w b off cs→cs.length=n*k→ ∃news:List Value,RelL E fz w cs news∧(∀c∈news,c.oneCell'=true)∧
      ∀w':World,w'.heap=w.heap→(Builtin.firstCells k n (.slice (some ⟨b,off,none⟩) n c)).run P w'= .ok news.toArray w':=fun {b off n cs c} hc hl=>by
    obtain ⟨vs,g1,g2,g3⟩:=hc.read
    refine ⟨vs,g1,g2,fun w' hw=>run_firstCells_some (P:=P) w' k n ⟨b,off,none⟩ n c vs (by rw [g1.length,hl]) fun j u hu=>?_⟩
    rw [add_mk,←g3 j u hu]
    unfold World.cell?
    rw [hw]
  cases x<;>simp only [wSrc] at h
  case nils=>
    simp only [Rel] at hr
    subst hr
    exact ⟨0,[],[],h,by simp,by simp [RelL],by simp,fun w'=>by simp [Builtin.lenOf],fun w' _=>by simp [Builtin.firstCells]⟩
  case ros n cs=>
    simp only [Rel] at hr
    rcases hr with ⟨rfl,ao,c,rfl⟩ | ⟨b,off,c,hb,hle,rfl,hc⟩
    · refine ⟨0,[],[],by simpa using h.2,by simp,by simp [RelL],by simp,fun w'=>by simp [Builtin.lenOf],fun w' _=>?_⟩
      cases ao<;>simp [Builtin.firstCells,loadCells,loadCellsFrom]
    · obtain ⟨news,g1,g2,g3⟩:=cells (n:=n) (c:=c) (hc.take (n*k)) (by rw [List.length_take];omega)
      refine ⟨n,_,news,h.2,by rw [List.length_take];omega,g1,g2,fun w'=>by simp [Builtin.lenOf],fun w' hw=>?_⟩
      have:=g3 w' hw
      simpa [Builtin.firstCells] using this
  case sl l ver off n=>
    obtain ⟨k',cs,hl,hfit,hq⟩:=wRow_iff.1 h
    simp only [Rel] at hr
    rcases hr with ⟨rfl,ao,rfl⟩ | ⟨b,base,cap,kk,c,hE,hle,hcap,rfl⟩
    · refine ⟨0,[],[],by simpa [subL] using hq,by simp,by simp [RelL],by simp,fun w'=>by simp [Builtin.lenOf],fun w' _=>?_⟩
      cases ao<;>simp [Builtin.firstCells,loadCells,loadCellsFrom]
    · have hlen:(subL cs off (n*k)).length=n*k:=by simp [subL];omega
      rcases st.ok l _ hl with ⟨g1,g2⟩ | ⟨b',base',cap',arr,T,lo,hi,g1,g2,g3,g4,g5,g6,g7⟩
      · rw [hE] at g1;cases g1
      · rw [hE] at g1;cases g1
        obtain ⟨news,q1,q2,q3⟩:=cells (n:=n) (c:=c) ((g6.drop off).take (n*k)) hlen
        refine ⟨n,_,news,hq,hlen,q1,q2,fun w'=>by simp [Builtin.lenOf],fun w' hw=>?_⟩
        have:=q3 w' hw
        simpa [Builtin.firstCells] using this
  case str s=>
    obtain ⟨rfl,hq⟩:=h
    simp only [Rel] at hr
    subst hr
    have hsz:(⟨s.toArray⟩:ByteArray).size=s.length:=by simp [ByteArray.size]
    refine ⟨s.length,_,s.map fun c=>.int .u8 c.toNat,hq,by simp,RelL.mk (by simp) fun i x v hx hv=>?_,by simp [Value.oneCell'],fun w'=>by simp [Builtin.lenOf,hsz],fun w' _=>?_⟩
    · simp only [List.getElem?_map] at hx hv
      cases hs:s[i]? with
      | none=>rw [hs] at hx;cases hx
      | some c=>rw [hs] at hx hv;cases hx;cases hv;simp [Rel]
    · simp only [Builtin.firstCells,Sem.run_pure]
      congr 1
      have:(⟨s.toArray⟩:ByteArray).extract 0 s.length=⟨s.toArray⟩:=by
        apply ByteArray.ext
        simp [ByteArray.data_extract]
      rw [this]
      simp
theorem fresh_ver (st:St E fz S w) (bk:Bk): ∃(ver:Nat) (E':Env),E' ver=some bk∧(∀v x,E v=some x→E' v=some x)∧ ∃n,∀v,n≤v→E' v=none:=by
  obtain ⟨n,hn⟩:=st.fresh
  refine ⟨n,fun v=>if v=n then some bk else E v,by simp,fun v x hx=>?_,n+1,fun v hv=>by simp [hn v (by omega),show v≠n by omega]⟩
  have:v≠n:=fun e=>by subst e;rw [hn v (Nat.le_refl _)] at hx;cases hx
  simp [this,hx]
theorem set_new (st:St E fz S w) {l:Nat} (hlt:l<S.length) {cs:List AVal} {vs rest:List Value} {T:TypeId} (k:Nat) (hr:RelL E fz w cs vs) (h1: ∀c∈vs,c.oneCell'=true)
    {w':World} (hw:w'.heap=w.heap.push (.cells (vs++rest).toArray T (0,0))) (g1:w'.os=w.os) (g2:w'.output=w.output) (g3:Tp w w'):
    ∃ver E',E' ver=some (.real w.heap.size 0 (vs++rest).length k)∧St E' fz (S.set l (.row ver k cs)) w'∧Ext E fz S w E' fz (S.set l (.row ver k cs)) w':=by
  obtain ⟨ver,E',e1,hE,hf⟩:=fresh_ver st (.real w.heap.size 0 (vs++rest).length k)
  have hlo: ∀b:Nat,b<w.heap.size→w'.heap[b]?=w.heap[b]?:=fun b hb=>by rw [hw,Array.getElem?_push,if_neg (by omega)]
  have hnew:w'.heap[w.heap.size]?=some (.cells (vs++rest).toArray T (0,0)):=by rw [hw];simp
  refine ⟨ver,E',e1,st.upd l (.row ver k cs) hE hf (fun l' hl'=>by rw [List.getElem?_set_ne (Ne.symm hl')]) (by rw [List.getElem?_set_self hlt]) (by rw [hw];simp) (fun b hb _=>hlo b hb) (fun b hb=>.inr ?_) ?_ g1 g2 g3⟩
  · simp [obBlock,e1] at hb;omega
  · refine .inr ⟨w.heap.size,0,(vs++rest).length,(vs++rest).toArray,T,0,0,e1,hnew,by simp,?_,.inl rfl,?_,fun hf=>?_⟩
    · have:=hr.length;simp;omega
    · refine RelC.mk fun i x hx=>?_
      obtain ⟨v,hv,hrel⟩:=hr.get hx
      have hil:i<vs.length:=by
        rcases Nat.lt_or_ge i vs.length with h | h
        · exact h
        · simp [List.getElem?_eq_none h] at hv
      refine ⟨v,?_,h1 v (List.mem_of_getElem? hv),hrel.mono hE (fun _ h=>h) (fun b hb=>hlo b (st.fzlt b hb))⟩
      rw [cell_mk hnew]
      simp [List.getElem?_append_left hil,hv]
    · have:=st.fzlt _ hf;omega
theorem set_nil (st:St E fz S w) {l:Nat} (hlt:l<S.length) (k:Nat): ∃ver E',E' ver=some .nil∧St E' fz (S.set l (.row ver k [])) w∧Ext E fz S w E' fz (S.set l (.row ver k [])) w:=by
  obtain ⟨ver,E',e1,hE,hf⟩:=fresh_ver st .nil
  refine ⟨ver,E',e1,st.upd l (.row ver k []) hE hf (fun l' hl'=>by rw [List.getElem?_set_ne (Ne.symm hl')]) (by rw [List.getElem?_set_self hlt]) (Nat.le_refl _) (fun _ _ _=>rfl) (fun b hb=>?_) (.inl ⟨e1,rfl⟩) rfl rfl (Tp.of rfl (Nat.le_refl _))⟩
  simp [obBlock,e1] at hb
theorem put_more (st:St E fz S w) {l ver k off n:Nat} {cs ys:List AVal} {us:List Value} (hl:S[l]?=some (.row ver k cs)) (hfit:off+n≤cs.length) {b base cap:Nat} (hE:E ver=some (.real b base cap k))
    (hcap:off+n+ys.length≤cap) (hr:RelL E fz w ys us) (h1: ∀c∈us,c.oneCell'=true):
    ∃w' ver' E',(storeCells ⟨b,base+(off+n),none⟩ us 0).run P w= .ok () w'∧E' ver'=some (.real b (base+off) (cap-off) k)∧
      St E' fz (S.set l (.row ver' k (subL cs off n++ys))) w'∧Ext E fz S w E' fz (S.set l (.row ver' k (subL cs off n++ys))) w':=by
  have hlt:l<S.length:=by
    rcases Nat.lt_or_ge l S.length with h | h
    · exact h
    · simp [List.getElem?_eq_none h] at hl
  have hlen:=hr.length
  rcases st.ok l _ hl with ⟨g1,g2⟩ | ⟨b',base',cap',arr,T,lo,hi,g1,g2,g3,g4,g5,g6,g7⟩
  · rw [hE] at g1;cases g1
  · rw [hE] at g1;cases g1
    obtain ⟨w',arr',q1,q2,q3,q4,q5,q6,q7,q8,q9⟩:=run_storeCells (P:=P) (b:=b) (st:=base+(off+n)) us 0 w arr g2 (by omega)
      (fun j hj h=>by rcases g5 with g5 | g5<;>omega) h1
    obtain ⟨ver',E',e1,hE',hf⟩:=fresh_ver st (.real b (base+off) (cap-off) k)
    have hsub:(subL cs off n).length=n:=by simp [subL];omega
    refine ⟨w',ver',E',q1,e1,st.upd l (.row ver' k (subL cs off n++ys)) hE' hf (fun l' hl'=>by rw [List.getElem?_set_ne (Ne.symm hl')]) (by rw [List.getElem?_set_self hlt]) (by omega) (fun bb _ hno=>q5 bb fun e=>hno ?_) (fun bb hb=>.inl ?_) ?_ q7 q8 q9⟩
    · subst e;exact ⟨_,hl,by simp [obBlock,hE]⟩
    · simp [obBlock,e1] at hb;subst hb;exact ⟨_,hl,by simp [obBlock,hE]⟩
    · refine .inr ⟨b,base+off,cap-off,arr',T,lo,hi,e1,q2,by omega,by simp [hsub];omega,by rw [q3];exact g5,?_,g7⟩
      have hk: ∀bb,fz bb→w'.heap[bb]?=w.heap[bb]?:=fun bb hb=>q5 bb fun e=>g7 (e▸hb)
      refine RelC.mk fun i x hx=>?_
      rw [cell_mk q2,q4]
      by_cases hi':i<n
      · rw [List.getElem?_append_left (by omega)] at hx
        rw [if_neg (by omega)]
        simp only [subL,List.getElem?_take,hi',if_true,List.getElem?_drop] at hx
        obtain ⟨c,hc,hone,hrel⟩:=g6.get hx
        rw [cell_mk g2,show base+(off+i)=base+off+i by omega] at hc
        exact ⟨c,hc,hone,hrel.mono hE' (fun _ h=>h) hk⟩
      · rw [List.getElem?_append_right (by omega),hsub] at hx
        obtain ⟨v,hv,hrel⟩:=hr.get hx
        have hil:i-n<us.length:=by
          rcases Nat.lt_or_ge (i-n) us.length with h | h
          · exact h
          · simp [List.getElem?_eq_none h] at hv
        rw [if_pos (by omega),show base+off+i-(base+(off+n)+0)=i-n by omega]
        exact ⟨v,hv,h1 v (List.mem_of_getElem? hv),hrel.mono hE' (fun _ h=>h) hk⟩
theorem put_keep (st:St E fz S w) {l ver k off n:Nat} {cs ys:List AVal} {us:List Value} (hl:S[l]?=some (.row ver k cs)) (hfit:off+n≤cs.length) {b base cap:Nat} (hE:E ver=some (.real b base cap k))
    (hcap:off+n+ys.length≤cap) (hr:RelL E fz w ys us) (h1: ∀c∈us,c.oneCell'=true):
    ∃w',(storeCells ⟨b,base+(off+n),none⟩ us 0).run P w= .ok () w'∧
      St E fz (S.set l (.row ver k (cs.take (off+n)++ys))) w'∧Ext E fz S w E fz (S.set l (.row ver k (cs.take (off+n)++ys))) w':=by
  have hlt:l<S.length:=(List.getElem?_eq_some_iff.1 hl).1
  have hlen:=hr.length
  rcases st.ok l _ hl with ⟨g1,g2⟩ | ⟨b',base',cap',arr,T,lo,hi,g1,g2,g3,g4,g5,g6,g7⟩
  · rw [hE] at g1;cases g1
  · rw [hE] at g1;cases g1
    obtain ⟨w',arr',q1,q2,q3,q4,q5,q6,q7,q8,q9⟩:=run_storeCells (P:=P) (b:=b) (st:=base+(off+n)) us 0 w arr g2 (by omega)
      (fun j hj h=>by rcases g5 with g5 | g5<;>omega) h1
    have hsub:(cs.take (off+n)).length=off+n:=by rw [List.length_take];omega
    have hk: ∀bb,fz bb→w'.heap[bb]?=w.heap[bb]?:=fun bb hb=>q5 bb fun e=>g7 (e▸hb)
    refine ⟨w',q1,st.upd l (.row ver k (cs.take (off+n)++ys)) (fun _ _ h=>h) st.fresh (fun l' hl'=>by rw [List.getElem?_set_ne (Ne.symm hl')]) (by rw [List.getElem?_set_self hlt]) (by omega) (fun bb _ hno=>q5 bb fun e=>hno ?_) (fun bb hb=>.inl ?_) ?_ q7 q8 q9⟩
    · subst e;exact ⟨_,hl,by simp [obBlock,hE]⟩
    · simp [obBlock,hE] at hb;subst hb;exact ⟨_,hl,by simp [obBlock,hE]⟩
    · refine .inr ⟨b,base,cap,arr',T,lo,hi,hE,q2,by omega,by simp only [List.length_append,hsub];omega,by rw [q3];exact g5,?_,g7⟩
      refine RelC.mk fun i x hx=>?_
      rw [cell_mk q2,q4]
      by_cases hi':i<off+n
      · rw [List.getElem?_append_left (by omega),List.getElem?_take,if_pos hi'] at hx
        rw [if_neg (by omega)]
        obtain ⟨c,hc,hone,hrel⟩:=g6.get hx
        rw [cell_mk g2] at hc
        exact ⟨c,hc,hone,hrel.mono (fun _ _ h=>h) (fun _ h=>h) hk⟩
      · rw [List.getElem?_append_right (by omega),hsub] at hx
        obtain ⟨v,hv,hrel⟩:=hr.get hx
        have hil:i-(off+n)<us.length:=(List.getElem?_eq_some_iff.1 hv).1
        rw [if_pos (by omega),show base+i-(base+(off+n)+0)=i-(off+n) by omega]
        exact ⟨v,hv,h1 v (List.mem_of_getElem? hv),hrel.mono (fun _ _ h=>h) (fun _ h=>h) hk⟩
theorem run_append_in {t u e ty:TypeId} {ut:TypeDesc} {i:TypeInfo} {ats:Array TypeId} {args:Array Value} {base:Option Addr} {sLen sCap n:Nat} {xv:Value} {news:List Value}
    (ht0:ats[0]?=some t) (ht1:ats[1]?=some u) (a0:args[0]?=some (.slice base sLen sCap)) (a1:args[1]?=some xv) (ht:P.underlying t=some (.slice e)) (hu:P.underlying u=some ut) (hut:(∃e',ut= .slice e')∨ut= .string) (hi:P.info? e=some i)
    (hlen:(Builtin.lenOf xv).run P w= .ok n w) (hcells:(Builtin.firstCells i.size n xv).run P w= .ok news.toArray w) (hc:sLen+n≤sCap):
    (Builtin.append_ ats ty args).run P w=match base with
      | some ad=>((storeCells (ad.add (sLen*i.size)) news).run P w).andThen fun _ w'=>.ok (.slice base (sLen+n) sCap) w'
      | none=>.ok (.slice none (sLen+n) sCap) w:=by
  have hsz:(sizeOf e).run P w= .ok i.size w:=run_size (by simp [tSize,hi]) w
  rcases hut with ⟨e',rfl⟩ | rfl<;>
    · simp only [Builtin.append_,ht0,ht1,a0,a1,Sem.run_bind,run_underlying ht,run_underlying hu,Result.andThen_ok,hsz,Sem.run_pure,Bool.false_eq_true,if_false,hlen,hc,if_true,Bool.not_false,hcells]
      cases base<;>simp
theorem run_append_new {t u e ty:TypeId} {ut:TypeDesc} {i:TypeInfo} {z:Value} {ats:Array TypeId} {args:Array Value} {base:Option Addr} {sLen sCap n:Nat} {xv:Value} {olds news:List Value}
    (ht0:ats[0]?=some t) (ht1:ats[1]?=some u) (a0:args[0]?=some (.slice base sLen sCap)) (a1:args[1]?=some xv) (ht:P.underlying t=some (.slice e)) (hu:P.underlying u=some ut) (hut:(∃e',ut= .slice e')∨ut= .string) (hi:P.info? e=some i) (hz:i.zero=some z) (hb0:0<i.bytes)
    (hlen: ∀w':World,(Builtin.lenOf xv).run P w'= .ok n w') (hcells: ∀w':World,w'.heap=w.heap→(Builtin.firstCells i.size n xv).run P w'= .ok news.toArray w') (hold: ∀w':World,w'.heap=w.heap→(Builtin.firstCells i.size sLen (.slice base sLen sCap)).run P w'= .ok olds.toArray w')
    (hg:sCap<sLen+n) (hfit:(sLen+n)*i.bytes≤140737488355328):
    ∃(w':World) (rest:List Value) (cap:Nat),sLen+n≤cap∧rest.length=(cap-(sLen+n))*z.cells.size∧(Builtin.append_ ats ty args).run P w= .ok (.slice (some ⟨w.heap.size,0,none⟩) (sLen+n) cap) w'∧
        w'.heap=w.heap.push (.cells (olds++news++rest).toArray e (0,0))∧w'.os=w.os∧w'.output=w.output∧Tp w w':=by
  have hsz: ∀w':World,(sizeOf e).run P w'= .ok i.size w':=fun w'=>run_size (by simp [tSize,hi]) w'
  have hbb:sLen+n≤(sLen+n)*i.bytes:=Nat.le_mul_of_pos_right _ hb0
  have f2: ¬(Builtin.nextslicecap (sLen+n) sCap*i.bytes > 2 ^ 48):=by
    have:=growslice_fits (bytes:=i.bytes) hg hfit
    omega
  have f3: ¬(sLen+n≤sCap):=by omega
  have f4: ¬(i.bytes=0):=by omega
  have hcapq:sLen+n≤(Question.appendCap (sLen+n) sCap e).cut (w.tape w.drawn (.appendCap (sLen+n) sCap e)):=by simp [Question.cut]
  have hf:(Question.appendCap (sLen+n) sCap e).forced=false:=rfl
  generalize hq:(Question.appendCap (sLen+n) sCap e).cut (w.tape w.drawn (.appendCap (sLen+n) sCap e))=cap at hcapq
  refine ⟨w.drew.alloc (.cells (olds++news++(Builtin.zeroCells z.cells (cap-(sLen+n))).toList).toArray e),(Builtin.zeroCells z.cells (cap-(sLen+n))).toList,cap,hcapq,?_,?_,rfl,rfl,rfl,(Tp.of rfl (Nat.le_succ _))⟩
  · simp [Builtin.zeroCells]
  · have hd:w.drew.heap=w.heap:=rfl
    have c1:=hcells w.drew hd
    have c2:=hold w.drew hd
    have c3:(zeroValue e).run P w.drew= .ok z w.drew:=by simp [zeroValue,run_info hi,hz]
    rcases hut with ⟨e',rfl⟩ | rfl<;>
      · simp only [Builtin.append_,ht0,ht1,a0,a1,Sem.run_bind,run_underlying ht,run_underlying hu,Result.andThen_ok,hsz,Sem.run_pure,Bool.false_eq_true,if_false,hlen,f3,run_info hi,false_or,f4,and_false,f2,Bool.not_false,if_true,run_choose,hf,hq,run_askRoom,World.drew_eq,c1,c2,c3,newRow,run_newObj]
        rw [show olds.toArray++news.toArray++Builtin.zeroCells z.cells (cap-(sLen+n))=(olds++news++(Builtin.zeroCells z.cells (cap-(sLen+n))).toList).toArray from by apply Array.ext';simp]
        rfl
theorem append_sound (st:St E fz S w) (hF:RelF E fz w F a.tmps) {o:Oper} {c:Call} {rs rx:Rand} {t u e:TypeId} {ut:TypeDesc} {i:TypeInfo} {z:Value} (ho:o.op= .call c) (hc:c.callee= .builtin .append) (hargs:cRands c.args.toList=some [rs,rx])
    (ht0:c.argTypes[0]?=some t) (ht1:c.argTypes[1]?=some u) (ht:P.underlying t=some (.slice e)) (hu:P.underlying u=some ut) (hut:(∃e',ut= .slice e')∨ut= .string) (hi:P.info? e=some i) (hz:i.zero=some z) (hs0:0<i.size) (hb0:0<i.bytes) (hzs:z.cells.size=i.size)
    (h:vcOp P F S K (.append i.size i.bytes rs rx)):RunsTo P ((execOp a.eval o).run P w) (Post K E fz S w):=by
  have h1:=evals_rel hF hargs
  simp only [List.map_cons,List.map_nil,RelL] at h1
  obtain ⟨sv,us,e1,hrs,xv,us2,e2,hrx,rfl⟩:=h1
  subst e2
  have a0:(c.args.map a.eval)[0]?=some sv:=by rw [←Array.getElem?_toList,Array.toList_map,e1];rfl
  have a1:(c.args.map a.eval)[1]?=some xv:=by rw [←Array.getElem?_toList,Array.toList_map,e1];rfl
  simp only [vcOp,rdK_iff] at h
  obtain ⟨n,ys,news,hq,hyl,hyr,hone,hlen,hcells⟩:=src_rel (P:=P) st h hrx
  clear h
  have hnl:news.length=n*i.size:=by rw [hyr.length,hyl]
  have hex: ∀ {v:Value} {w':World},(Builtin.append_ c.argTypes o.type (c.args.map a.eval)).run P w= .ok v w'→(execOp a.eval o).run P w= .ok (.value v) w':=fun {v w'} hr=>by
    simp [execOp,ho,resolve,hc,invoke,builtin,hr]
  generalize rd F rs=X at*
  cases X<;>first | exact hq.elim | skip
  case nils=>
    simp only [wPush_iff] at hq
    simp only [Rel] at hrs
    subst hrs
    by_cases hn0:n=0
    · subst hn0
      have:ys=[]:=List.length_eq_zero_iff.1 (by omega)
      subst this
      have hr:=run_append_in (P:=P) (w:=w) (ty:=o.type) (sLen:=0) (sCap:=0) ht0 ht1 a0 a1 ht hu hut hi (hlen w) (hcells w rfl) (by omega)
      obtain ⟨ver,E',p1,p2,p3⟩:=new_nil st i.size
      exact runs_of st (hex hr) ⟨_,_,E',fz,hq.2 ver,p3,p2,by simp only [Rel];exact .inl ⟨trivial,none,rfl⟩⟩
    · obtain ⟨w',rest,cap,q1,q2,q3,q4,q5,q6,q7⟩:=run_append_new (P:=P) (w:=w) (ty:=o.type) (base:=none) (sLen:=0) (sCap:=0) (olds:=[]) ht0 ht1 a0 a1 ht hu hut hi hz hb0 hlen hcells (fun w' _=>by simp [Builtin.firstCells]) (by omega) (by simpa using hq.1)
      obtain ⟨ver,E',p1,p2,p3⟩:=new_row (w':=w') st (rest:=rest) (T:=e) i.size hyr hone (by simpa using q4) q5 q6 q7
      refine runs_of st (hex q3) ⟨_,_,E',fz,hq.2 ver,p3,p2,?_⟩
      simp only [Rel]
      refine .inr ⟨_,_,_,_,cap,p1,by omega,?_,by simp⟩
      rw [List.length_append,hnl,q2,hzs,←Nat.add_mul]
      simp only [Nat.zero_add] at q1 ⊢
      rw [show n+(cap-n)=cap by omega]
      exact Nat.le_refl _
  case sl l ver off len=>
    obtain ⟨k',cs,hl,rfl,hfit,hby,hk⟩:=wRow_iff.1 hq
    simp only [wSet_iff] at hk
    have hlt:l<S.length:=by
      rcases Nat.lt_or_ge l S.length with h | h
      · exact h
      · simp [List.getElem?_eq_none h] at hl
    simp only [Rel] at hrs
    rcases hrs with ⟨rfl,ao,rfl⟩ | ⟨b,base,cap,kk,cc,hE,hle,hcap,rfl⟩
    · have hsub:subL cs off (0*i.size)=[]:=by simp [subL]
      by_cases hn0:n=0
      · subst hn0
        have:ys=[]:=List.length_eq_zero_iff.1 (by omega)
        subst this
        have hnn:news=[]:=List.length_eq_zero_iff.1 (by omega)
        subst hnn
        have hr:=run_append_in (P:=P) (w:=w) (ty:=o.type) (sLen:=0) (sCap:=0) ht0 ht1 a0 a1 ht hu hut hi (hlen w) (hcells w rfl) (by omega)
        have hr':(Builtin.append_ c.argTypes o.type (c.args.map a.eval)).run P w= .ok (.slice ao 0 0) w:=by
          rw [hr];cases ao<;>simp [storeCells]
        obtain ⟨ver',E',p1,p2,p3⟩:=set_nil st hlt i.size
        have hk':=(hk ver').2
        rw [hsub] at hk'
        exact runs_of st (hex hr') ⟨_,_,E',fz,hk',p3,p2,by simp only [Rel];exact .inl ⟨trivial,ao,rfl⟩⟩
      · obtain ⟨w',rest,cap,q1,q2,q3,q4,q5,q6,q7⟩:=run_append_new (P:=P) (w:=w) (ty:=o.type) (base:=ao) (sLen:=0) (sCap:=0) (olds:=[]) ht0 ht1 a0 a1 ht hu hut hi hz hb0 hlen hcells (fun w' _=>by cases ao<;>simp [Builtin.firstCells,loadCells,loadCellsFrom]) (by omega) hby
        obtain ⟨ver',E',p1,p2,p3⟩:=set_new (w':=w') st hlt (rest:=rest) (T:=e) i.size hyr hone (by simpa using q4) q5 q6 q7
        have hk':=(hk ver').2
        rw [hsub,List.nil_append] at hk'
        refine runs_of st (hex q3) ⟨_,_,E',fz,hk',p3,p2,?_⟩
        simp only [Rel]
        refine .inr ⟨_,_,_,_,cap,p1,by omega,?_,by simp⟩
        rw [List.length_append,hnl,q2,hzs,←Nat.add_mul]
        simp only [Nat.zero_add] at q1 ⊢
        rw [show n+(cap-n)=cap by omega]
        exact Nat.le_refl _
    · have hkk:kk=i.size:=by
        rcases st.ok l _ hl with ⟨p1,_⟩ | ⟨_,_,_,_,_,_,_,p1,_⟩<;>rw [hE] at p1<;>cases p1
        rfl
      subst hkk
      by_cases hin:len+n≤cc
      · have hr:=run_append_in (P:=P) (w:=w) (ty:=o.type) ht0 ht1 a0 a1 ht hu hut hi (hlen w) (hcells w rfl) hin
        have hmul:(len+n)*i.size≤cc*i.size:=Nat.mul_le_mul_right _ hin
        rw [Nat.add_mul] at hmul
        obtain ⟨w',ver',E',p0,p1,p2,p3⟩:=put_more (P:=P) st hl hfit hE (by omega) hyr hone
        have hr':(Builtin.append_ c.argTypes o.type (c.args.map a.eval)).run P w= .ok (.slice (some ⟨b,base+off,none⟩) (len+n) cc) w':=by
          rw [hr];simp only [add_mk];rw [show base+off+len*i.size=base+(off+len*i.size) by omega,p0];rfl
        refine runs_of st (hex hr') ⟨_,_,E',fz,(hk ver').2,p3,p2,?_⟩
        simp only [Rel]
        exact .inr ⟨b,base+off,cap-off,i.size,cc,p1,hin,by omega,by simp⟩
      · rcases st.ok l _ hl with ⟨g1,g2⟩ | ⟨b',base',cap',arr,T,lo,hi',g1,g2,g3,g4,g5,g6,g7⟩
        · rw [hE] at g1;cases g1
        · rw [hE] at g1;cases g1
          have hsl:(subL cs off (len*i.size)).length=len*i.size:=by simp [subL];omega
          obtain ⟨olds,r1,r2,r3⟩:=((g6.drop off).take (len*i.size)).read
          have hol:olds.length=len*i.size:=by rw [r1.length];exact hsl
          obtain ⟨w',rest,cap2,q1,q2,q3,q4,q5,q6,q7⟩:=run_append_new (P:=P) (w:=w) (ty:=o.type) (olds:=olds) ht0 ht1 a0 a1 ht hu hut hi hz hb0 hlen hcells
            (fun w' hw=>run_firstCells_some (P:=P) w' i.size len _ len cc olds hol fun j v hv=>by rw [add_mk,←r3 j v hv];unfold World.cell?;rw [hw]) (by omega) hby
          obtain ⟨ver',E',p1,p2,p3⟩:=set_new (w':=w') st hlt (rest:=rest) (T:=e) i.size (r1.append hyr) (fun c hc=>(List.mem_append.1 hc).elim (r2 c) (hone c)) (by simpa using q4) q5 q6 q7
          refine runs_of st (hex q3) ⟨_,_,E',fz,(hk ver').2,p3,p2,?_⟩
          simp only [Rel]
          refine .inr ⟨_,_,_,_,cap2,p1,by omega,?_,by simp⟩
          rw [List.length_append,List.length_append,hol,hnl,q2,hzs,←Nat.add_mul,←Nat.add_mul]
          rw [show len+n+(cap2-(len+n))=cap2 by omega]
          simp
theorem appk_sound (st:St E fz S w) (hF:RelF E fz w F a.tmps) {o:Oper} {c:Call} {rs rx:Rand} {t u e:TypeId} {ut:TypeDesc} {i:TypeInfo} {z:Value} (ho:o.op= .call c) (hc:c.callee= .builtin .append) (hargs:cRands c.args.toList=some [rs,rx])
    (ht0:c.argTypes[0]?=some t) (ht1:c.argTypes[1]?=some u) (ht:P.underlying t=some (.slice e)) (hu:P.underlying u=some ut) (hut:(∃e',ut= .slice e')∨ut= .string) (hi:P.info? e=some i) (hz:i.zero=some z) (hs0:0<i.size) (hb0:0<i.bytes) (hzs:z.cells.size=i.size)
    (h:vcOp P F S K (.appk i.size i.bytes rs rx)):RunsTo P ((execOp a.eval o).run P w) (Post K E fz S w):=by
  have h1:=evals_rel hF hargs
  simp only [List.map_cons,List.map_nil,RelL] at h1
  obtain ⟨sv,us,e1,hrs,xv,us2,e2,hrx,rfl⟩:=h1
  subst e2
  have a0:(c.args.map a.eval)[0]?=some sv:=by rw [←Array.getElem?_toList,Array.toList_map,e1];rfl
  have a1:(c.args.map a.eval)[1]?=some xv:=by rw [←Array.getElem?_toList,Array.toList_map,e1];rfl
  simp only [vcOp,rdK_iff] at h
  obtain ⟨n,ys,news,hq,hyl,hyr,hone,hlen,hcells⟩:=src_rel (P:=P) st h hrx
  clear h
  have hnl:news.length=n*i.size:=by rw [hyr.length,hyl]
  have hex: ∀ {v:Value} {w':World},(Builtin.append_ c.argTypes o.type (c.args.map a.eval)).run P w= .ok v w'→(execOp a.eval o).run P w= .ok (.value v) w':=fun {v w'} hr=>by
    simp [execOp,ho,resolve,hc,invoke,builtin,hr]
  obtain ⟨hn0,hq⟩:=hq
  generalize rd F rs=X at*
  cases X<;>first | exact hq.elim | skip
  case nils=>
    simp only [wPush_iff] at hq
    simp only [Rel] at hrs
    subst hrs
    obtain ⟨w',rest,cap,q1,q2,q3,q4,q5,q6,q7⟩:=run_append_new (P:=P) (w:=w) (ty:=o.type) (base:=none) (sLen:=0) (sCap:=0) (olds:=[]) ht0 ht1 a0 a1 ht hu hut hi hz hb0 hlen hcells (fun w' _=>by simp [Builtin.firstCells]) (by omega) (by simpa using hq.1)
    obtain ⟨ver,E',p1,p2,p3⟩:=new_row (w':=w') st (rest:=rest) (T:=e) i.size hyr hone (by simpa using q4) q5 q6 q7
    refine runs_of st (hex q3) ⟨_,_,E',fz,hq.2 ver,p3,p2,?_⟩
    simp only [Rel]
    refine .inr ⟨_,_,_,_,cap,p1,by omega,?_,by simp⟩
    rw [List.length_append,hnl,q2,hzs,←Nat.add_mul]
    simp only [Nat.zero_add] at q1 ⊢
    rw [show n+(cap-n)=cap by omega]
    exact Nat.le_refl _
  case sl l ver off len=>
    obtain ⟨k',cs,hl,rfl,hfit,hby,hki,hk⟩:=wRow_iff.1 hq
    simp only [wSet_iff] at hki
    simp only [wPush_iff] at hk
    have hlt:l<S.length:=by
      rcases Nat.lt_or_ge l S.length with h | h
      · exact h
      · simp [List.getElem?_eq_none h] at hl
    simp only [Rel] at hrs
    rcases hrs with ⟨rfl,ao,rfl⟩ | ⟨b,base,cap,kk,cc,hE,hle,hcap,rfl⟩
    · have hsub:subL cs off (0*i.size)=[]:=by simp [subL]
      obtain ⟨w',rest,cap,q1,q2,q3,q4,q5,q6,q7⟩:=run_append_new (P:=P) (w:=w) (ty:=o.type) (base:=ao) (sLen:=0) (sCap:=0) (olds:=[]) ht0 ht1 a0 a1 ht hu hut hi hz hb0 hlen hcells (fun w' _=>by cases ao<;>simp [Builtin.firstCells,loadCells,loadCellsFrom]) (by omega) hby
      obtain ⟨ver',E',p1,p2,p3⟩:=new_row (w':=w') st (rest:=rest) (T:=e) i.size hyr hone (by simpa using q4) q5 q6 q7
      have hk':=hk ver'
      rw [hsub,List.nil_append] at hk'
      refine runs_of st (hex q3) ⟨_,_,E',fz,hk',p3,p2,?_⟩
      simp only [Rel]
      refine .inr ⟨_,_,_,_,cap,p1,by omega,?_,by simp⟩
      rw [List.length_append,hnl,q2,hzs,←Nat.add_mul]
      simp only [Nat.zero_add] at q1 ⊢
      rw [show n+(cap-n)=cap by omega]
      exact Nat.le_refl _
    · have hkk:kk=i.size:=by
        rcases st.ok l _ hl with ⟨p1,_⟩ | ⟨_,_,_,_,_,_,_,p1,_⟩<;>rw [hE] at p1<;>cases p1
        rfl
      subst hkk
      by_cases hin:len+n≤cc
      · have hr:=run_append_in (P:=P) (w:=w) (ty:=o.type) ht0 ht1 a0 a1 ht hu hut hi (hlen w) (hcells w rfl) hin
        have hmul:(len+n)*i.size≤cc*i.size:=Nat.mul_le_mul_right _ hin
        rw [Nat.add_mul] at hmul
        obtain ⟨w',p0,p2,p3⟩:=put_keep (P:=P) st hl hfit hE (by omega) hyr hone
        have hr':(Builtin.append_ c.argTypes o.type (c.args.map a.eval)).run P w= .ok (.slice (some ⟨b,base+off,none⟩) (len+n) cc) w':=by
          rw [hr];simp only [add_mk];rw [show base+off+len*i.size=base+(off+len*i.size) by omega,p0];rfl
        refine runs_of st (hex hr') ⟨_,_,E,fz,hki.2,p3,p2,?_⟩
        simp only [Rel]
        exact .inr ⟨b,base,cap,i.size,cc,hE,hin,by omega,by simp⟩
      · rcases st.ok l _ hl with ⟨g1,g2⟩ | ⟨b',base',cap',arr,T,lo,hi',g1,g2,g3,g4,g5,g6,g7⟩
        · rw [hE] at g1;cases g1
        · rw [hE] at g1;cases g1
          have hsl:(subL cs off (len*i.size)).length=len*i.size:=by simp [subL];omega
          obtain ⟨olds,r1,r2,r3⟩:=((g6.drop off).take (len*i.size)).read
          have hol:olds.length=len*i.size:=by rw [r1.length];exact hsl
          obtain ⟨w',rest,cap2,q1,q2,q3,q4,q5,q6,q7⟩:=run_append_new (P:=P) (w:=w) (ty:=o.type) (olds:=olds) ht0 ht1 a0 a1 ht hu hut hi hz hb0 hlen hcells
            (fun w' hw=>run_firstCells_some (P:=P) w' i.size len _ len cc olds hol fun j v hv=>by rw [add_mk,←r3 j v hv];unfold World.cell?;rw [hw]) (by omega) hby
          obtain ⟨ver',E',p1,p2,p3⟩:=new_row (w':=w') st (rest:=rest) (T:=e) i.size (r1.append hyr) (fun c hc=>(List.mem_append.1 hc).elim (r2 c) (hone c)) (by simpa using q4) q5 q6 q7
          refine runs_of st (hex q3) ⟨_,_,E',fz,hk ver',p3,p2,?_⟩
          simp only [Rel]
          refine .inr ⟨_,_,_,_,cap2,p1,by omega,?_,by simp⟩
          rw [List.length_append,List.length_append,hol,hnl,q2,hzs,←Nat.add_mul,←Nat.add_mul]
          rw [show len+n+(cap2-(len+n))=cap2 by omega]
          simp
end
end Go.Vc
end
section
namespace Go.Vc
section
variable {P : Program} {E : Env} {fz : Nat → Prop} {S : Store} {w : World} {F : Frame} {a : Act} {K : AVal → Store → Prop} {ro : Bool}
theorem sameAddr_other {a b:Addr} {ca cb:Array Value} {ta tb:TypeId} {m m':Nat} (hne:a.block≠b.block) (ha:w.heap[a.block]?=some (.cells ca ta (m,m))) (hb:w.heap[b.block]?=some (.cells cb tb (m',m'))):
    (sameAddr a b).run P w= .ok false w:=by
  have f: ∀i m:Nat,(decide (m≤i) && decide (i<m))=false:=fun i m=>by
    by_cases c:m≤i
    · have: ¬i<m:=by omega
      simp [this]
    · simp [c]
  simp [sameAddr,hne,World.frozen?,ha,hb,noView,viewAt,World.shape?,mayBeOne,stringish,f]
theorem eqr_ptrs {l l':Nat} {v v' off off':Nat} {t e:TypeId} {cs cs':List AVal} {x y:Value} {n:Nat} (st:St E fz S w) (ht:P.underlying t=some (.pointer e)) (hn:tSize P e=some (n+1)) (hx:Rel E fz w (.ptr l v off) x) (hy:Rel E fz w (.ptr l' v' off') y)
    (h1:S[l]?=some (.row v 0 cs)) (h2:S[l']?=some (.row v' 0 cs')):(Op.equal t x y).run P w= .ok (decide (l=l'∧off=off')) w:=by
  simp only [Rel] at hx hy
  obtain ⟨b,base,cap,kk,e1,rfl⟩:=hx
  obtain ⟨b',base',cap',kk',e2,rfl⟩:=hy
  have cl: ∀ {l v b base cap kk:Nat} {cs:List AVal},S[l]?=some (Ob.row v 0 cs)→E v=some (.real b base cap kk)→ ∃arr T m,w.heap[b]?=some (.cells arr T (m,m)):=fun {l v b base cap kk cs} g1 g2=>by
    rcases st.ok l _ g1 with ⟨q1,_⟩ | ⟨b1,_,_,arr,T,lo,hi,q1,q2,_,_,q5,_⟩
    · rw [g2] at q1;cases q1
    · rw [g2] at q1;cases q1
      rcases q5 with q5 | q5
      · subst q5;exact ⟨arr,T,lo,q2⟩
      · exact absurd q5.1 (by decide)
  obtain ⟨arr,T,m,c1⟩:=cl h1 e1
  obtain ⟨arr',T',m',c2⟩:=cl h2 e2
  have key:(sameAddr (⟨b,base+off,none⟩:Addr) ⟨b',base'+off',none⟩).run P w= .ok (decide (l=l'∧off=off')) w:=by
    by_cases c:l=l'
    · subst c
      rw [h1] at h2;cases h2
      rw [e1] at e2;cases e2
      have:((⟨b,base+off,none⟩:Addr) == ⟨b,base+off',none⟩)=decide (off=off'):=by
        rw [Bool.eq_iff_iff,beq_iff_eq,decide_eq_true_eq,Addr.mk.injEq]
        constructor
        · rintro ⟨_,h,_⟩;omega
        · rintro rfl;exact ⟨rfl,rfl,rfl⟩
      simp [sameAddr,this]
    · have hb:b≠b':=fun e=>by
        subst e
        exact c (st.sep l l' b ⟨_,h1,by simp [obBlock,e1]⟩ ⟨_,h2,by simp [obBlock,e2]⟩)
      rw [sameAddr_other (P:=P) (w:=w) (a:=⟨b,base+off,none⟩) (b:=⟨b',base'+off',none⟩) hb c1 c2]
      simp [c]
  obtain ⟨i,hi,hs⟩: ∃i,P.info? e=some i∧i.size≠0:=by
    unfold tSize at hn
    split at hn
    · rename_i i hi;exact ⟨i,hi,by have:=Option.some.inj hn;omega⟩
    · cases hn
  have gen: ∀d:Nat,(Op.equalIn (d+1) t (.pointer (some ⟨b,base+off,none⟩)) (.pointer (some ⟨b',base'+off',none⟩))).run P w= .ok (decide (l=l'∧off=off')) w:=fun d=>by
    simp [Op.equalIn,run_underlying ht,sizeOf,typeInfo,hi,hs,key]
  rw [equal_eq];exact gen 9999
theorem peq_sound (st:St E fz S w) (hF:RelF E fz w F a.tmps) {o:Oper} {op:BinOp} {t u:TypeId} {x y:Nat} {neg:Bool} (ho:o.op= .binOp op t (.tmp x) (.tmp y) u) (hq:eqQ P t=some .ptr)
    (hop:(op= .eql∧neg=false)∨(op= .neq∧neg=true)) (h:vcOp P F S K (.peq neg (.t x) (.t y))):RunsTo P ((execOp a.eval o).run P w) (Post K E fz S w):=by
  have h1:=hF x
  have h2:=hF y
  simp only [vcOp,rdK_iff,rd] at h
  obtain ⟨e,ht⟩:=eqQ_kind hq
  have hsz: ∃n,tSize P e=some (n+1):=by
    unfold eqQ at hq
    rw [ht] at hq
    simp only at hq
    split at hq
    · rename_i n hn;exact ⟨n,hn⟩
    · cases hq
  obtain ⟨n,hn⟩:=hsz
  have e1:a.eval (.tmp x)=a.tmps.getD x undef:=rfl
  have e2:a.eval (.tmp y)=a.tmps.getD y undef:=rfl
  generalize hvx:a.tmps.getD x undef=vx at*
  generalize hvy:a.tmps.getD y undef=vy at*
  have fin: ∀ {r:Bool},(binOp .eql t vx vy=(do pure (.bool (←Op.equal t vx vy)))∧binOp .neq t vx vy=(do pure (.bool (!(←Op.equal t vx vy)))))→(∀d,vx≠ .nilIface∧vx≠ .agg d)→(Op.equal t vx vy).run P w= .ok r w→K (.bool (r != neg)) S→RunsTo P ((execOp a.eval o).run P w) (Post K E fz S w):=fun {r} hb hne hr hk=>by
    have hg:(eqGuard op t (.tmp x) (.tmp y) vx vy).run P w= .ok () w:=by
      have:eqGuard op t (.tmp x) (.tmp y) vx vy=pure ():=by
        cases vx<;>first | (cases op<;>rfl) | exact ((hne #[]).1 rfl).elim | (rename_i cs;exact ((hne cs).2 rfl).elim)
      rw [this];exact Sem.run_pure P w ()
    obtain ⟨v,z,g1,g2,g3⟩:=bin_eq (P:=P) (E:=E) (fz:=fz) (w:=w) (t:=t) (op:=op) (v:=vx) (u:=vy) (r:=r) (K:=fun z=>z= .bool (r != neg)) hb hr (by
      rcases hop with ⟨rfl,rfl⟩ | ⟨rfl,rfl⟩<;>cases r<;>rfl)
    subst g2
    exact runs_pure st (by simp [execOp,ho,e1,e2,hg,g1]) hk g3
  generalize F.get x=X at*
  generalize F.get y=Y at*
  cases X<;>cases Y<;>simp only at h<;>first | exact h.elim | skip
  case nilp.nilp=>
    simp only [Rel] at h1 h2
    subst h1;subst h2
    exact fin ⟨rfl,rfl⟩ (fun d=>⟨by simp,by simp⟩) (r:=true) (by rw [equal_eq];exact eqr_pp w 9999 ht) (by cases neg<;>exact h)
  case nilp.ptr=>
    simp only [Rel] at h1 h2
    obtain ⟨b,base,cap,k,_,rfl⟩:=h2
    subst h1
    exact fin ⟨rfl,rfl⟩ (fun d=>⟨by simp,by simp⟩) (r:=false) (by rw [equal_eq];exact eqr_np w 9999 ht) (by cases neg<;>exact h)
  case nilp.rop=>
    simp only [Rel] at h1 h2
    obtain ⟨b,off,_,rfl,_⟩:=h2
    subst h1
    exact fin ⟨rfl,rfl⟩ (fun d=>⟨by simp,by simp⟩) (r:=false) (by rw [equal_eq];exact eqr_np w 9999 ht) (by cases neg<;>exact h)
  case ptr.nilp=>
    simp only [Rel] at h1 h2
    obtain ⟨b,base,cap,k,_,rfl⟩:=h1
    subst h2
    exact fin ⟨rfl,rfl⟩ (fun d=>⟨by simp,by simp⟩) (r:=false) (by rw [equal_eq];exact eqr_pn w 9999 ht) (by cases neg<;>exact h)
  case rop.nilp=>
    simp only [Rel] at h1 h2
    obtain ⟨b,off,_,rfl,_⟩:=h1
    subst h2
    exact fin ⟨rfl,rfl⟩ (fun d=>⟨by simp,by simp⟩) (r:=false) (by rw [equal_eq];exact eqr_pn w 9999 ht) (by cases neg<;>exact h)
  case ptr.ptr l v off l' v' off'=>
    obtain ⟨k,cs,g1,rfl,h⟩:=wRow_iff.1 h
    obtain ⟨k',cs',g2,rfl,h⟩:=wRow_iff.1 h
    have hr:=eqr_ptrs st ht hn h1 h2 g1 g2
    simp only [Rel] at h1 h2
    obtain ⟨b,base,cap,k,_,rfl⟩:=h1
    obtain ⟨b',base',cap',k',_,rfl⟩:=h2
    exact fin ⟨rfl,rfl⟩ (fun d=>⟨by simp,by simp⟩) hr h
theorem isnil_sound (st:St E fz S w) (hF:RelF E fz w F a.tmps) {o:Oper} {op:BinOp} {t u e:TypeId} {x:Operand} {rx:Rand} {neg:Bool} (ho:o.op= .binOp op t x (.const (.slice none 0 0)) u) (ht:P.underlying t=some (.slice e)) (hx:cRand x=some rx)
    (hop:(op= .eql∧neg=false)∨(op= .neq∧neg=true)) (h:vcOp P F S K (.isnil neg rx)):RunsTo P ((execOp a.eval o).run P w) (Post K E fz S w):=by
  have h1:=eval_rel hF hx
  simp only [vcOp,rdK_iff] at h
  generalize rd F rx=X at*
  have fin: ∀ {ao:Option Addr} {n c:Nat},a.eval x= .slice ao n c→K (.bool (ao.isNone != neg)) S→RunsTo P ((execOp a.eval o).run P w) (Post K E fz S w):=fun {ao n c} hv hk=>by
    refine runs_pure st (v:= .bool (ao.isNone != neg)) ?_ hk (by simp [Rel])
    have e2:a.eval (.const (.slice none 0 0))= .slice none 0 0:=rfl
    have hg:(eqGuard op t x (.const (.slice none 0 0)) (.slice ao n c) (.slice none 0 0)).run P w= .ok () w:=by
      rcases hop with ⟨rfl,_⟩ | ⟨rfl,_⟩<;>exact Sem.run_pure P w ()
    rcases hop with ⟨rfl,rfl⟩ | ⟨rfl,rfl⟩
    · have hr:(binOp .eql t (.slice ao n c) (.slice none 0 0)).run P w= .ok (.bool (ao.isNone != false)) w:=by
        simp only [binOp]
        simp [run_equal_slice_nil w t e ao n c ht]
      simp only [execOp,ho,hv,e2]
      simp only [Sem.run_bind,hg,hr,Result.andThen_ok,Sem.run_pure]
    · have hr:(binOp .neq t (.slice ao n c) (.slice none 0 0)).run P w= .ok (.bool (ao.isNone != true)) w:=by
        rw [run_neq_slice_nil w t e ao n c ht];cases ao<;>rfl
      simp only [execOp,ho,hv,e2]
      simp only [Sem.run_bind,hg,hr,Result.andThen_ok,Sem.run_pure]
  cases X<;>first | exact h.elim | skip
  case nils=>
    simp only [Rel] at h1
    exact fin h1 (by simpa using h)
  case ros n cs=>
    simp only [Rel] at h1
    rcases h1 with ⟨hn,ao,c,e1⟩ | ⟨b,off,c,_,_,e1,_⟩
    · exact fin e1 (h _ fun _=>hn)
    · exact fin e1 (h _ fun e=>by simp at e)
  case sl l v off n=>
    simp only [Rel] at h1
    rcases h1 with ⟨hn,ao,e1⟩ | ⟨b,base,cap,k,c,_,_,_,e1⟩
    · exact fin e1 (h _ fun _=>hn)
    · exact fin e1 (h _ fun e=>by simp at e)
theorem new_at (st:St E fz S w) {l:Nat} (hd:S[l]?=some .dead) {cs:List AVal} {vs rest:List Value} {T:TypeId} (k:Nat) (hr:RelL E fz w cs vs) (h1: ∀c∈vs,c.oneCell'=true)
    {w':World} (hw:w'.heap=w.heap.push (.cells (vs++rest).toArray T (0,0))) (g1:w'.os=w.os) (g2:w'.output=w.output) (g3:Tp w w'):
    ∃ver E',E' ver=some (.real w.heap.size 0 (vs++rest).length k)∧St E' fz (S.set l (.row ver k cs)) w'∧Ext E fz S w E' fz (S.set l (.row ver k cs)) w':=by
  obtain ⟨n,hn⟩:=st.fresh
  have hll:l<S.length:=(List.getElem?_eq_some_iff.1 hd).1
  have hE: ∀v x,E v=some x→(fun v=>if v=n then some (Bk.real w.heap.size 0 (vs++rest).length k) else E v) v=some x:=fun v x hx=>by
    have:v≠n:=fun e=>by subst e;rw [hn v (Nat.le_refl _)] at hx;cases hx
    simp [this,hx]
  have hlt: ∀b:Nat,b<w.heap.size→w'.heap[b]?=w.heap[b]?:=fun b hb=>by
    rw [hw,Array.getElem?_push,if_neg (by omega)]
  have hnew:w'.heap[w.heap.size]?=some (.cells (vs++rest).toArray T (0,0)):=by rw [hw];simp
  refine ⟨n,fun v=>if v=n then some (.real w.heap.size 0 (vs++rest).length k) else E v,by simp,
    st.upd l (.row n k cs) hE ⟨n+1,fun v hv=>by simp [hn v (by omega),show v≠n by omega]⟩ (fun l' hl'=>by rw [List.getElem?_set_ne (fun e=>hl' e.symm)]) (by rw [List.getElem?_set_self hll]) (by rw [hw];simp) (fun b hb _=>hlt b hb) (fun b hb=>.inr ?_) ?_ g1 g2 g3⟩
  · simp [obBlock] at hb;omega
  · refine .inr ⟨w.heap.size,0,(vs++rest).length,(vs++rest).toArray,T,0,0,by simp,hnew,by simp,?_,.inl rfl,?_,fun hf=>?_⟩
    · have:=hr.length;simp;omega
    · refine RelC.mk fun i x hx=>?_
      obtain ⟨v,hv,hrel⟩:=hr.get hx
      have hil:i<vs.length:=by
        rcases Nat.lt_or_ge i vs.length with h | h
        · exact h
        · simp [List.getElem?_eq_none h] at hv
      refine ⟨v,?_,h1 v (List.mem_of_getElem? hv),hrel.mono hE (fun _ h=>h) (fun b hb=>hlt b (st.fzlt b hb))⟩
      rw [cell_mk hnew]
      simp [List.getElem?_append_left hil,hv]
    · have:=st.fzlt _ hf;omega
theorem mkres_sound (st:St E fz S w) (hF:RelF E fz w F a.tmps) {o:Oper} {t e:TypeId} {x y:Operand} {rx ry:Rand} {n b d:Nat} {z:List AVal} (ho:o.op= .makeSlice t x y) (ht:P.underlying t=some (.slice e)) (hn:tSize P e=some n) (hb:tBytes P e=some b) (hz:tZero P e=some z) (h0:0<n) (hb0:0<b) (hzl:z.length=n) (hx:cRand x=some rx) (hy:cRand y=some ry)
    (h:vcOp P F S K (.mkres d n b z rx ry)):RunsTo P ((execOp a.eval o).run P w) (Post K E fz S w):=by
  have hr1:=eval_rel hF hx
  have hr2:=eval_rel hF hy
  simp only [vcOp,rdK_iff] at h
  obtain ⟨k,m,ex,hyx,hm,hd0,hdl,hdead,hk⟩:=wIdx_iff h
  rw [hyx,ex] at hr2
  rw [ex] at hr1
  simp only [Rel] at hr1 hr2
  have hzz: ∃i zv,P.info? e=some i∧i.zero=some zv∧absL zv.cells.toList=some z∧i.size=n∧i.bytes=b:=by
    unfold tZero at hz
    unfold tSize at hn
    unfold tBytes at hb
    split at hz
    · rename_i i hi
      rw [hi] at hn hb
      split at hz
      · rename_i zv hzv
        exact ⟨i,zv,hi,hzv,hz,by simpa using hn,by simpa using hb⟩
      · cases hz
    · cases hz
  obtain ⟨i,zv,hi,hzv,hab,hsz,hby⟩:=hzz
  have hmm:m≤b*m:=Nat.le_mul_of_pos_left m hb0
  have hrun:=run_make (P:=P) w t e i zv ht hi hzv k k (m:Int) (m:Int) (by omega) (Int.le_refl _) (by rw [hby,←Int.natCast_mul];omega) (by omega)
  have hrel:=absL_rel (E:=E) (fz:=fz) (w:=w) hab
  obtain ⟨g1,g2⟩:=made_rel hrel.1 hrel.2 (by omega) m
  rw [hzl] at g1 g2
  obtain ⟨ver,E',q1,q2,q3⟩:=new_at (w':=w.alloc (.cells (madeCells zv.cells (m*n)) e)) st hdead (rest:=[]) (T:=e) n g1 g2 (by rw [List.append_nil];rfl) rfl rfl (Tp.of rfl (Nat.le_refl _))
  have hlen:(madeCells zv.cells (m*n)).toList.length=m*n:=by simp [madeCells]
  refine runs_of st (v:= .slice (some ⟨w.heap.size,0,none⟩) m m) (w':=w.alloc (.cells (madeCells zv.cells (m*n)) e)) ?_ ⟨.sl (S.length-d) ver 0 m,_,E',fz,hk ver,q3,q2,?_⟩
  · simp only [execOp,ho,hr1,hr2]
    simp only [Int.toNat_natCast,hsz] at hrun
    simp [hrun]
  · simp only [Rel]
    refine .inr ⟨_,_,_,_,m,q1,Nat.le_refl _,?_,rfl⟩
    simp [hlen]
theorem alres_sound (st:St E fz S w) {o:Oper} {t:TypeId} {z:List AVal} {k d:Nat} (ho:o.op= .alloc t) (hz:tZero P t=some z)
    (h:vcOp P F S K (.alres d k z)):RunsTo P ((execOp a.eval o).run P w) (Post K E fz S w):=by
  simp only [vcOp] at h
  obtain ⟨hd0,hdl,hdead,hk⟩:=h
  obtain ⟨v,g1,g2,g3⟩:=run_zero hz w
  obtain ⟨ver,E',q1,q2,q3⟩:=new_at (w':=w.alloc (.cells v.cells t)) st hdead (rest:=[]) (T:=t) k (g2 E fz w) g3 (by rw [List.append_nil];rfl) rfl rfl (Tp.of rfl (Nat.le_refl _))
  exact runs_of st (by simp [execOp,ho,Instr.alloc,g1,newVar,newRow];rfl) ⟨.ptr (S.length-d) ver 0,_,E',fz,hk ver,q3,q2,by simp only [Rel];exact ⟨_,_,_,_,q1,rfl⟩⟩
theorem clear_sound (st:St E fz S w) (hF:RelF E fz w F a.tmps) {o:Oper} {c:Call} {r:Rand} {t e:TypeId} {n:Nat} {z:List AVal} (ho:o.op= .call c) (hc:c.callee= .builtin .clear) (hargs:cRands c.args.toList=some [r])
    (ht:c.argTypes[0]?=some t) (hu:P.underlying t=some (.slice e)) (hn:tSize P e=some n) (hz:tZero P e=some z) (h0:0<n) (hzl:z.length=n)
    (h:vcOp P F S K (.clear n z r)):RunsTo P ((execOp a.eval o).run P w) (Post K E fz S w):=by
  have h1:=evals_rel hF hargs
  simp only [List.map_cons,List.map_nil,RelL] at h1
  obtain ⟨v,us,e1,hr,rfl⟩:=h1
  have e2:(c.args.map a.eval)[0]?=some v:=by rw [←Array.getElem?_toList,Array.toList_map,e1];rfl
  simp only [vcOp,rdK_iff] at h
  generalize rd F r=X at*
  have hzz: ∃i zv,P.info? e=some i∧i.zero=some zv∧absL zv.cells.toList=some z∧i.size=n:=by
    unfold tZero at hz
    unfold tSize at hn
    split at hz
    · rename_i i hi
      rw [hi] at hn
      split at hz
      · rename_i zv hzv
        exact ⟨i,zv,hi,hzv,hz,by simpa using hn⟩
      · cases hz
    · cases hz
  obtain ⟨i,zv,hi,hzv,hab,hsz⟩:=hzz
  have go: ∀ {w':World} {S':Store},(Builtin.clear_ c.argTypes o.type (c.args.map a.eval)).run P w= .ok (.tuple #[]) w'→Ext E fz S w E fz S' w'→St E fz S' w'→K .junk S'→RunsTo P ((execOp a.eval o).run P w) (Post K E fz S w):=fun {w' S'} hrun hx hs hk=>by
    refine runs_of st (v:= .tuple #[]) (w':=w') ?_ ⟨.junk,S',E,fz,hk,hx,hs,by simp [Rel]⟩
    simp [execOp,ho,resolve,hc,invoke,builtin,hrun]
  have zero: ∀ {ao:Option Addr} {c':Nat},v= .slice ao 0 c'→(Builtin.clear_ c.argTypes o.type (c.args.map a.eval)).run P w= .ok (.tuple #[]) w:=fun {ao c'} hv=>by
    subst hv
    cases ao<;>simp [Builtin.clear_,ht,e2,run_underlying hu]
  have same: ∀ {l ver k:Nat} {cs:List AVal} {off:Nat},S[l]?=some (.row ver k cs)→S.set l (.row ver k (setCells cs off []))=S:=fun {l ver k cs off} hl=>by
    have:setCells cs off []=cs:=by
      clear hl
      induction cs generalizing off with
      | nil=>cases off<;>rfl
      | cons c cs ih=>cases off with
        | zero=>rfl
        | succ off=>simp only [setCells];rw [ih]
    rw [this]
    exact List.ext_getElem? fun i=>by
      rw [List.getElem?_set]
      split
      · rename_i e;subst e;split
        · exact hl.symm
        · rename_i hh;rw [List.getElem?_eq_none (by omega)] at hl;cases hl
      · rfl
  cases X<;>first | exact h.elim | skip
  case nils=>
    simp only [Rel] at hr
    exact go (zero hr) .refl st h
  case sl l ver off m=>
    simp only at h
    obtain ⟨k',cs,hl,hk',hfit,hs⟩:=wRow_iff.1 h
    subst hk'
    rw [wSet_iff] at hs
    simp only [Rel] at hr
    rcases Nat.eq_zero_or_pos m with hm | hm
    · subst hm
      have hv: ∃ao c',v= .slice ao 0 c':=by
        rcases hr with ⟨_,ao,e⟩ | ⟨_,_,_,_,c',_,_,_,e⟩
        · exact ⟨ao,0,e⟩
        · exact ⟨_,c',e⟩
      obtain ⟨ao,c',hv⟩:=hv
      have e3:=same (off:=off) hl
      refine go (zero hv) .refl st ?_
      have:=hs.2
      simpa [e3] using this
    · rcases hr with ⟨hm0,_⟩ | ⟨b,base,cap,kk,c',hE,_,_,hv⟩
      · omega
      · have hrel:=absL_rel (E:=E) (fz:=fz) (w:=w) hab
        obtain ⟨g1,g2⟩:=made_rel hrel.1 hrel.2 (by omega) m
        rw [hzl] at g1 g2
        have hzs:zv.cells.size=k':=by have:=hrel.1.length;simp at this;omega
        obtain ⟨w',q1,q2,q3⟩:=put_cells (P:=P) (off:=off) st hl (by rw [flatten_rep_length,hzl];exact hfit) (fun e=>by
          have:=congrArg List.length e
          rw [flatten_rep_length,hzl] at this
          have:=Nat.mul_pos hm h0
          simp at*;omega) g1 g2 hE
        refine go ?_ q3 q2 hs.2
        subst hv
        have hzv':(zeroValue e).run P w= .ok zv w:=by simp [zeroValue,run_info hi,hzv]
        have hcells:(Builtin.zeroCells zv.cells m).toList=(madeCells zv.cells (m*k')).toList:=by
          simp [Builtin.zeroCells,madeCells,hzs]
        obtain ⟨m',rfl⟩: ∃m',m=m'+1:=⟨m-1,by omega⟩
        rw [←hcells] at q1
        simp [Builtin.clear_,ht,e2,run_underlying hu,hzv',q1]
theorem s2b_sound (st:St E fz S w) (hF:RelF E fz w F a.tmps) {o:Oper} {x:Operand} {r:Rand} {s d e:TypeId} (ho:o.op= .convert s d x) (hs:P.underlying s=some .string) (hd:P.underlying d=some (.slice e)) (he:P.underlying e=some (.int .u8)) (hx:cRand x=some r)
    (h:vcOp P F S K (.s2b r)):RunsTo P ((execOp a.eval o).run P w) (Post K E fz S w):=by
  have h1:=eval_rel hF hx
  simp only [vcOp,rdK_iff,wPush_iff] at h
  generalize rd F r=X at*
  cases X<;>first | exact h.elim | skip
  rename_i bs
  simp only [Rel] at h1
  have hrun:=run_bytes_of_string (P:=P) w s d e ⟨bs.toArray⟩ hs hd he
  have hsz:(⟨bs.toArray⟩:ByteArray).size=bs.length:=by simp [ByteArray.size]
  rw [hsz] at hrun
  have hcg:=grownCap_ge w bs.length 0 e
  generalize hcap:grownCap w bs.length 0 e=cap at hrun hcg
  have hrow:bytesRow ⟨bs.toArray⟩ cap=((bs.map fun c=>Value.int .u8 (c.toNat:Int))++List.replicate (cap-bs.length) (Value.int .u8 0)).toArray:=by
    apply Array.ext'
    simp [bytesRow,hsz]
  rw [hrow] at hrun
  obtain ⟨ver,E',p1,p2,p3⟩:=new_rowM (E:=E) (fz:=fz) (S:=S) (w:=w) (w':=w.drew.alloc (.cells ((bs.map fun c=>Value.int .u8 (c.toNat:Int))++List.replicate (cap-bs.length) (Value.int .u8 0)).toArray e
      (((bs.map fun c=>Value.int .u8 (c.toNat:Int))++List.replicate (cap-bs.length) (Value.int .u8 0)).toArray.size,((bs.map fun c=>Value.int .u8 (c.toNat:Int))++List.replicate (cap-bs.length) (Value.int .u8 0)).toArray.size+1)))
    (rest:=List.replicate (cap-bs.length) (Value.int .u8 0)) (T:=e) (cs:=bs.map fun c=>AVal.int .u8 (c.toNat:Int)) (vs:=bs.map fun c=>Value.int .u8 (c.toNat:Int)) _ _ st 1 (RelL.mk (by simp) fun i x v hx hv=>by
      simp only [List.getElem?_map] at hx hv
      cases hs:bs[i]? with
      | none=>rw [hs] at hx;cases hx
      | some c=>rw [hs] at hx hv;cases hx;cases hv;simp [Rel]) (by simp [Value.oneCell']) (.inr ⟨by omega,by simp⟩) rfl rfl rfl (Tp.of rfl (Nat.le_succ _))
  refine runs_of st (by simp only [execOp,ho,h1];simp [hrun];rfl) ⟨.sl S.length ver 0 bs.length,_,E',fz,h ver,p3,p2,?_⟩
  simp only [Rel]
  exact .inr ⟨_,_,_,_,cap,p1,hcg,by simp;omega,rfl⟩
theorem mark_sound (st:St E fz S w) (hF:RelF E fz w F a.tmps) {o:Oper} {x:Operand} {r:Rand} {s e:TypeId} (ho:o.op= .convert s s x) (hs:P.underlying s=some (.slice e)) (he:P.underlying e=some (.int .u8)) (hx:cRand x=some r)
    (h:vcOp P F S K (.mark r)):RunsTo P ((execOp a.eval o).run P w) (Post K E fz S w):=by
  have h1:=eval_rel hF hx
  simp only [vcOp,rdK_iff] at h
  generalize rd F r=X at*
  cases X<;>first | exact h.elim | skip
  rename_i l ver off n
  obtain ⟨hn,h⟩:=h
  obtain ⟨k',cs,hl,hk0,hk⟩:=wRow_iff.1 h
  have h1':=h1
  simp only [Rel] at h1'
  rcases h1' with ⟨rfl,_⟩ | ⟨b,base,cap,kk,c,hE,hle,hcap,e2⟩
  · omega
  rcases st.ok l _ hl with ⟨g1,g2⟩ | ⟨b',base',cap',arr,T,lo,hi,g1,g2,g3,g4,g5,g6,g7⟩
  · rw [hE] at g1;cases g1
  rw [hE] at g1;cases g1
  have hlt:l<S.length:=by
    rcases Nat.lt_or_ge l S.length with h | h
    · exact h
    · simp [List.getElem?_eq_none h] at hl
  have hsh:w.shape? b=some (T,arr.size):=by unfold World.shape?;rw [g2]
  obtain ⟨lo',hi',hm,hh⟩: ∃lo' hi',(lo'=hi'∨(k'=1∧arr.size≤lo'))∧(w.freeze ⟨b,arr.size,none⟩ 1).heap[b]?=some (.cells arr T (lo',hi')):=by
    by_cases c:lo=hi
    · refine ⟨arr.size,arr.size+1,.inr ⟨hk0,Nat.le_refl _⟩,?_⟩
      unfold World.freeze
      simp [Array.getElem?_modify,g2,c]
    · refine ⟨min lo arr.size,max hi (arr.size+1),.inr ⟨hk0,by omega⟩,?_⟩
      unfold World.freeze
      simp [Array.getElem?_modify,g2,c]
  have hne: ∀b':Nat,b'≠b→(w.freeze ⟨b,arr.size,none⟩ 1).heap[b']?=w.heap[b']?:=fun b' hb=>by
    unfold World.freeze
    simp [Array.getElem?_modify,Ne.symm hb]
  have hsz:(w.freeze ⟨b,arr.size,none⟩ 1).heap.size=w.heap.size:=by unfold World.freeze;simp
  have hkeep: ∀bb,fz bb→(w.freeze ⟨b,arr.size,none⟩ 1).heap[bb]?=w.heap[bb]?:=fun bb hb=>hne bb fun e=>g7 (e▸hb)
  obtain ⟨q2,q3⟩:=st.upd (E':=E) (S':=S) (w':=w.freeze ⟨b,arr.size,none⟩ 1) l (.row ver k' cs) (fun _ _ h=>h) st.fresh (fun _ _=>rfl) hl (by omega)
    (fun bb _ hno=>hne bb fun e=>hno (by subst e;exact ⟨_,hl,by simp [obBlock,hE]⟩)) (fun bb hb=>.inl (by simp [obBlock,hE] at hb;subst hb;exact ⟨_,hl,by simp [obBlock,hE]⟩))
    (.inr ⟨b,base,cap,arr,T,lo',hi',hE,hh,g3,g4,hm,RelC.mk fun i x hx=>(by
      obtain ⟨c,hc,hone,hrel⟩:=g6.get hx
      rw [cell_mk g2] at hc
      exact ⟨c,by rw [cell_mk hh];exact hc,hone,hrel.mono (fun _ _ h=>h) (fun _ h=>h) hkeep⟩),g7⟩) rfl rfl (Tp.of rfl (Nat.le_refl _))
  refine runs_of st (v:= .slice (some ⟨b,base+off,none⟩) n c) (w':=w.freeze ⟨b,arr.size,none⟩ 1) ?_ ⟨.sl l ver off n,S,E,fz,hk,q3,q2,?_⟩
  · simp only [execOp,ho,e2]
    simp [convert,run_underlying hs,run_underlying he,markStringish,hsh]
  · simp only [Rel]
    exact .inr ⟨b,base,cap,k',c,hE,hle,hcap,rfl⟩
theorem b2s_sound (st:St E fz S w) (hF:RelF E fz w F a.tmps) {o:Oper} {x:Operand} {r:Rand} {s d e:TypeId} (ho:o.op= .convert s d x) (hs:P.underlying s=some (.slice e)) (hd:P.underlying d=some .string) (he:P.underlying e=some (.int .u8)) (hx:cRand x=some r)
    (h:vcOp P F S K (.b2s r)):RunsTo P ((execOp a.eval o).run P w) (Post K E fz S w):=by
  have h1:=eval_rel hF hx
  simp only [vcOp,rdK_iff] at h
  generalize rd F r=X at*
  have go: ∀ {bs:List UInt8},(Conv.bytesToString (a.eval x)).run P w= .ok (.string ⟨bs.toArray⟩) w→(∃ao n c,a.eval x= .slice ao n c)→K (.str bs) S→RunsTo P ((execOp a.eval o).run P w) (Post K E fz S w):=fun {bs} hrun hsh hk=>by
    obtain ⟨ao,n,c,e1⟩:=hsh
    rw [e1] at hrun
    have:=run_convert_bytes_string w s d e ao n c hs he hd
    exact runs_pure st (v:= .string ⟨bs.toArray⟩) (by simp only [execOp,ho,e1];simp [this,hrun]) hk (by simp [Rel])
  have nil0: ∀ {ao:Option Addr} {c:Nat},(Conv.bytesToString (.slice ao 0 c)).run P w= .ok (.string ⟨([]:List UInt8).toArray⟩) w:=fun {ao c}=>by
    cases ao with
    | none=>simp [Conv.bytesToString];rfl
    | some ad=>
      have:=run_bytesToString (P:=P) w ad 0 c [] (by simp [loadCells,loadCellsFrom])
      rw [this];rfl
  have cells: ∀ {b off n c:Nat} {ns:List Int},RelC E fz w b off (ns.map (AVal.int .u8))→ns.length=n→(Conv.bytesToString (.slice (some ⟨b,off,none⟩) n c)).run P w= .ok (.string ⟨(ns.map fun n=>UInt8.ofNat n.toNat).toArray⟩) w:=fun {b off n c ns} hc hl=>by
    obtain ⟨vs,g1,g2,g3,g4⟩:=run_load_cells (P:=P) hc
    have e2:vs=ns.map (Value.int .u8):=by
      refine List.ext_getElem? fun i=>?_
      cases hn:ns[i]? with
      | none=>
        have l1:=g1.length
        rw [List.length_map] at l1
        have:=List.getElem?_eq_none_iff.1 hn
        rw [List.getElem?_eq_none (by omega),List.getElem?_map,hn];rfl
      | some y=>
        obtain ⟨v,q1,q2⟩:=g1.get (i:=i) (x:= .int .u8 y) (by rw [List.getElem?_map,hn];rfl)
        simp only [Rel] at q2
        rw [q1,List.getElem?_map,hn,q2];rfl
    rw [List.length_map,hl] at g3
    rw [e2] at g3
    rw [run_bytesToString w _ n c ns g3]
    congr 2
    have: ∀(l:List Int) (r:ByteArray),l.foldl (fun r n=>r.push (UInt8.ofNat n.toNat)) r=⟨r.data++(l.map fun n=>UInt8.ofNat n.toNat).toArray⟩:=by
      intro l
      induction l with
      | nil=>intro r;simp
      | cons y l ih=>intro r;simp only [List.foldl_cons];rw [ih];simp [ByteArray.push]
    rw [this]
    have he0:ByteArray.empty.data= #[]:=rfl
    rw [he0];simp
  cases X<;>simp only [wBytes] at h
  case nils=>
    simp only [Rel] at h1
    exact go (by rw [h1];exact nil0) ⟨_,_,_,h1⟩ h
  case ros n cs=>
    obtain ⟨hle,ns,e1,hk⟩:=h
    simp only [Rel] at h1
    rcases h1 with ⟨rfl,ao,c,e2⟩ | ⟨b,off,c,hb,hle2,e2,hc⟩
    · have:ns=[]:=by cases ns with | nil=>rfl | cons y l=>simp at e1
      subst this
      exact go (by rw [e2];exact nil0) ⟨_,_,_,e2⟩ hk
    · have hc':=hc.take n
      rw [e1] at hc'
      have hl:ns.length=n:=by have:=congrArg List.length e1;simp at this;omega
      exact go (by rw [e2];exact cells hc' hl) ⟨_,_,_,e2⟩ hk
  case sl l ver off n=>
    obtain ⟨k',cs,hl,hfit,ns,e1,hk⟩:=wRow_iff.1 h
    have hlen:ns.length=n:=by have:=congrArg List.length e1;simp [subL] at this;omega
    simp only [Rel] at h1
    rcases h1 with ⟨rfl,ao,e2⟩ | ⟨b,base,cap,kk,c,hE,hle,hcap,e2⟩
    · have:ns=[]:=List.length_eq_zero_iff.1 hlen
      subst this
      exact go (by rw [e2];exact nil0) ⟨_,_,_,e2⟩ hk
    · rcases st.ok l _ hl with ⟨g1,g2⟩ | ⟨b',base',cap',arr,T,lo,hi,g1,g2,g3,g4,g5,g6,g7⟩
      · rw [hE] at g1;cases g1
      · rw [hE] at g1;cases g1
        have hc':=(g6.drop off).take n
        rw [show (cs.drop off).take n=subL cs off n from rfl,e1] at hc'
        exact go (by rw [e2];exact cells hc' hlen) ⟨_,_,_,e2⟩ hk
end
end Go.Vc
end
section
namespace Go.Vc
section
variable {P : Program} {E : Env} {fz : Nat → Prop} {S : Store} {w : World} {F : Frame} {a : Act} {K : AVal → Store → Prop} {ro : Bool}
theorem cop_sound (st:St E fz S w) (hF:RelF E fz w F a.tmps) {o:Oper} {so:SOp} (hc:cop P ro o.type o.op=some so) (h:vcOp P F S K so):
    RunsTo P ((execOp a.eval o).run P w) (Post K E fz S w):=by
  cases ho:o.op<;>rw [ho] at hc<;>simp only [cop] at hc
  case move x=>
    split at hc<;>cases hc
    rename_i r hx
    exact mov_sound st hF (.inl ho) hx h
  case assign x=>
    unfold cNil at hc
    split at hc
    · split at hc<;>cases hc
      · simp only [vcOp,wPush_iff] at h
        obtain ⟨ver,E',p1,p2,p3⟩:=new_nil st (elemK P o.type)
        exact runs_of st (v:= .slice none 0 0) (by simp [execOp,ho,Act.eval]) ⟨_,_,E',fz,h ver,p3,p2,by simp only [Rel];exact .inl ⟨trivial,none,rfl⟩⟩
      · exact mov_sound st hF (.inr ho) (by simp [cRand,absV,absS]) h
    · split at hc<;>cases hc
      rename_i r hx
      exact mov_sound st hF (.inr ho) hx h
  case pick c x y=>
    split at hc<;>cases hc
    rename_i h1 h2 h3
    exact pick_sound st hF ho h1 h2 h3 h
  case alloc t=>
    split at hc<;>cases hc
    rename_i z hz
    exact alloc_sound st ho hz h
  case box t x=>
    split at hc<;>cases hc
    rename_i r hx
    exact box_sound st hF ho hx h
  case build t parts=>
    split at hc
    · rename_i z fs hz ht
      split at hc
      · rename_i hall
        split at hc<;>cases hc
        rename_i ps hps
        refine build_struct_sound st hF ho ht hz (fun f hf=>?_) hps h
        have:=List.all_eq_true.1 hall f hf
        exact Option.isSome_iff_exists.1 this
      · cases hc
    · rename_i z len e hz ht
      split at hc
      · rename_i n hn
        split at hc<;>cases hc
        rename_i ps hps
        exact build_array_sound st hF ho ht hz hn hps h
      · cases hc
    · cases hc
  case buildSlice t len parts=>
    split at hc
    · rename_i e ht
      split at hc
      · rename_i n z hn hz
        split at hc
        · rename_i hcond
          split at hc<;>cases hc
          rename_i ps hps
          exact bslice_sound st hF ho ht hn hz hcond.1 hcond.2.1 hcond.2.2 hps (Nat.le_refl _) h
        · cases hc
      · cases hc
    · cases hc
  case load t x=>
    split at hc
    · rename_i i u r hi hu hx
      refine load_sound st hF ho hi hu hx ?_
      split at hc<;>cases hc
      · rename_i hag;rw [if_pos hag];exact h
      · rename_i hag;rw [if_neg hag];exact h
    · cases hc
  case store t x v=>
    split at hc
    · rename_i n rx rv hn hx hv
      split at hc<;>cases hc
      rename_i h0
      exact store_sound st hF ho hn h0 hx hv h
    · cases hc
  case nilCheck x=>
    split at hc<;>cases hc
    rename_i r hx
    exact nilchk_sound st hF ho hx h
  case binOp op t x y u=>
    split at hc
    · rename_i so' hs
      cases hc
      unfold cIsnil at hs
      split at hs
      · rename_i e rx ht hx
        split at hs<;>cases hs
        · exact isnil_sound st hF ho ht hx (.inl ⟨rfl,rfl⟩) h
        · exact isnil_sound st hF ho ht hx (.inr ⟨rfl,rfl⟩) h
      · cases hs
    · split at hc
      · rename_i so' hs
        cases hc
        unfold cPeq at hs
        split at hs
        · rename_i hqq
          split at hs<;>cases hs
          · exact peq_sound st hF ho (by assumption) (.inl ⟨rfl,rfl⟩) h
          · exact peq_sound st hF ho (by assumption) (.inr ⟨rfl,rfl⟩) h
        · cases hs
      · split at hc<;>cases hc
        rename_i q rx ry hq hx hy
        exact bin_sound st hF ho hq hx hy h
  case unOp op t x=>
    cases op<;>simp only at hc<;>first | (cases hc;done) | skip
    all_goals
      split at hc<;>cases hc
      rename_i r hx
    · exact un_sound st hF hx (.inr ⟨ho,h⟩)
    · exact un_sound st hF hx (.inl ⟨ho,h⟩)
  case convert s d x=>
    split at hc
    · rename_i u k r hs hd hx;cases hc;exact conv_sound st hF ho hs hd hx h
    · rename_i r hs hd hx;cases hc;exact strid_sound st hF ho hs hd hx h
    · rename_i e r hs hd hx;split at hc<;>cases hc;rename_i he;exact s2b_sound st hF ho hs hd he hx h
    · rename_i e e' r hs hd hx;split at hc
      · rename_i hsd;subst hsd;split at hc<;>cases hc;rename_i he;exact mark_sound st hF ho hs he hx h
      · cases hc
    · rename_i e r hs hd hx;split at hc<;>cases hc;rename_i he;exact b2s_sound st hF ho hs hd he hx h
    · cases hc
  case makeSlice t l c=>
    split at hc
    · rename_i e ht
      split at hc
      · rename_i n b z rl rc hn hb hz hl hcc
        split at hc<;>cases hc
        rename_i hcond
        exact mkslice_sound st hF ho ht hn hb hz hcond.1 hcond.2.1 hcond.2.2 hl hcc h
      · cases hc
    · cases hc
  case makeMap t r=>
    split at hc
    · rename_i k e ht
      split at hc
      · cases hc;exact mkmap_sound st ho ht (.inl rfl) h
      · cases hc;exact mkmap_sound st ho ht (.inr ⟨_,_,rfl⟩) h
      · cases hc
    · cases hc
  case lookup t m k ok=>
    split at hc
    · rename_i kt e rm rk ht hm hk
      split at hc
      · rename_i q z hq hz;cases hc;exact mlook_sound st hF ho ht hq hz hm hk h
      · cases hc
    · cases hc
  case mapUpdate t m k x=>
    unfold cMupd at hc
    split at hc
    · rename_i kt e rm rk rx ht hm hk hx
      split at hc
      · rename_i q hq;cases hc;exact mupd_sound st hF (.inl ho) ht hq hm hk hx h
      · cases hc
    · cases hc
  case insert t m k x=>
    unfold cMupd at hc
    split at hc
    · rename_i kt e rm rk rx ht hm hk hx
      split at hc
      · rename_i q hq;cases hc;exact mupd_sound st hF (.inr ho) ht hq hm hk hx h
      · cases hc
    · cases hc
  case mapEntry t m k=>
    split at hc
    · rename_i kt e rm rk ht hm hk
      split at hc
      · rename_i q z hq hz;cases hc;exact ment_sound st hF ho ht hq hz hm hk h
      · cases hc
    · cases hc
  case range t x=>
    split at hc<;>cases hc
    rename_i k e r ht hx
    exact mrange_sound st hF ho ht hx h
  case next x b=>
    split at hc<;>cases hc
    rename_i r hx
    exact mnext_sound st hF ho hx h
  case entry x=>
    split at hc<;>cases hc
    rename_i r hx
    exact mentry_sound st hF ho hx h
  case entryStore t m i x=>
    split at hc
    · rename_i rm ri rx hm hi hx;cases hc;exact mset_sound st hF ho hm hi hx h
    · cases hc
  case slice t x lo hi mx=>
    cases mx with
    | none=>
      have hc:cop P ro o.type (.slice t x lo hi none)=some so:=hc
      unfold cop at hc
      simp only at hc
      split at hc
      · rename_i rx rlo rhi ht hx hlo hhi;cases hc;exact slice_str_sound st hF ho ht hx hlo hhi h
      · rename_i e rx rlo rhi ht hx hlo hhi
        split at hc<;>cases hc
        rename_i n hn
        exact slice_slice_sound st hF ho ht hn hx hlo hhi h
      · rename_i n e rx ht hx hlo hhi
        split at hc<;>cases hc
        rename_i hn
        cases lo with
        | some y=>simp only [cOpt] at hlo;split at hlo<;>cases hlo
        | none=>cases hi with
          | some y=>simp only [cOpt] at hhi;split at hhi<;>cases hhi
          | none=>exact aslice_sound st hF ho ht hn hx h
      · cases hc
    | some mx=>
      cases lo with
      | some lo=>cases hi<;>cases hc
      | none=>
        cases hi with
        | none=>cases hc
        | some hi=>
          have hc:cop P ro o.type (.slice t x none (some hi) (some mx))=some so:=hc
          unfold cop at hc
          simp only at hc
          split at hc
          · rename_i e rx rh rm ht hx hh hm
            split at hc<;>cases hc
            rename_i n hn
            exact slice3_sound st hF ho ht hn hx hh hm h
          · cases hc
  case fieldAddr s x f=>
    split at hc
    · rename_i fs r hs hx
      split at hc
      · rename_i fd hf
        split at hc<;>cases hc
        rename_i n hn
        exact faddr_sound st hF ho hs hf hn hx h
      · cases hc
    · cases hc
  case field t x f=>
    split at hc
    · rename_i fs r hs hx
      split at hc
      · rename_i fd hf
        split at hc
        · rename_i u n hu hn
          refine field_sound st hF ho hs hf hu hn hx ?_
          split at hc<;>cases hc
          · rename_i hag;rw [if_pos hag];exact h
          · rename_i hag;rw [if_neg hag];exact h
        · cases hc
      · cases hc
    · cases hc
  case indexAddr t x i=>
    split at hc
    · rename_i e rx ri ht hx hi
      split at hc<;>cases hc
      rename_i n hn
      exact iaddr_slice_sound st hF ho ht hn hx hi h
    · rename_i len e rx ri ht hx hi
      split at hc<;>cases hc
      rename_i n hn
      exact iaddr_array_sound st hF ho ht hn hx hi h
    · cases hc
  case index t x i=>
    split at hc
    · rename_i rx ri ht hx hi;cases hc;exact index_str_sound st hF ho ht hx hi h
    · rename_i len e rx ri ht hx hi
      split at hc
      · rename_i u n hu hn
        split at hc
        · rename_i hag
          cases hc
          refine index_array_sound st hF ho ht hu hn (fun e=>by rw [hag] at e;cases e) hx hi ?_
          rw [hag];exact h
        · rename_i hag
          split at hc<;>cases hc
          rename_i h1
          subst h1
          have hag':isAggD u=false:=by simpa using hag
          refine index_array_sound st hF ho ht hu hn (fun _=>rfl) hx hi ?_
          rw [hag'];exact h
      · cases hc
    · cases hc
  case makeInterface t x=>
    split at hc
    · cases hc
    · rename_i d r hd h1 h2
      cases hc
      exact mkif_sound st hF ho h1 (fun m e=>hd m (e)) h2 h
    · cases hc
  case makeFunc f x y=>
    split at hc<;>cases hc
    rename_i h1 h2
    exact mkfunc_sound st hF ho h1 h2 h
  case extract x i=>
    split at hc<;>cases hc
    rename_i r hx
    exact extract_sound st hF ho hx h
  case call c=>
    split at hc
    · rename_i x hcal hargs
      split at hc
      · rename_i ht
        cases hc
        obtain ⟨t,ht0,ht⟩:=Option.bind_eq_some_iff.1 ht
        exact len_sound st hF ho hcal hargs ht0 (.inl ⟨rfl,ht⟩) h
      · rename_i e ht
        cases hc
        obtain ⟨t,ht0,ht⟩:=Option.bind_eq_some_iff.1 ht
        exact len_sound st hF ho hcal hargs ht0 (.inr ⟨rfl,e,ht⟩) h
      · cases hc
    · rename_i rs rx hcal hargs
      split at hc
      · rename_i e u ht hu
        obtain ⟨t,ht0,ht⟩:=Option.bind_eq_some_iff.1 ht
        obtain ⟨tu,ht1,hu⟩:=Option.bind_eq_some_iff.1 hu
        split at hc
        · rename_i i hi
          split at hc
          · rename_i z e' hz _
            split at hc<;>cases hc
            rename_i hcond
            exact append_sound st hF ho hcal hargs ht0 ht1 ht hu (.inl ⟨_,rfl⟩) hi hz hcond.1 hcond.2.1 hcond.2.2 h
          · rename_i z hz _
            split at hc<;>cases hc
            rename_i hcond
            exact append_sound st hF ho hcal hargs ht0 ht1 ht hu (.inr rfl) hi hz hcond.1 hcond.2.1 hcond.2.2 h
          · cases hc
        · cases hc
      · cases hc
    · rename_i x hcal hargs
      split at hc
      · rename_i e ht
        obtain ⟨t,ht0,ht⟩:=Option.bind_eq_some_iff.1 ht
        split at hc
        · rename_i n z hn hz
          split at hc<;>cases hc
          rename_i hcond
          exact clear_sound st hF ho hcal hargs ht0 ht hn hz hcond.1 hcond.2 h
        · cases hc
      · cases hc
    · rename_i xs hcal hargs;cases hc;exact minmax_sound st hF ho hargs (.inl ⟨hcal,h⟩)
    · rename_i xs hcal hargs;cases hc;exact minmax_sound st hF ho hargs (.inr ⟨hcal,h⟩)
    · rename_i f xs hcal hargs
      split at hc
      · cases hc
        rename_i hf
        exact call_sound st hF ho hcal hargs hf h
      · split at hc<;>cases hc
        rename_i hk
        exact ext_sound st hF ho hcal hargs hk h
    · rename_i x xs _ hcal hargs
      split at hc<;>cases hc
      rename_i r hx
      exact callv_sound st hF ho hcal hargs hx h
    · cases hc
  all_goals cases hc
theorem cop_append {c:Call} {ty:TypeId} {k b:Nat} {s x:Rand} (hc:cop P ro ty (.call c)=some (.append k b s x)):c.callee= .builtin .append∧cRands c.args.toList=some [s,x]∧ ∃t u e ut i z,c.argTypes[0]?=some t∧c.argTypes[1]?=some u∧
    P.underlying t=some (.slice e)∧P.underlying u=some ut∧((∃e',ut= .slice e')∨ut= .string)∧P.info? e=some i∧i.zero=some z∧0<i.size∧0<i.bytes∧z.cells.size=i.size∧i.size=k∧i.bytes=b:=by
  simp only [cop] at hc
  split at hc
  · split at hc<;>cases hc
  · rename_i rs rx hcal hargs
    split at hc
    · rename_i e u ht hu
      obtain ⟨t,ht0,ht⟩:=Option.bind_eq_some_iff.1 ht
      obtain ⟨tu,ht1,hu⟩:=Option.bind_eq_some_iff.1 hu
      split at hc
      · rename_i i hi
        split at hc
        · rename_i z e' hz _
          split at hc<;>cases hc
          rename_i hcond
          exact ⟨hcal,hargs,t,tu,e,_,i,z,ht0,ht1,ht,hu,.inl ⟨_,rfl⟩,hi,hz,hcond.1,hcond.2.1,hcond.2.2,rfl,rfl⟩
        · rename_i z hz _
          split at hc<;>cases hc
          rename_i hcond
          exact ⟨hcal,hargs,t,tu,e,_,i,z,ht0,ht1,ht,hu,.inr rfl,hi,hz,hcond.1,hcond.2.1,hcond.2.2,rfl,rfl⟩
        · cases hc
      · cases hc
    · cases hc
  · split at hc
    · split at hc
      · split at hc<;>cases hc
      · cases hc
    · cases hc
  · cases hc
  · cases hc
  · split at hc
    · cases hc
    · split at hc<;>cases hc
  · split at hc<;>cases hc
  · cases hc
def copR (P:Program) (ro:Bool) (hint:SOp) (ty:TypeId) (op:Op):SOp:=
  match hint,op with
  | .mkres d _ _ _ _ _,.makeSlice t l c=>(match P.underlying t with
    | some (.slice e)=>(match tSize P e,tBytes P e,tZero P e,cRand l,cRand c with
      | some n,some b,some z,some l,some c=>if 0<n∧0<b∧z.length=n then .mkres d n b z l c else .bad
      | _,_,_,_,_=>.bad)
    | _=>.bad)
  | .mapres d,.makeMap t r=>(match P.underlying t with
    | some (.map _ _)=>(match r with | none=>.mapres d | some (.const (.int _ _))=>.mapres d | some _=>.bad)
    | _=>.bad)
  | .calres d k _ _ zs,.call c=>(match cop P ro ty (.call c) with | some (.call f args)=>.calres d k f args zs | _=>.bad)
  | .bslice false _ 0 _ _,.buildSlice t l p=>(match cop P false ty (.buildSlice t l p) with | some (.bslice false len k z ps)=>.bslice false len 0 z ps | _=>.bad)
  | .clres d k _ _,.call c=>(match cop P ro ty (.call c) with | some (.call f args)=>.clres d k f args | _=>.bad)
  | .rcall _ _,.call c=>(match cop P ro ty (.call c) with | some (.call f args)=>.rcall f args | _=>.bad)
  | .alres d _ _,.alloc t=>(match tZero P t with | some z=>.alres d (kOf P t) z | none=>.bad)
  | .appk _ _ _ _,.call c=>(match cop P ro ty (.call c) with | some (.append k b s x)=>.appk k b s x | _=>.bad)
  | _,op=>(match cop P ro ty op with | some so=>so | none=>.bad)
theorem copR_sound (st:St E fz S w) (hF:RelF E fz w F a.tmps) {o:Oper} {hint so:SOp} (hc:copR P ro hint o.type o.op=so) (h:vcOp P F S K so):
    RunsTo P ((execOp a.eval o).run P w) (Post K E fz S w):=by
  unfold copR at hc
  split at hc
  · rename_i d _ _ _ _ _ t l c ho
    split at hc
    · rename_i e ht
      split at hc
      · rename_i n b z rl rc hn hb hz hl hcc
        split at hc
        · rename_i hcond
          subst hc
          exact mkres_sound st hF ho ht hn hb hz hcond.1 hcond.2.1 hcond.2.2 hl hcc h
        · subst hc;exact h.elim
      · subst hc;exact h.elim
    · subst hc;exact h.elim
  · rename_i d t r ho
    split at hc
    · rename_i ht
      split at hc<;>subst hc<;>first | exact h.elim | skip
      · exact mapres_sound st ho ht (.inl rfl) h
      · exact mapres_sound st ho ht (.inr ⟨_,_,rfl⟩) h
    · subst hc;exact h.elim
  · rename_i d k _ _ zs c ho
    split at hc
    · rename_i f args hs
      subst hc
      simp only [vcOp,rdsK_iff] at h
      obtain ⟨h1,h2,h3,h4,h5⟩:=h
      exact cop_sound st hF (ho▸hs) (by simp only [vcOp,rdsK_iff];exact h1.kept (by omega) h5)
    · subst hc;exact h.elim
  · rename_i t l p ho
    split at hc
    · rename_i len k z ps hs
      subst hc
      simp only [cop] at hs
      split at hs
      · rename_i e ht
        split at hs
        · rename_i n z' hn hz
          split at hs
          · rename_i hcond
            split at hs
            · rename_i ps' hps
              cases hs
              exact bslice_sound st hF ho ht hn hz hcond.1 hcond.2.1 hcond.2.2 hps (Nat.zero_le _) h
            · cases hs
          · cases hs
        · cases hs
      · cases hs
    · subst hc;exact h.elim
  · rename_i d k _ _ c ho
    split at hc
    · rename_i f args hs
      subst hc
      simp only [vcOp,rdsK_iff] at h
      obtain ⟨n,cs,h1,h2,h3,h4,h5⟩:=h
      exact cop_sound st hF (ho▸hs) (by
        simp only [vcOp,rdsK_iff]
        exact h1.weak fun r S' ⟨v,e1,e2⟩=>by subst e1;subst e2;exact ⟨.sl (S.length-d) v 0 n,_,_,LeV.sl,Sub.put (by omega),h5 v⟩)
    · subst hc;exact h.elim
  · rename_i c ho
    split at hc
    · rename_i f args hs
      subst hc
      simp only [vcOp,rdsK_iff] at h
      obtain ⟨r0,h1,h2⟩:=h
      exact cop_sound st hF (ho▸hs) (by simp only [vcOp,rdsK_iff];exact h1.frame0 fun r S' q=>⟨r,id,[],.refl r,.nil,by rw [List.append_nil,q];exact h2⟩)
    · subst hc;exact h.elim
  · rename_i d _ _ t ho
    split at hc
    · rename_i z hz
      subst hc
      exact alres_sound st ho hz h
    · subst hc;exact h.elim
  · rename_i c ho
    split at hc
    · rename_i k b s x hs
      subst hc
      obtain ⟨hcal,hargs,t,u,e,ut,i,z,ht0,ht1,ht,hu,hut,hi,hz,c1,c2,c3,rfl,rfl⟩:=cop_append hs
      exact appk_sound st hF ho hcal hargs ht0 ht1 ht hu hut hi hz c1 c2 c3 h
    · subst hc;exact h.elim
  · split at hc
    · rename_i so' hs
      subst hc
      exact cop_sound st hF hs h
    · subst hc;exact h.elim
def SOp.tame:SOp→Bool
  | .mark _ | .b2s _ | .s2b _ | .peq _ _ _ | .isnil _ _ | .clear _ _ _ | .mapres _ | .mkmap | .mlook _ _ _ _ _ | .mupd _ _ _ _ | .ment _ _ _ _ | .mset _ _ _ | .mrange _ | .mnext _ | .mentry _ | .bad | .nilchk _=>false
  | _=>true
inductive EqPlain:Value→Value→Prop
  | bool (a b:Bool):EqPlain (.bool a) (.bool b)
  | ptrL (b:Option Addr):EqPlain (.pointer none) (.pointer b)
  | ptrR (a:Option Addr):EqPlain (.pointer a) (.pointer none)
  | ff:EqPlain .nilFunc .nilFunc
  | fn (f:Fn) (x y:Array Value):EqPlain (.func f x y) .nilFunc
  | mm:EqPlain (.map none) (.map none)
  | mn (b:Nat):EqPlain (.map (some b)) (.map none)
open Go.Vk in
theorem equal_tame {t:TypeId} {v u:Value} (h:EqPlain v u):Go.Vk.Tame P (Op.equal t v u):=by
  rw [equal_eq]
  generalize 9999=dp
  simp only [Op.equalIn]
  refine Tame.bind (fun d=>?_) tame_underlying
  cases h
  case ptrL b=>
    cases b<;>cases d
    case none.unsafePointer=>exact Tame.pure
    case some.unsafePointer=>exact Tame.pure
    all_goals exact tms
  case ptrR b=>
    cases b<;>cases d
    case none.unsafePointer=>exact Tame.pure
    case some.unsafePointer=>exact Tame.pure
    all_goals exact tms
  all_goals cases d<;>exact tms
theorem cells_plain {E:Env} {fz:Nat→Prop} {w:World}: ∀ {ks:List FK} {xs ys:List AVal} {K:Bool→Prop},cellsEq ks xs ys K→(∃r,K r)∧ ∀ {vs us:List Value},RelL E fz w xs vs→RelL E fz w ys us→(∀c∈vs,Go.Vk.EqC c)∧ ∀c∈us,Go.Vk.EqC c
  | [],[],[],K,h=>⟨⟨true,h⟩,fun {vs us} h1 h2=>by
    simp only [RelL] at h1 h2
    subst h1;subst h2
    exact ⟨fun c hc=>by simp at hc,fun c hc=>by simp at hc⟩⟩
  | [],[],_::_,K,h=>by simp [cellsEq] at h
  | [],_::_,_,K,h=>by simp [cellsEq] at h
  | k::ks,[],ys,K,h=>by cases k<;>simp [cellsEq] at h
  | k::ks,x::xs,[],K,h=>by cases k<;>cases x<;>simp [cellsEq] at h
  | k::ks,x::xs,y::ys,K,h=>by
    have go: ∀ {K':Bool→Prop},cellsEq ks xs ys K'→(∀ {v:Value},Rel E fz w x v→Go.Vk.EqC v)→(∀ {v:Value},Rel E fz w y v→Go.Vk.EqC v)→(∃r,K' r)∧ ∀ {vs us:List Value},RelL E fz w (x::xs) vs→RelL E fz w (y::ys) us→(∀c∈vs,Go.Vk.EqC c)∧ ∀c∈us,Go.Vk.EqC c:=fun {K'} hk hx hy=>by
      obtain ⟨q1,q2⟩:=cells_plain (E:=E) (fz:=fz) (w:=w) hk
      refine ⟨q1,fun {vs us} h1 h2=>?_⟩
      simp only [RelL] at h1 h2
      obtain ⟨v,vs',rfl,a1,a2⟩:=h1
      obtain ⟨u,us',rfl,b1,b2⟩:=h2
      obtain ⟨g1,g2⟩:=q2 a2 b2
      exact ⟨fun c hc=>(List.mem_cons.1 hc).elim (fun e=>e▸hx a1) (g1 c),fun c hc=>(List.mem_cons.1 hc).elim (fun e=>e▸hy b1) (g2 c)⟩
    cases k<;>cases x<;>cases y<;>simp only [cellsEq] at h<;>first | exact h.elim | skip
    case int.int.int=>
      obtain ⟨⟨r,hr⟩,q⟩:=go h.2 (fun h=>by simp only [Rel] at h;rw [h];exact .int _ _) (fun h=>by simp only [Rel] at h;rw [h];exact .int _ _)
      exact ⟨⟨_,hr⟩,q⟩
    case str.str.str=>
      obtain ⟨⟨r,hr⟩,q⟩:=go h (fun h=>by simp only [Rel] at h;rw [h];exact .str _) (fun h=>by simp only [Rel] at h;rw [h];exact .str _)
      exact ⟨⟨_,hr⟩,q⟩
    case bool.bool.bool=>
      obtain ⟨⟨r,hr⟩,q⟩:=go h (fun h=>by simp only [Rel] at h;rw [h];exact .bool _) (fun h=>by simp only [Rel] at h;rw [h];exact .bool _)
      exact ⟨⟨_,hr⟩,q⟩
open Go.Vk in
theorem ext_tame {P:Program} {E:Env} {fz:Nat→Prop} {w:World} {f:FuncId} {k:ExtK} {X:List AVal} {vals:List Value} {args:Array Value} {K:AVal→Prop} (hf:extK P f=some k) (h:vcExt k X K) (hr:RelL E fz w X vals) (ha:args=vals.toArray):Go.Vk.Tame P (callFunc f args):=by
  have key: ∀ {fn:Func} {e:Array Value→Sem Value},P.funcs[f]?=some fn→(fn.name == "runtime.NumGoroutine")=false→fn.body.isNone=true→Extern.findNext fn=none→Extern.find fn=some e→Tame P (e args)→Tame P (callFunc f args):=fun {fn e} h1 h2 h3 h4 h5 h6=>by
    show Tame P (Sem.bind program _)
    simp only [program,Bind.bind,Sem.bind,Tame,h1,h2,h3,h4,h5,Bool.false_eq_true,if_false,if_true]
    exact ⟨.inr ⟨f,rfl⟩,Tame.bind (fun _=>Tame.pure) h6⟩
  have tb: ∀s,Tame P (Extern.Bytes.bytesOf (.string s)):=fun _=>trivial
  have ta: ∀n,Tame P (Extern.Bytes.asByte (.int .u8 n)):=fun _=>trivial
  unfold extK at hf
  split at hf
  · rename_i fn hfn
    split at hf
    · rename_i hb
      simp only [Bool.and_eq_true] at hb
      split at hf
      · rename_i hn
        have hn:=eq_of_beq hn
        cases hf
        refine key hfn (by rw [hn];rfl) hb.1 (Option.isNone_iff_eq_none.1 hb.2) (find_idxb hn) ?_
        unfold vcExt at h
        split at h<;>first | (rename_i q;cases q;done) | exact h.elim | skip
        all_goals
          simp only [RelL,Rel] at hr
          obtain ⟨v,us,e1,rfl,u,us',rfl,rfl,rfl⟩:=hr
          subst e1;subst ha
          change Tame P (do
            let b ←Extern.Bytes.bytesOf (.string _)
            let c ←Extern.Bytes.asByte (.int .u8 _)
            match (List.range b.size).find? fun i=>b[i]! == c with
            | some i=>pure (goInt i)
            | none=>pure (goInt (-1)))
          refine Tame.bind (fun b=>Tame.bind (fun c=>?_) (ta _)) (tb _)
          split<;>exact Tame.pure
      · split at hf
        · rename_i hn
          have hn:=eq_of_beq hn
          cases hf
          refine key hfn (by rw [hn];rfl) hb.1 (Option.isNone_iff_eq_none.1 hb.2) (find_cnt hn) ?_
          unfold vcExt at h
          split at h<;>first | (rename_i q;cases q;done) | exact h.elim | skip
          all_goals
            simp only [RelL,Rel] at hr
            obtain ⟨v,us,e1,rfl,u,us',rfl,rfl,rfl⟩:=hr
            subst e1;subst ha
            change Tame P (do
              let b ←Extern.Bytes.bytesOf (.string _)
              let c ←Extern.Bytes.asByte (.int .u8 _)
              pure (goInt (b.foldl (fun n x=>if x == c then n+1 else n) (0:Nat))))
            exact Tame.bind (fun b=>Tame.bind (fun c=>Tame.pure) (ta _)) (tb _)
        · cases hf
    · cases hf
  · cases hf
open Go.Vk in
theorem bin_tame {op:BinOp} {t u:TypeId} {x y:Operand} {rx ry:Rand} {q:EqQ} (hF:RelF E fz w F a.tmps) {o:Oper} (ho:o.op= .binOp op t x y u) (hx:cRand x=some rx) (hy:cRand y=some ry)
    (h:vcOp P F S K (.bin q op rx ry)) (ht:(SOp.bin q op rx ry).tame=true):Go.Vk.Tame P (execOp a.eval o):=by
  have h1:=eval_rel hF hx
  have h2:=eval_rel hF hy
  simp only [vcOp,rdK_iff] at h
  generalize rd F rx=X at*
  generalize rd F ry=Y at*
  have fin:(∀ {v u:Value},a.eval x=v→a.eval y=u→(∀d,v≠ .nilIface∧v≠ .agg d)→Tame P (binOp op t v u)→Tame P (execOp a.eval o)):=fun {v u} e1 e2 hne hb=>by
    simp only [execOp,ho]
    refine Tame.bind (fun _=>Tame.pure) (Tame.bind (fun _=>by rw [e1,e2];exact hb) ?_)
    have:eqGuard op t x y v u=pure ():=by
      cases v<;>first | (cases op<;>rfl) | exact ((hne #[]).1 rfl).elim | (rename_i cs;exact ((hne cs).2 rfl).elim)
    rw [e1,e2,this];exact Tame.pure
  have eqs: ∀ {v u:Value},Tame P (Op.equal t v u)→(op= .eql∨op= .neq)→binOp .eql t v u=(do pure (.bool (←Op.equal t v u)))→binOp .neq t v u=(do pure (.bool (!(←Op.equal t v u))))→Tame P (binOp op t v u):=fun {v u} hh ho e1 e2=>by
    rcases ho with rfl | rfl
    · rw [e1];exact Tame.bind (fun _=>Tame.pure) hh
    · rw [e2];exact Tame.bind (fun _=>Tame.pure) hh
  have eqk: ∀ {r:Bool},eqK op r (fun x=>K x S)→op= .eql∨op= .neq:=fun {r} hk=>by
    cases op<;>first | exact hk.elim | exact .inl rfl | exact .inr rfl
  cases X<;>cases Y<;>simp only [vcBin] at h<;>first | exact h.elim | skip
  case int.int k n k' m=>
    simp only [Rel] at h1 h2
    refine fin h1 h2 (fun d=>⟨by simp,by simp⟩) ?_
    have aux: ∀ {b:Bool},True:=fun {b}=>trivial
    cases op<;>simp only [binOp]<;>(try simp only [Op.shift,Op.intArith,Op.intDiv,Op.intBits,Op.intCmp])<;>exact tms
  case str.str s s'=>
    simp only [Rel] at h1 h2
    refine fin h1 h2 (fun d=>⟨by simp,by simp⟩) ?_
    cases op<;>simp only [binOp]<;>exact tame_stringOp
  case bool.bool b b'=>
    simp only [Rel] at h1 h2
    cases q<;>simp only at h<;>first | exact h.elim | skip
    exact fin h1 h2 (fun d=>⟨by simp,by simp⟩) (eqs (equal_tame (.bool _ _)) (eqk h) rfl rfl)
  case agg.agg xs ys=>
    cases q<;>simp only at h<;>first | exact h.elim | skip
    simp only [Rel] at h1 h2
    obtain ⟨vs,e1,r1,_⟩:=h1
    obtain ⟨us,e2,r2,_⟩:=h2
    obtain ⟨⟨r,hk⟩,hp⟩:=cells_plain (E:=E) (fz:=fz) (w:=w) h
    obtain ⟨p1,p2⟩:=hp r1 r2
    have hq:Tame P (Op.equal t (.agg vs.toArray) (.agg us.toArray)):=by
      unfold Op.equal
      exact (Go.Vk.equal_mute _ _ _ _ (.agg fun x hx=>p1 x (by simpa using hx)) (.agg fun x hx=>p2 x (by simpa using hx))).tame
    simp only [execOp,ho]
    refine Tame.bind (fun _=>Tame.pure) (Tame.bind (fun _=>?_) Go.Vk.eqGuard_mute.tame)
    rw [e1,e2]
    exact eqs hq (eqk hk) rfl rfl
  all_goals
    simp only [Rel] at h1 h2
    cases q<;>simp only at h<;>first | exact h.elim | skip
  case nilp.nilp.ptr=>exact fin h1 h2 (fun d=>⟨by simp,by simp⟩) (eqs (equal_tame (.ptrL _)) (eqk h) rfl rfl)
  case ptr.nilp.ptr=>
    obtain ⟨b,base,cap,k,_,h1⟩:=h1
    exact fin h1 h2 (fun d=>⟨by simp,by simp⟩) (eqs (equal_tame (.ptrR _)) (eqk h) rfl rfl)
  case nilp.ptr.ptr=>
    obtain ⟨b,base,cap,k,_,h2⟩:=h2
    exact fin h1 h2 (fun d=>⟨by simp,by simp⟩) (eqs (equal_tame (.ptrL _)) (eqk h) rfl rfl)
  case rop.nilp.ptr=>
    obtain ⟨b,off,_,h1,_⟩:=h1
    exact fin h1 h2 (fun d=>⟨by simp,by simp⟩) (eqs (equal_tame (.ptrR _)) (eqk h) rfl rfl)
  case nilp.rop.ptr=>
    obtain ⟨b,off,_,h2,_⟩:=h2
    exact fin h1 h2 (fun d=>⟨by simp,by simp⟩) (eqs (equal_tame (.ptrL _)) (eqk h) rfl rfl)
  case nilf.nilf.func=>exact fin h1 h2 (fun d=>⟨by simp,by simp⟩) (eqs (equal_tame .ff) (eqk h) rfl rfl)
  case fn.nilf.func=>
    obtain ⟨vs,us,h1,_,_⟩:=h1
    exact fin h1 h2 (fun d=>⟨by simp,by simp⟩) (eqs (equal_tame (.fn _ _ _)) (eqk h) rfl rfl)
  case nilm.nilm.map=>exact fin h1 h2 (fun d=>⟨by simp,by simp⟩) (eqs (equal_tame .mm) (eqk h) rfl rfl)
  case map.nilm.map=>
    obtain ⟨b,_,h1⟩:=h1
    exact fin h1 h2 (fun d=>⟨by simp,by simp⟩) (eqs (equal_tame (.mn _)) (eqk h) rfl rfl)
open Go.Vk in
theorem cop_tame (st:St E fz S w) (hF:RelF E fz w F a.tmps) {o:Oper} {so:SOp} (hc:cop P ro o.type o.op=some so) (h:vcOp P F S K so) (ht:so.tame=true):Go.Vk.Tame P (execOp a.eval o):=by
  have cl: ∀(f:FuncId) (args:Array Value),callable P f=true→Tame P (callFunc f args):=fun f args hf=>by
    unfold callable at hf
    cases hfn:P.funcs[f]? with
    | none=>rw [hfn] at hf;cases hf
    | some fn=>
      rw [hfn] at hf
      simp only [Bool.and_eq_true,bne_iff_ne,ne_eq] at hf
      have h3:fn.body.isNone=false:=by cases hh:fn.body<;>simp_all
      have h4:(fn.name == "runtime.NumGoroutine")=false:=by simpa using hf.2
      show Tame P (Sem.bind program _)
      simp only [program,Bind.bind,Sem.bind,Tame,hfn,h4,h3,Bool.false_eq_true,if_false]
      exact Tame.pure
  cases ho:o.op<;>rw [ho] at hc<;>simp only [cop] at hc<;>first | (cases hc;done) | skip
  case move x=>simp only [execOp,ho];exact Tame.pure
  case assign x=>simp only [execOp,ho];exact Tame.pure
  case pick c x y=>simp only [execOp,ho];exact Tame.bind (fun _=>Tame.pure) tame_asBool
  case alloc t=>simp only [execOp,ho];exact Tame.bind (fun _=>Tame.pure) tame_alloc
  case box t x=>simp only [execOp,ho];exact Tame.bind (fun _=>Tame.pure) tame_box
  case build t ps=>simp only [execOp,ho];exact Tame.bind (fun _=>Tame.pure) tame_build
  case buildSlice t n ps=>simp only [execOp,ho];exact Tame.bind (fun _=>Tame.pure) tame_buildSlice
  case load t x=>simp only [execOp,ho];exact Tame.bind (fun _=>Tame.pure) tame_loadAt
  case store t x v=>simp only [execOp,ho];exact Tame.bind (fun _=>Tame.pure) tame_storeAt
  case nilCheck x=>split at hc<;>cases hc;simp [SOp.tame] at ht
  case binOp op t x y u=>
    split at hc
    · rename_i so' hs
      cases hc
      unfold cIsnil at hs
      split at hs
      · split at hs<;>cases hs<;>simp [SOp.tame] at ht
      · cases hs
    · split at hc
      · rename_i so' hs
        cases hc
        unfold cPeq at hs
        split at hs
        · split at hs<;>cases hs<;>simp [SOp.tame] at ht
        · cases hs
      · split at hc<;>cases hc
        rename_i q rx ry hq hx hy
        exact bin_tame hF ho hx hy h ht
  case unOp op t x=>
    simp only [execOp,ho]
    refine Tame.bind (fun _=>Tame.pure) ?_
    unfold Op.unary
    repeat' first | exact Tame.pure | exact tame_stuck | exact tame_unsupported | split
    all_goals (try unfold Op.intArith)<;>(try unfold Op.intBits)<;>exact tms
  case convert s d x=>
    simp only [execOp,ho]
    refine Tame.bind (fun _=>Tame.pure) ?_
    split at hc<;>first | (cases hc;done) | skip
    · rename_i s' k r hs hd hx
      cases hc
      have h1:=eval_rel hF hx
      simp only [vcOp,rdK_iff] at h
      generalize rd F r=X at*
      cases X<;>simp only [wInt] at h<;>first | exact h.elim | skip
      simp only [Rel] at h1
      unfold convert
      rw [h1]
      refine Tame.under hs (Tame.under hd ?_)
      simp only [Conv.intToInt]
      exact tms
    · rename_i r hs hd hx
      cases hc
      have h1:=eval_rel hF hx
      simp only [vcOp,rdK_iff] at h
      generalize rd F r=X at*
      cases X<;>simp only [wStr] at h<;>first | exact h.elim | skip
      simp only [Rel] at h1
      unfold convert
      rw [h1]
      exact Tame.under hs (Tame.under hd Tame.pure)
    · split at hc<;>cases hc;simp [SOp.tame] at ht
    · split at hc
      · split at hc<;>cases hc;simp [SOp.tame] at ht
      · cases hc
    · split at hc<;>cases hc;simp [SOp.tame] at ht
  case makeSlice t l c=>simp only [execOp,ho];exact Tame.bind (fun _=>Tame.pure) tame_makeSlice
  case slice t x lo hi mx=>simp only [execOp,ho];exact Tame.bind (fun _=>Tame.pure) tame_sliceAt
  case fieldAddr s x f=>
    simp only [execOp,ho]
    refine Tame.bind (fun _=>Tame.pure) ?_
    split at hc<;>first | (cases hc;done) | skip
    rename_i fs r hs hx
    split at hc<;>first | (cases hc;done) | skip
    rename_i fd hfd
    split at hc<;>first | (cases hc;done) | skip
    rename_i n hn
    unfold Instr.fieldAt
    refine Tame.under hs ?_
    simp only [hfd]
    refine Tame.bind (fun a=>Tame.bind (fun _=>Tame.pure) ?_) tame_sureAddr
    unfold fieldPlace
    have hsz: ∀ {β:Type} (g:Nat→Sem β),Tame P (g (n+1))→Tame P (sizeOf fd.type >>=g):=fun {β} g hg=>by
      have hi: ∃i,P.info? fd.type=some i∧i.size=n+1:=by
        unfold tSize at hn
        cases hq:P.info? fd.type with
        | none=>rw [hq] at hn;cases hn
        | some i=>rw [hq] at hn;exact ⟨i,rfl,Option.some.inj hn⟩
      obtain ⟨i,hi,hsz⟩:=hi
      show Tame P (Sem.bind (sizeOf fd.type) g)
      simp only [sizeOf,typeInfo,program,Bind.bind,Sem.bind,Pure.pure,Tame,hi,hsz]
      exact hg
    exact hsz _ (by simp only [Nat.add_eq_zero_iff,Nat.one_ne_zero,and_false,if_false];exact Tame.pure)
  case field t x f=>simp only [execOp,ho];exact Tame.bind (fun _=>Tame.pure) tame_field
  case indexAddr t x i=>simp only [execOp,ho];exact Tame.bind (fun _=>Tame.pure) tame_indexAt
  case index t x i=>simp only [execOp,ho];exact Tame.bind (fun _=>Tame.pure) tame_index
  case makeMap t r=>
    split at hc<;>first | (cases hc;done) | skip
    split at hc<;>cases hc<;>simp [SOp.tame] at ht
  case lookup t m k ok=>
    split at hc<;>first | (cases hc;done) | skip
    split at hc<;>cases hc;simp [SOp.tame] at ht
  case mapUpdate t m k x=>
    unfold cMupd at hc
    repeat' (split at hc)
    all_goals first | (cases hc;done) | (cases hc;simp [SOp.tame] at ht)
  case insert t m k x=>
    unfold cMupd at hc
    repeat' (split at hc)
    all_goals first | (cases hc;done) | (cases hc;simp [SOp.tame] at ht)
  case mapEntry t m k=>
    split at hc<;>first | (cases hc;done) | skip
    split at hc<;>cases hc;simp [SOp.tame] at ht
  case range t x=>split at hc<;>cases hc;simp [SOp.tame] at ht
  case next x b=>split at hc<;>cases hc;simp [SOp.tame] at ht
  case entry x=>split at hc<;>cases hc;simp [SOp.tame] at ht
  case entryStore t m i x=>split at hc<;>cases hc;simp [SOp.tame] at ht
  case makeInterface t x=>simp only [execOp,ho];exact Tame.bind (fun _=>Tame.pure) tame_makeInterface
  case makeFunc f x y=>simp only [execOp,ho];exact Tame.bind (fun _=>Tame.pure) Tame.pure
  case extract x i=>simp only [execOp,ho];exact Tame.bind (fun _=>Tame.pure) tame_extract
  case call c=>
    have bi: ∀ {b:Builtin},c.callee= .builtin b→Tame P (builtin b c.argTypes o.type (c.args.map fun | .const _=>true | _=>false) (c.args.map a.eval))→Tame P (execOp a.eval o):=fun {b} hb hh=>by
      have e:execOp a.eval o=builtin b c.argTypes o.type (c.args.map fun | .const _=>true | _=>false) (c.args.map a.eval):=by
        simp only [execOp,ho,resolve,hb];rfl
      rw [e];exact hh
    have vl: ∀ {x:Operand} {fn:Fn} {xs ys:Array Value},c.callee= .value x→a.eval x= .func fn xs ys→Tame P (invoke (.fn fn ys) (xs++c.args.map a.eval))→Tame P (execOp a.eval o):=fun {x fn xs ys} hv he hh=>by
      have e:execOp a.eval o=invoke (.fn fn ys) (xs++c.args.map a.eval):=by
        simp only [execOp,ho,resolve,hv,he,Deferred.ofValue];rfl
      rw [e];exact hh
    split at hc<;>first | (cases hc;done) | skip
    · rename_i x hcal hargs
      exact bi hcal (Tame.bind (fun _=>Tame.pure) tame_len)
    · rename_i s x hcal hargs
      refine bi hcal (Tame.bind (fun _=>Tame.pure) ?_)
      split at hc
      · rename_i e u ht0 hu
        obtain ⟨tu,ht1,hu⟩:=Option.bind_eq_some_iff.1 hu
        refine tame_append ht1 hu ?_
        split at hc<;>first | (cases hc;done) | skip
        split at hc<;>first | (cases hc;done) | skip
        · exact .inl ⟨_,rfl⟩
        · exact .inr rfl
      · cases hc
    · repeat' (split at hc)
      all_goals first | (cases hc;done) | (cases hc;simp [SOp.tame] at ht)
    · rename_i xs hcal hargs
      exact bi hcal (Tame.bind (fun _=>Tame.pure) tame_min)
    · rename_i xs hcal hargs
      exact bi hcal (Tame.bind (fun _=>Tame.pure) tame_max)
    · rename_i f xs hcal hargs
      split at hc
      · rename_i hf
        exact vl (fn:= .func f) (xs:= #[]) (ys:= #[]) hcal rfl (cl _ _ hf)
      · split at hc<;>cases hc
        rename_i k hk
        simp only [vcOp,rdsK_iff] at h
        exact vl (fn:= .func f) (xs:= #[]) (ys:= #[]) hcal rfl (ext_tame hk h (evals_rel hF hargs) (by apply Array.ext';simp))
    · rename_i x xs hnf hcal hargs
      split at hc<;>cases hc
      rename_i r hx
      have h2:=eval_rel hF hx
      simp only [vcOp,rdK_iff,rdsK_iff] at h
      generalize rd F r=X at*
      cases X<;>first | exact h.elim | skip
      rename_i f first cap
      cases f
      case func f=>
        cases first<;>first | exact h.elim | skip
        simp only [Rel] at h2
        obtain ⟨vs,us,e,g1,g2⟩:=h2
        exact vl hcal e (cl _ _ (h.2.out E fz w _ st ((evals_rel hF hargs).append g2)).1)
      case yield l=>
        cases first<;>first | exact h.elim | skip
        cases cap<;>first | exact h.elim | skip
        exact h.2.out.elim
      all_goals exact h.elim
theorem ACallsMono0 {f:FuncId} {args:List AVal} {S:Store} {R:AVal→Store→Prop} (h:ACalls P f args S R):ACalls P f args S fun _ _=>True:=
  ⟨fun E fz w vals st hrel=>(h.out E fz w vals st hrel).mono fun e w' ⟨r,S',v,E',fz',h1,h2,h3,h4,h5⟩=>⟨r,S',v,E',fz',h1,h2,h3,h4,trivial⟩⟩
open Go.Vk in
theorem copR_tame (st:St E fz S w) (hF:RelF E fz w F a.tmps) {o:Oper} {hint so:SOp} (hc:copR P ro hint o.type o.op=so) (h:vcOp P F S K so) (ht:so.tame=true):Go.Vk.Tame P (execOp a.eval o):=by
  unfold copR at hc
  split at hc
  · rename_i d _ _ _ _ _ t l c ho
    simp only [execOp,ho];exact Tame.bind (fun _=>Tame.pure) tame_makeSlice
  · rename_i d t r ho
    split at hc
    · split at hc<;>subst hc<;>first | exact h.elim | (simp [SOp.tame] at ht)
    · subst hc;exact h.elim
  · rename_i d k _ _ zs c ho
    split at hc
    · rename_i f args hs
      subst hc
      simp only [vcOp,rdsK_iff] at h
      obtain ⟨h1,h2,h3,h4,h5⟩:=h
      exact cop_tame st hF (K:=fun _ _=>True) (ho▸hs) (by simp only [vcOp,rdsK_iff];exact h1.kept (i:=S.length-d) (by omega) fun _=>trivial) rfl
    · subst hc;exact h.elim
  · rename_i t l p ho
    simp only [execOp,ho];exact Tame.bind (fun _=>Tame.pure) tame_buildSlice
  · rename_i d k _ _ c ho
    split at hc
    · rename_i f args hs
      subst hc
      simp only [vcOp,rdsK_iff] at h
      obtain ⟨n,cs,h1,h2,h3,h4,h5⟩:=h
      exact cop_tame st hF (K:=fun _ _=>True) (ho▸hs) (by simp only [vcOp,rdsK_iff];exact ACallsMono0 h1) rfl
    · subst hc;exact h.elim
  · rename_i c ho
    split at hc
    · rename_i f args hs
      subst hc
      simp only [vcOp,rdsK_iff] at h
      obtain ⟨r0,h1,h2⟩:=h
      exact cop_tame st hF (K:=fun _ _=>True) (ho▸hs) (by simp only [vcOp,rdsK_iff];exact h1.frame0 fun r S' q=>⟨r,id,[],.refl r,.nil,trivial⟩) rfl
    · subst hc;exact h.elim
  · rename_i d _ _ t ho
    simp only [execOp,ho];exact Tame.bind (fun _=>Tame.pure) tame_alloc
  · rename_i c ho
    split at hc
    · rename_i k b s x hs
      subst hc
      obtain ⟨hcal,hargs,t,u,e,ut,i,z,ht0,ht1,ht',hu,hut,_⟩:=cop_append hs
      have e:execOp a.eval o=builtin .append c.argTypes o.type (c.args.map fun | .const _=>true | _=>false) (c.args.map a.eval):=by
        simp only [execOp,ho,resolve,hcal];rfl
      rw [e]
      exact Tame.bind (fun _=>Tame.pure) (tame_append ht1 hu hut)
    · subst hc;exact h.elim
  · split at hc
    · rename_i so' hs
      subst hc
      exact cop_tame st hF hs h ht
    · subst hc;exact h.elim
end
end Go.Vc
end
section
namespace Go.Vc
def roOf (g:GOp):Bool:=match g.op with | .bslice ro _ _ _ _=>ro | .newnil _=>true | _=>false
def cGuard (ops:Array Oper):Option (Nat×Bool)→Option (Option (Nat×Bool))
  | none=>some none
  | some (j,want)=>match (ops[j]?).bind (·.dst) with | some d=>some (some (d,want)) | none=>none
def dstOk (N:Nat) (d:Option Nat):Bool:=match d with | some d=>d<N | none=>true
def tameO (so:SOp):SOp:=match so.tame with | true=>so | false=>.bad
def copT (P:Program) (ro:Bool) (hint:SOp) (ty:TypeId) (op:Op):SOp:=tameO (copR P ro hint ty op)
theorem copT_of {P:Program} {ro:Bool} {hint so:SOp} {ty:TypeId} {op:Op} {F:Frame} {S:Store} {K:AVal→Store→Prop} (hc:copT P ro hint ty op=so) (h:vcOp P F S K so):copR P ro hint ty op=so∧so.tame=true:=by
  unfold copT tameO at hc
  split at hc
  · rename_i ht;exact ⟨hc,by rw [←hc];exact ht⟩
  · rw [←hc] at h;exact h.elim
def cOps (P:Program) (N:Nat) (ops:Array Oper):List Oper→List GOp→Option (List GOp)
  | [],[]=>some []
  | o::l,g::gl=>(match cGuard ops o.guard,cOps P N ops l gl with
      | some gd,some rest=>if dstOk N o.dst then some ({dst:=o.dst,op:=copT P (roOf g) g.op o.type o.op,guard:=gd,isG:=g.isG,chk:=g.chk}::rest) else none
      | _,_=>none)
  | _,_=>none
section
variable {P : Program} {E : Env} {fz : Nat → Prop} {S : Store} {w : World} {F : Frame} {a : Act} {ro : Bool}
theorem relF_put {d:Option Nat} {x:AVal} {v:Value} (hF:RelF E fz w F a.tmps) (hx:Rel E fz w x v) (hd:dstOk a.tmps.size d=true):RelF E fz w (putF F d x) (a.put d v).tmps:=by
  cases d with
  | none=>exact hF
  | some d=>
    simp only [dstOk,decide_eq_true_eq] at hd
    intro n
    simp only [putF,Frame.get,Act.put]
    cases h:Nat.beq d n with
    | true=>
      have e:d=n:=Nat.eq_of_beq_eq_true h
      subst e
      simpa [Array.getD,hd] using hx
    | false=>
      have e:d≠n:=Nat.ne_of_beq_eq_false h
      have:(a.tmps.setIfInBounds d v).getD n undef=a.tmps.getD n undef:=by
        simp only [Array.getD_eq_getD_getElem?,Array.getElem?_setIfInBounds,if_neg e]
      simp only [this]
      exact hF n
theorem put_size {d:Option Nat} {v:Value}:(a.put d v).tmps.size=a.tmps.size:=by
  cases d<;>simp [Act.put]
theorem put_defers {d:Option Nat} {v:Value}:(a.put d v).defers=a.defers:=by
  cases d<;>simp [Act.put]
theorem put_other {d:Option Nat} {v:Value} {t:Nat} (h:d≠some t):(a.put d v).tmps[t]?=a.tmps[t]?:=by
  cases d with
  | none=>rfl
  | some d=>simp only [Act.put,Array.getElem?_setIfInBounds];rw [if_neg (fun e=>h (by rw [e]))]
theorem RelF.mono {E':Env} {fz':Nat→Prop} {S':Store} {w':World} (st:St E fz S w) (hx:Ext E fz S w E' fz' S' w') {tmps:Array Value} (h:RelF E fz w F tmps):RelF E' fz' w' F tmps:=
  fun n=>st.rel hx (h n)
theorem getD_of {x y:Array Value} {t:Nat} (h:x[t]?=y[t]?):x.getD t undef=y.getD t undef:=by
  rw [Array.getD_eq_getD_getElem?,Array.getD_eq_getD_getElem?,h]
def After (N:Nat) (E:Env) (fz:Nat→Prop) (S:Store) (w:World) (a:Act) (W:List Nat) (K:Frame→Store→Prop) (a':Act) (w':World):Prop:=
  ∃F' S' E' fz',K F' S'∧Ext E fz S w E' fz' S' w'∧St E' fz' S' w'∧RelF E' fz' w' F' a'.tmps∧a'.tmps.size=N∧a'.defers=a.defers∧ ∀t,t ∉ W→a'.tmps[t]?=a.tmps[t]?
def gWrites:List GOp→List Nat
  | []=>[]
  | o::l=>o.dst.toList++gWrites l
theorem splitG_rel {b:Bool} {x:AVal} {v:Value} {K:AVal→Prop} (h:splitG b x K) (hx:Rel E fz w x v): ∃y,K y∧Rel E fz w y v:=by
  cases b
  · exact ⟨x,h,hx⟩
  · cases x<;>simp only [splitG] at h
    case tt=>exact ⟨_,h,hx⟩
    case ff=>exact ⟨_,h,hx⟩
    case bool b=>
      simp only [Rel] at hx
      cases b
      · exact ⟨.ff,h.2 rfl,by simpa [Rel] using hx⟩
      · exact ⟨.tt,h.1 rfl,by simpa [Rel] using hx⟩
theorem wanted_rel {ops:Array Oper} {o:Oper} {g:Nat} {want:Bool} {j:Nat} (hg:o.guard=some (j,want)) (hd:(ops[j]?).bind (·.dst)=some g) (hF:RelF E fz w F a.tmps):
    (F.get g= .tt→Region.wanted o (yielded ops a.tmps)=want)∧(F.get g= .ff→Region.wanted o (yielded ops a.tmps)= !want)∧(∀l,F.get g= .tup l→Region.wanted o (yielded ops a.tmps)=false):=by
  have hr:=hF g
  have hy: ∀v,a.tmps.getD g undef=v→v≠undef→a.tmps[g]?=some v:=fun v hv hne=>by
    rw [Array.getD_eq_getD_getElem?] at hv
    cases h:a.tmps[g]? with
    | none=>rw [h] at hv;exact (hne hv.symm).elim
    | some u=>rw [h] at hv;simp at hv;rw [hv]
  refine ⟨fun e=>?_,fun e=>?_,fun l e=>?_⟩
  · rw [e] at hr
    simp only [Rel] at hr
    have:=hy _ hr (by simp [undef])
    simp [Region.wanted,hg,yielded,hd,this]
  · rw [e] at hr
    simp only [Rel] at hr
    have:=hy _ hr (by simp [undef])
    cases want<;>simp [Region.wanted,hg,yielded,hd,this]
  · rw [e] at hr
    simp only [Rel] at hr
    obtain ⟨vs,hv,_⟩:=hr
    have:yielded ops a.tmps j=none:=by
      simp only [yielded,hd,Option.bind_some]
      cases h:a.tmps[g]? with
      | none=>rfl
      | some u=>
        rw [Array.getD_eq_getD_getElem?,h] at hv
        simp at hv
        subst hv
        rfl
    simp [Region.wanted,hg,this]
open Go.Vk in
theorem ops_sound {main:Go.Vk.Cx} {N:Nat} {ops:Array Oper} {Q:Exit→Act→World→Prop} {K:Frame→Store→Prop}: ∀(l:List Oper) (hint gl:List GOp) (k:Nat) {E:Env} {fz:Nat→Prop} {S:Store} {w:World} {F:Frame} {a:Act},
    (∀j,l[j]?=ops[k+j]?)→cOps P N ops l hint=some gl→St E fz S w→RelF E fz w F a.tmps→a.tmps.size=N→vcOps P K gl F S→
    (∀a' w',After N E fz S w a (gWrites gl) K a' w'→Q .normal a' w')→Go.Vk.opsV P main ops Q (List.range' k l.length) a w
  | [],hint,gl,k,E,fz,S,w,F,a,hl,hc,st,hF,hN,h,hQ=>by
    cases hint<;>simp only [cOps] at hc<;>cases hc
    simp only [List.length_nil,List.range'_zero]
    exact opsV_nil (hQ a w ⟨F,S,E,fz,h,.refl,st,hF,hN,rfl,fun _ _=>rfl⟩)
  | o::l,hint,gl,k,E,fz,S,w,F,a,hl,hc,st,hF,hN,h,hQ=>by
    cases hint with
    | nil=>simp only [cOps] at hc;cases hc
    | cons g hint=>
    simp only [cOps] at hc
    split at hc
    case h_2=>cases hc
    rename_i gd rest hgd hrest
    split at hc
    case isFalse=>cases hc
    rename_i hdst
    cases hc
    have h0:ops[k]?=some o:=by simpa using (hl 0).symm
    simp only [List.length_cons,List.range'_succ]
    refine opsV_cons ?_
    have ih: ∀ {x:AVal} {S':Store} {E':Env} {fz':Nat→Prop} {w':World} {v:Value},vcOps P K rest (putF F o.dst x) S'→Ext E fz S w E' fz' S' w'→St E' fz' S' w'→Rel E' fz' w' x v→Go.Vk.opsV P main ops Q (List.range' (k+1) l.length) (a.put o.dst v) w':=
      fun {x S' E' fz' w' v} hk hx hs hr=>by
        refine ops_sound l hint rest (k+1) (fun j=>by have:=hl (j+1);simpa [Nat.add_assoc,Nat.add_comm 1 j] using this) hrest hs (relF_put (RelF.mono st hx hF) hr (by rw [hN];exact hdst)) (by rw [put_size];exact hN) hk ?_
        rintro a' w'' ⟨F',S'',E'',fz'',q1,q2,q3,q4,q5,q6,q7⟩
        refine hQ a' w'' ⟨F',S'',E'',fz'',q1,hx.trans q2,q3,q4,q5,by rw [q6,put_defers],fun t ht=>?_⟩
        simp only [gWrites,List.mem_append,not_or] at ht
        rw [q7 t ht.2,put_other (fun e=>ht.1 (by simp [e]))]
    have run:vcOp P F S (fun x S'=>splitG g.isG x fun x=>vcOps P K rest (putF F o.dst x) S') (copT P (roOf g) g.op o.type o.op)→Region.wanted o (yielded ops a.tmps)=true→opV P main ops k (fun a' w'=>Go.Vk.opsV P main ops Q (List.range' (k+1) l.length) a' w') a w:=fun hop hw=>by
      obtain ⟨e1,e2⟩:=copT_of rfl hop
      refine opV_run h0 hw (copR_tame st hF e1 hop e2) fun w₁ h₁=>?_
      obtain ⟨st1,hx1⟩:=st.itf h₁
      refine RunsTo.mono (copR_sound st1 (RelF.mono st hx1 hF) e1 hop) ?_
      rintro v w' ⟨x,S',E',fz',hk,hx,hs,hr⟩
      obtain ⟨y,hy,hr'⟩:=splitG_rel hk hr
      exact ih hy (hx1.trans hx) hs hr'
    have skip:vcOps P K rest (putF F o.dst (.tup [])) S→Region.wanted o (yielded ops a.tmps)=false→opV P main ops k (fun a' w'=>Go.Vk.opsV P main ops Q (List.range' (k+1) l.length) a' w') a w:=fun hk hw=>
      opV_skip h0 hw (ih hk .refl st (by simp only [Rel];exact ⟨[],rfl,by simp [RelL]⟩))
    simp only [vcOps] at h
    cases hgo:o.guard with
    | none=>
      rw [hgo] at hgd
      simp only [cGuard] at hgd
      cases hgd
      exact run h (by simp [Region.wanted,hgo])
    | some jw=>
      obtain ⟨j,want⟩:=jw
      rw [hgo] at hgd
      simp only [cGuard] at hgd
      split at hgd
      case h_2=>cases hgd
      rename_i d hd
      cases hgd
      obtain ⟨w1,w2,w3⟩:=wanted_rel hgo hd hF
      simp only [getK_iff] at h
      cases hg:F.get d<;>rw [hg] at h<;>simp only at h
      case tt=>
        cases want
        · exact skip h (w1 hg)
        · exact run h (w1 hg)
      case ff=>
        cases want
        · exact run h (w2 hg)
        · exact skip h (w2 hg)
      case tup=>exact skip h (w3 _ hg)
end
end Go.Vc
end
section
namespace Go.Vc
def Rand.slots:Rand→List Nat | .t n=>[n] | .c _=>[]
def rsSlots (xs:List Rand):List Nat:=xs.flatMap Rand.slots
def optSlots:Option Rand→List Nat | none=>[] | some r=>r.slots
def partSlots (ps:List (Nat×Nat×Rand)):List Nat:=ps.flatMap fun p=>p.2.2.slots
def SOp.slots:SOp→List Nat
  | .mov x | .box _ x | .load _ _ x | .nilchk x | .strid x | .not x | .neg x | .conv _ x | .faddr _ x | .field _ _ _ x | .len _ x | .extract x _=>x.slots
  | .newnil _ | .alloc _ _ | .alres _ _ _=>[]
  | .pick c a b=>c.slots++a.slots++b.slots
  | .build _ ps=>partSlots ps
  | .bslice _ _ _ _ ps=>partSlots ps
  | .store _ x v=>x.slots++v.slots
  | .bin _ _ x y=>x.slots++y.slots
  | .mkslice _ _ _ x y=>x.slots++y.slots
  | .slice _ x lo hi=>x.slots++optSlots lo++optSlots hi
  | .iaddr _ _ x i=>x.slots++i.slots
  | .index _ _ _ x i=>x.slots++i.slots
  | .append _ _ s x=>s.slots++x.slots
  | .appk _ _ s x=>s.slots++x.slots
  | .min xs=>rsSlots xs
  | .max xs=>rsSlots xs
  | .mkfunc _ xs ys=>rsSlots xs++rsSlots ys
  | .ext _ xs=>rsSlots xs
  | .call _ xs=>rsSlots xs
  | .callv x xs=>x.slots++rsSlots xs
  | .bad=>[]
  | .isnil _ x=>x.slots
  | .peq _ x y=>x.slots++y.slots
  | .aslice _ x=>x.slots
  | .mkres _ _ _ _ x y=>x.slots++y.slots
  | .clear _ _ x=>x.slots
  | .s2b x=>x.slots
  | .b2s x=>x.slots
  | .mark x=>x.slots
  | .again t _ _ x=>t::x.slots
  | .mkif _ x=>x.slots
  | .rcall _ xs=>xs.flatMap Rand.slots
  | .clres _ _ _ xs=>xs.flatMap Rand.slots
  | .slice3 _ x h m=>x.slots++h.slots++m.slots
  | .mkmap=>[]
  | .mapres _=>[]
  | .calres _ _ _ xs zs=>(xs.flatMap Rand.slots)++(zs.flatMap Rand.slots)
  | .mlook _ _ _ m k=>m.slots++k.slots
  | .mupd _ m k x=>m.slots++k.slots++x.slots
  | .ment _ _ m k=>m.slots++k.slots
  | .mset m i x=>m.slots++i.slots++x.slots
  | .mrange x=>x.slots
  | .mnext x=>x.slots
  | .mentry x=>x.slots
theorem ACallsMono {P:Program} {f:FuncId} {args:List AVal} {S:Store} {R R':AVal→Store→Prop} (h:ACalls P f args S R) (hr: ∀r S',R r S'→R' r S'):ACalls P f args S R':=
  ⟨fun E fz w vals st hrel=>(h.out E fz w vals st hrel).mono fun e w' ⟨r,S',v,E',fz',h1,h2,h3,h4,h5⟩=>⟨r,S',v,E',fz',h1,h2,h3,h4,hr _ _ h5⟩⟩
theorem YCalls.mono {P:Program} {l:Nat} {args:List AVal} {S:Store} {R R':AVal→Store→Prop} (h:YCalls P l args S R) (hr: ∀r S',R r S'→R' r S'):YCalls P l args S R':=h.out.elim
section
variable {P : Program} {F F' : Frame} {S : Store} {K : AVal → Store → Prop}
theorem rd_congr {x:Rand} (h: ∀t∈x.slots,F.get t=F'.get t):rd F x=rd F' x:=by
  cases x with
  | t n=>exact h n (by simp [Rand.slots])
  | c x=>rfl
theorem rds_congr {xs:List Rand} (h: ∀t∈rsSlots xs,F.get t=F'.get t):xs.map (rd F)=xs.map (rd F'):=by
  refine List.map_congr_left fun x hx=>rd_congr fun t ht=>h t ?_
  simp only [rsSlots,List.mem_flatMap]
  exact ⟨x,hx,ht⟩
theorem wFill_congr {Q:List AVal→Prop}: ∀ {ps:List (Nat×Nat×Rand)} {cs:List AVal},(∀t∈partSlots ps,F.get t=F'.get t)→wFill F cs Q ps→wFill F' cs Q ps
  | [],cs,_,h=>h
  | (o,n,x)::ps,cs,hs,h=>by
    simp only [wFill,rdK_iff] at h ⊢
    rw [←rd_congr fun t ht=>hs t (by simp [partSlots,ht])]
    have hr: ∀t∈partSlots ps,F.get t=F'.get t:=fun t ht=>hs t (by simp only [partSlots,List.flatMap_cons,List.mem_append] at ht ⊢;exact .inr ht)
    revert h
    cases rd F x<;>simp only [wCells,setCellsK_iff]<;>first | exact id | exact fun h=>⟨h.1,h.2.1,wFill_congr hr h.2.2⟩
theorem wLo_congr {x:Option Rand} {Q:Nat→Prop} (hs: ∀t∈optSlots x,F.get t=F'.get t):wLo F x Q=wLo F' x Q:=by
  cases x with
  | none=>rfl
  | some r=>simp only [wLo,rdK_iff];rw [rd_congr hs]
theorem wHi_congr {x:Option Rand} {n:Nat} {Q:Nat→Prop} (hs: ∀t∈optSlots x,F.get t=F'.get t):wHi F n x Q=wHi F' n x Q:=by
  cases x with
  | none=>rfl
  | some r=>simp only [wHi,rdK_iff];rw [rd_congr hs]
theorem vcOp_congr {so:SOp} (hq:so.quiet=true) (hs: ∀t∈so.slots,F.get t=F'.get t) (h:vcOp P F S K so):vcOp P F' S K so:=by
  cases so<;>simp only [SOp.quiet] at hq<;>first | (cases hq;done) | skip
  case build z ps=>exact wFill_congr hs h
  case bslice ro len k z ps=>subst hq;exact wFill_congr hs h
  case slice k x lo hi=>
    simp only [SOp.slots,List.mem_append] at hs
    have h1:=rd_congr (x:=x) fun t ht=>hs t (.inl (.inl ht))
    have h2: ∀Q,wLo F lo Q=wLo F' lo Q:=fun Q=>wLo_congr fun t ht=>hs t (.inl (.inr ht))
    have h3: ∀n Q,wHi F n hi Q=wHi F' n hi Q:=fun n Q=>wHi_congr fun t ht=>hs t (.inr ht)
    simp only [vcOp,rdK_iff,h1,h2,h3] at h ⊢
    exact h
  all_goals
    simp only [SOp.slots,List.mem_append] at hs
    simp only [vcOp,rdK_iff,rdsK_iff] at h ⊢
  case slice3 k x y z=>rw [←rd_congr (x:=x) fun t ht=>hs t (.inl (.inl ht)),←rd_congr (x:=y) fun t ht=>hs t (.inl (.inr ht)),←rd_congr (x:=z) fun t ht=>hs t (.inr ht)];exact h
  case pick c a b=>rw [←rd_congr (x:=c) fun t ht=>hs t (.inl (.inl ht)),←rd_congr (x:=a) fun t ht=>hs t (.inl (.inr ht)),←rd_congr (x:=b) fun t ht=>hs t (.inr ht)];exact h
  case bin q o x y=>rw [←rd_congr (x:=x) fun t ht=>hs t (.inl ht),←rd_congr (x:=y) fun t ht=>hs t (.inr ht)];exact h
  case iaddr k ar x y=>rw [←rd_congr (x:=x) fun t ht=>hs t (.inl ht),←rd_congr (x:=y) fun t ht=>hs t (.inr ht)];exact h
  case mlook q ok z x y=>rw [←rd_congr (x:=x) fun t ht=>hs t (.inl ht),←rd_congr (x:=y) fun t ht=>hs t (.inr ht)];exact h
  case index k ar ag x y=>rw [←rd_congr (x:=x) fun t ht=>hs t (.inl ht),←rd_congr (x:=y) fun t ht=>hs t (.inr ht)];exact h
  case again t n ag x=>rw [←rd_congr (x:=x) fun u hu=>hs u (by simp [hu]),←rd_congr (F:=F) (x:= .t t) fun u hu=>hs u (by simp [Rand.slots] at hu;simp [hu])];exact h
  case mkfunc f xs ys=>rw [←rds_congr (xs:=xs) fun t ht=>hs t (.inl ht),←rds_congr (xs:=ys) fun t ht=>hs t (.inr ht)];exact h
  case callv x xs=>rw [←rd_congr (x:=x) fun t ht=>hs t (.inl ht),←rds_congr (xs:=xs) fun t ht=>hs t (.inr ht)];exact h
  case min xs=>rw [←rds_congr (xs:=xs) hs];exact h
  case max xs=>rw [←rds_congr (xs:=xs) hs];exact h
  case call f xs=>rw [←rds_congr (xs:=xs) hs];exact h
  case rcall f xs=>rw [←rds_congr (xs:=xs) hs];exact h
  case ext k xs=>rw [←rds_congr (xs:=xs) hs];exact h
  all_goals
    rw [←rd_congr hs];exact h
def Det {α:Type} (T:(α→Prop)→Prop):Prop:= ∀K,T K→ ∃x,K x∧ ∀K',K' x→T K'
theorem det_wMk {k:IntKind} {n:Int}:Det (wMk k n):=fun K h=>by
  unfold wMk at h
  split at h
  · exact ⟨_,h.2,fun K' hk=>⟨h.1,hk⟩⟩
  · rename_i hk
    refine ⟨_,h,fun K' hk'=>?_⟩
    unfold wMk
    split
    · exact (hk rfl).elim
    · exact hk'
theorem det_eqk {op:BinOp} {r:Bool}:Det (eqK op r):=fun K h=>by
  cases op<;>simp only [eqK] at h<;>first | exact h.elim | exact ⟨_,h,fun K' hk=>hk⟩
theorem det_cells: ∀ {ks:List FK} {xs ys:List AVal},Det (cellsEq ks xs ys)
  | [],xs,ys,K,h=>by
    cases xs<;>cases ys<;>simp only [cellsEq] at h
    exact ⟨true,h,fun K' hk=>hk⟩
  | k::ks,[],ys,K,h=>by cases k<;>simp only [cellsEq] at h
  | k::ks,x::xs,[],K,h=>by cases k<;>cases x<;>simp only [cellsEq] at h
  | k::ks,x::xs,y::ys,K,h=>by
    cases k<;>cases x<;>cases y<;>simp only [cellsEq] at h ⊢
    · obtain ⟨r,h1,h2⟩:=det_cells (ks:=ks) (xs:=xs) (ys:=ys) _ h.2
      exact ⟨_,h1,fun K' hk=>⟨h.1,h2 _ hk⟩⟩
    · obtain ⟨r,h1,h2⟩:=det_cells (ks:=ks) (xs:=xs) (ys:=ys) _ h
      exact ⟨_,h1,fun K' hk=>h2 _ hk⟩
    · obtain ⟨r,h1,h2⟩:=det_cells (ks:=ks) (xs:=xs) (ys:=ys) _ h
      exact ⟨_,h1,fun K' hk=>h2 _ hk⟩
theorem det_int {op:BinOp} {k:IntKind} {a b:Int}:Det (intBin op k a b):=fun K h=>by
  cases op<;>simp only [intBin] at h<;>first
    | exact h.elim
    | exact det_wMk K h
    | (obtain ⟨x,h1,h2⟩:=det_wMk K h.2;exact ⟨x,h1,fun K' hk=>⟨h.1,h2 K' hk⟩⟩)
    | exact ⟨_,h.2,fun K' hk=>⟨h.1,hk⟩⟩
    | exact ⟨_,h,fun K' hk=>hk⟩
theorem det_str {op:BinOp} {a b:List UInt8}:Det (strBin op a b):=fun K h=>by
  cases op<;>simp only [strBin] at h<;>first | exact h.elim | exact ⟨_,h.2,fun K' hk=>⟨h.1,hk⟩⟩ | exact ⟨_,h,fun K' hk=>hk⟩
theorem det_bin {q:EqQ} {op:BinOp} {x y:AVal}:Det (vcBin q op x y):=by
  intro K h
  cases x<;>cases y<;>simp only [vcBin] at h ⊢ <;>first | exact h.elim | skip
  case int.int k a k' b=>
    cases op<;>simp only at h ⊢ <;>first
      | (obtain ⟨x,h1,h2⟩:=det_int _ h.2;exact ⟨x,h1,fun K' hk=>⟨h.1,h2 K' hk⟩⟩)
      | (obtain ⟨x,h1,h2⟩:=det_wMk K h.2;exact ⟨x,h1,fun K' hk=>⟨h.1,h2 K' hk⟩⟩)
      | exact ⟨_,h.2,fun K' hk=>⟨h.1,hk⟩⟩
  case str.str a b=>exact det_str _ h
  all_goals
    cases q<;>simp only at h ⊢ <;>first | exact h.elim | exact det_eqk _ h | skip
  case agg.agg.agg xs ys ks=>
    obtain ⟨r,h1,h2⟩:=det_cells _ h
    obtain ⟨z,h3,h4⟩:=det_eqk _ h1
    exact ⟨z,h3,fun K' hk=>h2 _ (h4 K' hk)⟩
theorem det_take {n:Nat} {cs:List AVal}:Det (takeK n cs):=fun K h=>by
  rw [takeK_iff] at h
  obtain ⟨xs,h1,h2⟩:=h
  exact ⟨xs,h2,fun K' hk=>takeK_iff.2 ⟨xs,h1,hk⟩⟩
theorem det_mk {ag:Bool} {xs:List AVal}:Det (mkVK ag xs):=fun K h=>by
  rcases mkVK_iff.1 h with ⟨h1,h2⟩ | ⟨h1,x,h2,h3⟩
  · exact ⟨_,h2,fun K' hk=>mkVK_iff.2 (.inl ⟨h1,hk⟩)⟩
  · exact ⟨x,h3,fun K' hk=>mkVK_iff.2 (.inr ⟨h1,x,h2,hk⟩)⟩
theorem det_min: ∀ {xs:List AVal} {a:AVal},Det fun K=>vcMin a K xs
  | [],a,K,h=>⟨a,h,fun K' hk=>hk⟩
  | b::xs,a,K,h=>by
    cases a<;>cases b<;>simp only [vcMin] at h ⊢
    obtain ⟨z,h1,h2⟩:=det_min (xs:=xs) K h.2
    exact ⟨z,h1,fun K' hk=>⟨h.1,h2 K' hk⟩⟩
theorem det_max: ∀ {xs:List AVal} {a:AVal},Det fun K=>vcMax a K xs
  | [],a,K,h=>⟨a,h,fun K' hk=>hk⟩
  | b::xs,a,K,h=>by
    cases a<;>cases b<;>simp only [vcMax] at h ⊢
    obtain ⟨z,h1,h2⟩:=det_max (xs:=xs) K h.2
    exact ⟨z,h1,fun K' hk=>⟨h.1,h2 K' hk⟩⟩
theorem det_fill: ∀ {ps:List (Nat×Nat×Rand)} {cs:List AVal},Det fun K=>wFill F cs K ps
  | [],cs,K,h=>⟨cs,h,fun K' hk=>hk⟩
  | (o,n,x)::ps,cs,K,h=>by
    simp only [wFill,rdK_iff] at h ⊢
    revert h
    cases rd F x<;>simp only [wCells,setCellsK_iff]<;>first
      | exact fun h=>h.elim
      | (intro h
         obtain ⟨z,h1,h2⟩:=det_fill (ps:=ps) K h.2.2
         exact ⟨z,h1,fun K' hk=>⟨h.1,h.2.1,h2 K' hk⟩⟩)
theorem det_load {n:Nat} {ag:Bool} {x:AVal}:Det (wLoad S n ag x):=fun K h=>by
  cases x<;>simp only [wLoad] at h ⊢ <;>first | exact h.elim | skip
  case ptr l v off=>
    obtain ⟨k,cs,hl,h⟩:=wRow_iff.1 h
    cases k with
    | zero=>
      simp only [dropK_iff] at h
      obtain ⟨xs,h1,h2⟩:=det_take _ h
      obtain ⟨z,h3,h4⟩:=det_mk _ h1
      exact ⟨z,h3,fun K' hk=>wRow_iff.2 ⟨0,cs,hl,by simp only [dropK_iff];exact h2 _ (h4 _ hk)⟩⟩
    | succ k=>
      obtain ⟨xs,h1,h2⟩:=h
      obtain ⟨z,h3,h4⟩:=det_mk _ h2
      exact ⟨z,h3,fun K' hk=>wRow_iff.2 ⟨k+1,cs,hl,xs,h1,h4 _ hk⟩⟩
  case rop cs=>
    obtain ⟨xs,h1,h2⟩:=det_take _ h
    obtain ⟨z,h3,h4⟩:=det_mk _ h1
    exact ⟨z,h3,fun K' hk=>h2 _ (h4 _ hk)⟩
theorem det_idx {x:AVal}:Det (wIdx x):=fun K h=>by
  cases x<;>simp only [wIdx] at h ⊢
  obtain ⟨j,h1,h2⟩:=h
  exact ⟨j,h2,fun K' hk=>⟨j,h1,hk⟩⟩
theorem det_lo {x:Option Rand}:Det (wLo F x):=fun K h=>by
  cases x with
  | none=>exact ⟨0,h,fun K' hk=>hk⟩
  | some r=>simp only [wLo,rdK_iff] at h ⊢;exact det_idx _ h
theorem det_hi {n:Nat} {x:Option Rand}:Det (wHi F n x):=fun K h=>by
  cases x with
  | none=>exact ⟨n,h,fun K' hk=>hk⟩
  | some r=>simp only [wHi,rdK_iff] at h ⊢;exact det_idx _ h
theorem det_bytes {x:AVal}:Det (wBytes S x):=fun K h=>by
  cases x<;>simp only [wBytes] at h ⊢ <;>first | exact h.elim | exact ⟨_,h,fun K' hk=>hk⟩ | skip
  · obtain ⟨k,cs,h1,h2,ns,h3,h4⟩:=wRow_iff.1 h
    exact ⟨_,h4,fun K' hk=>wRow_iff.2 ⟨k,cs,h1,h2,ns,h3,hk⟩⟩
  · obtain ⟨h1,ns,h2,h3⟩:=h
    exact ⟨_,h3,fun K' hk=>⟨h1,ns,h2,hk⟩⟩
theorem quiet_det {so:SOp} (hq:so.quiet=true) (h:vcOpD P F S K so): ∃x,K x S∧ ∀K':AVal→Store→Prop,K' x S→vcOp P F S K' so:=by
  cases so<;>simp only [SOp.quiet] at hq<;>first | (cases hq;done) | skip
  case call f xs=>
    simp only [vcOpD,vcOp,rdsK_iff] at h ⊢
    obtain ⟨r0,h1,h2⟩:=h
    exact ⟨r0,h2,fun K' hk=>ACallsMono h1 fun r S' hr=>by obtain ⟨rfl,rfl⟩:=hr;exact hk⟩
  case callv x xs=>
    simp only [vcOpD,vcOp,rdK_iff,rdsK_iff] at h ⊢
    generalize rd F x=X at*
    cases X<;>first | exact h.elim | skip
    rename_i f first cap
    cases f<;>first | exact h.elim | skip
    cases first<;>first | exact h.elim | skip
    obtain ⟨hc,r0,h1,h2⟩:=h
    exact ⟨r0,h2,fun K' hk=>⟨hc,ACallsMono h1 fun r S' hr=>by obtain ⟨rfl,rfl⟩:=hr;exact hk⟩⟩
  all_goals simp only [vcOpD,vcOp,rdK_iff,rdsK_iff] at h ⊢
  case b2s x=>
    obtain ⟨z,h1,h2⟩:=det_bytes _ h
    exact ⟨_,h1,fun K' hk=>h2 _ hk⟩
  case again t n ag x=>
    obtain ⟨z,h1,h2⟩:=det_load _ h
    exact ⟨_,h1.2,fun K' hk=>h2 _ ⟨h1.1,hk⟩⟩
  case ext k xs=>
    unfold vcExt at h ⊢
    split at h
    · exact ⟨_,h,fun K' hk=>hk⟩
    · exact ⟨_,h,fun K' hk=>hk⟩
    · exact h.elim
  case mov x=>exact ⟨_,h,fun K' hk=>hk⟩
  case pick c a b=>
    generalize rd F c=C at*
    cases C<;>first | exact h.elim | exact ⟨_,h,fun K' hk=>hk⟩ | skip
    rename_i cb
    cases cb
    · exact ⟨_,h.2 rfl,fun K' hk=>⟨fun e=>(by cases e),fun _=>hk⟩⟩
    · exact ⟨_,h.1 rfl,fun K' hk=>⟨fun _=>hk,fun e=>by cases e⟩⟩
  case build z ps=>
    obtain ⟨x,h1,h2⟩:=det_fill _ h
    exact ⟨_,h1,fun K' hk=>h2 _ hk⟩
  case bslice ro len k z ps=>
    subst hq
    obtain ⟨x,h1,h2⟩:=det_fill _ h
    exact ⟨_,h1,fun K' hk=>h2 _ hk⟩
  case load n ag x=>
    obtain ⟨z,h1,h2⟩:=det_load _ h
    exact ⟨z,h1,fun K' hk=>h2 _ hk⟩
  case nilchk x=>
    generalize rd F x=X at*
    cases X<;>first | exact h.elim | exact ⟨_,h,fun K' hk=>hk⟩ | skip
    rename_i f a b
    cases f<;>first | exact h.elim | exact ⟨_,h,fun K' hk=>hk⟩
  case bin q op x y=>
    obtain ⟨z,h1,h2⟩:=det_bin _ h
    exact ⟨z,h1,fun K' hk=>h2 _ hk⟩
  case strid x=>
    generalize rd F x=X at*
    cases X<;>first | exact h.elim | exact ⟨_,h,fun K' hk=>hk⟩
  case not x=>
    generalize rd F x=X at*
    cases X<;>simp only [wBool] at h ⊢ <;>first | exact h.elim | exact ⟨_,h,fun K' hk=>hk⟩
  case neg x=>
    generalize rd F x=X at*
    cases X<;>simp only [wInt] at h ⊢ <;>first | exact h.elim | skip
    obtain ⟨z,h1,h2⟩:=det_wMk _ h
    exact ⟨z,h1,fun K' hk=>h2 _ hk⟩
  case conv k x=>
    generalize rd F x=X at*
    cases X<;>simp only [wInt] at h ⊢ <;>first | exact h.elim | skip
    obtain ⟨z,h1,h2⟩:=det_wMk _ h
    exact ⟨z,h1,fun K' hk=>h2 _ hk⟩
  case slice3 k x y z=>
    obtain ⟨n,h1,h2⟩:=det_idx _ h
    generalize rd F x=X at*
    cases X<;>simp only at h1 h2 ⊢ <;>first | exact h1.2.elim | skip
    · exact ⟨_,h1.2.2,fun K' hk=>h2 _ ⟨h1.1,h1.2.1,hk⟩⟩
    · obtain ⟨g0,g1,g2⟩:=h1
      obtain ⟨k',cs,hl,e,hk⟩:=wRow_iff.1 g2
      exact ⟨_,hk,fun K' hk=>h2 _ ⟨g0,g1,wRow_iff.2 ⟨k',cs,hl,e,hk⟩⟩⟩
  case slice k x lo hi=>
    generalize rd F x=X at*
    cases k with
    | zero=>
      cases X<;>first | exact h.elim | skip
      simp only at h ⊢
      obtain ⟨hh,h1,h2⟩:=det_hi _ h
      obtain ⟨j,h3,h4⟩:=det_lo _ h1
      exact ⟨_,h3.2.2,fun K' hk=>h2 _ (h4 _ ⟨h3.1,h3.2.1,hk⟩)⟩
    | succ k=>
      cases X<;>first | exact h.elim | skip
      all_goals
        simp only at h ⊢
        obtain ⟨hh,h1,h2⟩:=det_hi _ h
        obtain ⟨j,h3,h4⟩:=det_lo _ h1
      · exact ⟨_,h3.2.2,fun K' hk=>h2 _ (h4 _ ⟨h3.1,h3.2.1,hk⟩)⟩
      · obtain ⟨k',cs,hl,e,hk⟩:=wRow_iff.1 h3.2.2
        exact ⟨_,hk,fun K' hk=>h2 _ (h4 _ ⟨h3.1,h3.2.1,wRow_iff.2 ⟨k',cs,hl,e,hk⟩⟩)⟩
      · exact ⟨_,h3.2.2.2,fun K' hk=>h2 _ (h4 _ ⟨h3.1,h3.2.1,h3.2.2.1,hk⟩)⟩
  case faddr o x=>
    generalize rd F x=X at*
    cases X<;>simp only [dropK_iff] at h ⊢ <;>first | exact h.elim | exact ⟨_,h,fun K' hk=>hk⟩
  case field o n ag x=>
    generalize rd F x=X at*
    cases X<;>simp only [dropK_iff] at h ⊢ <;>first | exact h.elim | skip
    obtain ⟨xs,h1,h2⟩:=det_take _ h
    obtain ⟨z,h3,h4⟩:=det_mk _ h1
    exact ⟨z,h3,fun K' hk=>h2 _ (h4 _ hk)⟩
  case iaddr k ar x i=>
    generalize rd F x=X at*
    obtain ⟨j,h1,h2⟩:=det_idx _ h
    cases X<;>cases ar<;>simp only at h1 h2 ⊢ <;>first | exact h1.elim | skip
    · exact ⟨_,h1.2,fun K' hk=>h2 _ ⟨h1.1,hk⟩⟩
    · exact ⟨_,h1.2,fun K' hk=>h2 _ ⟨h1.1,hk⟩⟩
    · obtain ⟨g1,g2⟩:=h1
      obtain ⟨k',cs,hl,e,hk⟩:=wRow_iff.1 g2
      exact ⟨_,hk,fun K' hk=>h2 _ ⟨g1,wRow_iff.2 ⟨k',cs,hl,e,hk⟩⟩⟩
    · obtain ⟨g1,xs,g2,g3⟩:=h1
      exact ⟨_,g3,fun K' hk=>h2 _ ⟨g1,xs,g2,hk⟩⟩
  case index k ar ag x i=>
    generalize rd F x=X at*
    obtain ⟨j,h1,h2⟩:=det_idx _ h
    cases X<;>cases ar<;>simp only at h1 h2 ⊢ <;>first | exact h1.elim | skip
    · obtain ⟨c,g1,g2⟩:=h1
      exact ⟨_,g2,fun K' hk=>h2 _ ⟨c,g1,hk⟩⟩
    · obtain ⟨g1,xs,g2,g3⟩:=h1
      obtain ⟨z,h3,h4⟩:=det_mk _ g3
      exact ⟨z,h3,fun K' hk=>h2 _ ⟨g1,xs,g2,h4 _ hk⟩⟩
  case len str x=>
    generalize rd F x=X at*
    cases str<;>cases X<;>first | exact h.elim | exact ⟨_,h,fun K' hk=>hk⟩
  case min xs=>
    generalize xs.map (rd F)=ys at*
    cases ys<;>first | exact h.elim | skip
    obtain ⟨z,h1,h2⟩:=det_min _ h
    exact ⟨z,h1,fun K' hk=>h2 _ hk⟩
  case max xs=>
    generalize xs.map (rd F)=ys at*
    cases ys<;>first | exact h.elim | skip
    obtain ⟨z,h1,h2⟩:=det_max _ h
    exact ⟨z,h1,fun K' hk=>h2 _ hk⟩
  case mkfunc f a b=>exact ⟨_,h,fun K' hk=>hk⟩
  case mkif t x=>exact ⟨_,h,fun K' hk=>hk⟩
  case rcall f xs=>
    obtain ⟨r0,h1,h2⟩:=h
    exact ⟨r0,h2,fun K' hk=>⟨r0,h1,hk⟩⟩
  case mlook q ok z m k=>
    obtain ⟨h0,h⟩:=h
    generalize rd F m=X at*
    cases X<;>first | exact h.elim | skip
    · obtain ⟨es,hl,h1,h2⟩:=wMap_iff.1 h
      exact ⟨_,h2,fun K' hk=>⟨h0,wMap_iff.2 ⟨es,hl,h1,hk⟩⟩⟩
    · exact ⟨_,h,fun K' hk=>⟨h0,hk⟩⟩
  case extract x i=>
    generalize rd F x=X at*
    cases X<;>simp only [dropK_iff] at h ⊢ <;>first | exact h.elim | skip
    split at h
    · rename_i y _ e;exact ⟨y,h,fun K' hk=>hk⟩
    · exact h.elim
end
end Go.Vc
end
end
