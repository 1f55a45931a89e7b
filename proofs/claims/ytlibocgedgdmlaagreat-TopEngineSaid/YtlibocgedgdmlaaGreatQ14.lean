/- Part of the proof of topEngine_holds: the whole is true of every input. Conditions: none. -/
import Derived.Test.YtlibocgedgdmlaaGreatQ13
set_option linter.all false
section
namespace Go.Proofs
open Go.RowKit Go.Shelf Go.Vc
set_option maxHeartbeats 4000000 in
set_option maxRecDepth 100000 in
theorem ZO (b off n c i m vb voff vc:Nat) (cs vs:List Value) (w:World) (hij:i<n) (hnc:n<=c) (hroom:c<i+m) (hn6:n<=1000000) (hm6:m<=1000000) (hcl:cs.length=n*2) (hvl:vs.length=m*2)
  (hcs: ∀k v,cs[k]?=some v->w.cell? ⟨b,off+k,none⟩=some v) (hvs: ∀k v,vs[k]?=some v->w.cell? ⟨vb,voff+k,none⟩=some v):
  Calls Tryz.prog 72 #[.slice (some ⟨b,off,none⟩) n c,.int .i64 i,.int .i64 n,.slice (some ⟨vb,voff,none⟩) m vc] w fun e w'=>
   ∃(cap:Nat) (rest:List Value),e= .returned (.slice (some ⟨w.heap.size,0,none⟩) (i+m) cap)/\i+m<=cap/\rest.length=(cap-(i+m))*2/\w'.heap=w.heap.push (.cells (cs.take (i*2)++vs++rest).toArray 127 (0,0))/\w'.os=w.os/\w'.output=w.output/\Tp w w':=by
 obtain ⟨i0,hi0,hz0,hby,z,hz,hzc,_⟩:=Lb;have htl:(cs.take (i*2)).length=i*2:=by rw [List.length_take];omega
 have hcell: ∀w':World,w'.heap=w.heap-> ∀a:Addr,w'.cell? a=w.cell? a:=fun w' hw a=>by unfold World.cell?;rw [hw]
 obtain ⟨w1,rest,cap,k1,k2,k3,k4,k5,k6,k7⟩:=Dl (P:=Tryz.prog) (w:=w) (ats:= #[59,59]) (ty:=59) (args:= #[.slice (some ⟨b,off,none⟩) i c,.slice (some ⟨vb,voff,none⟩) m vc]) (base:=some ⟨b,off,none⟩) (sLen:=i) (sCap:=c) (n:=m) (olds:=cs.take (i*2)) (news:=vs) (i:=i0) (z:=z) (t:=59) (u:=59) rfl rfl rfl rfl Tryz.underlying59 Tryz.underlying59 (.inl ⟨_,rfl⟩) hi0 hz (by rw [hby];decide)
  (fun w'=>by simp [Builtin.lenOf]) (fun w' hw=>run_firstCells_some (P:=Tryz.prog) w' i0.size m ⟨vb,voff,none⟩ m vc vs (by rw [hvl,hz0]) fun k v hk=>by rw [Addr.add_lit,hcell w' hw];exact hvs k v hk)
  (fun w' hw=>run_firstCells_some (P:=Tryz.prog) w' i0.size i ⟨b,off,none⟩ i c (cs.take (i*2)) (by rw [htl,hz0]) fun k v hk=>by
   rw [Addr.add_lit,hcell w' hw];rw [List.getElem?_take] at hk;split at hk
   ·exact hcs k v hk
   ·cases hk) hroom (by rw [hby];omega)
 have u22:=run_underlying Tryz.underlying59;have z24:=Tryz.sizeOf127;have hb1:(i:Int)<=(n:Int):=by omega
 have hb3: ¬((i:Int)=(n:Int)):=by omega
 have hb6: ¬(c=i):=by omega
 have hn1:i<=c:=by omega
 have hn3:i<=n:=by omega
 have hb8: ¬((i:Int)+(m:Int)<(n:Int)):=by omega
 refine (show Calls Tryz.prog 72 _ w fun e w'=>e= .returned (.slice (some ⟨w.heap.size,0,none⟩) (i+m) cap)/\w'=w1 from ?_).mono (fun e w' h=>⟨cap,rest,h.1,k1,by rw [k2,hzc],by rw [h.2];exact k4,by rw [h.2];exact k5,by rw [h.2];exact k6,by rw [h.2];exact k7⟩);clear k4 k5 k6 k7 k2 k1 hcell hcs hvs
 go_enter Tryz.func72,Tryz.ntmps72
 go_wp2_with (at_builtin;refine Lib.wpList_append_run _ rfl _ _ _ _ rfl _ _ rfl rfl _ _ k3 ?_)
 all_goals (go_ret)
 all_goals (exact ⟨rfl,rfl⟩)
set_option maxHeartbeats 4000000 in
set_option maxRecDepth 100000 in
theorem pR (b off n c i j m t vb voff vc:Nat) (cs vs:List Value) (w:World) (hij:i<j) (hj:j<n) (hm0:1<=m) (ht:t=i+m+(n-j)) (hroom:c<t) (hnc:n<=c) (hn6:n<=1000000) (hm6:m<=1000000) (hcl:cs.length=n*2) (hvl:vs.length=m*2) (hb:b<w.heap.size) (hvb:vb<w.heap.size)
  (hcs: ∀k v,cs[k]?=some v->w.cell? ⟨b,off+k,none⟩=some v) (hvs: ∀k v,vs[k]?=some v->w.cell? ⟨vb,voff+k,none⟩=some v) (h1c: ∀v∈cs,v.oneCell'=true) (h1v: ∀v∈vs,v.oneCell'=true):
  Calls Tryz.prog 72 #[.slice (some ⟨b,off,none⟩) n c,.int .i64 i,.int .i64 j,.slice (some ⟨vb,voff,none⟩) m vc] w fun e w'=>
   ∃(cap:Nat) (row:Array Value),e= .returned (.slice (some ⟨w.heap.size,0,none⟩) t cap)/\t<=cap/\row.size=cap*2/\w'=(((w.drew.drew.alloc (.cells row 127)).setCells w.heap.size (i*2) vs).drew).setCells w.heap.size ((i+m)*2) (cs.drop (j*2))/\row.toList.take (i*2)=cs.take (i*2):=by
 obtain ⟨i0,hi0,hz0,hby,z,hz,hzc,_⟩:=Lb;have htl:(cs.take (i*2)).length=i*2:=by rw [List.length_take];omega
 have hap:=Lib.run_append_grow_zeros (P:=Tryz.prog) w.drew 59 3 59 127 i0 z .i64 .i64 Tryz.underlying59 Tryz.underlying3 hi0 hz (some ⟨b,off,none⟩) i c (cs.take (i*2))
  (run_firstCells_some (P:=Tryz.prog) w.drew.drew i0.size i ⟨b,off,none⟩ i c (cs.take (i*2)) (by rw [htl,hz0]) fun k v hk=>by
   rw [Addr.add_lit];rw [List.getElem?_take] at hk;split at hk
   ·exact hcs k v hk
   ·cases hk)
  (t-i) (by omega) (by rw [hz0];decide) (by omega) (by omega) (by rw [hby];omega) (by rw [hby];have:=growslice_fits (bytes:=16) (show c<i+(t-i) by omega) (by omega);omega)
 rw [show i+(t-i)=t by omega] at hap;generalize hcap:grownCap w.drew t c 127=cap at hap;have hcg:t<=cap:=by rw [<-hcap];exact grownCap_ge _ _ _ _
 generalize hrow:(cs.take (i*2)).toArray++Builtin.zeroCells z.cells (t-i)++Builtin.zeroCells z.cells (cap-t)=row at hap;have hrs:row.size=cap*2:=by
  rw [<-hrow];simp only [Array.size_append,List.size_toArray,htl,size_zeroCells,hzc];omega
 have hrt:row.toList.take (i*2)=cs.take (i*2):=by
  rw [<-hrow];simp only [Array.toList_append,List.append_assoc];rw [List.take_append_of_le_length (by rw [htl];exact Nat.le_refl _),List.take_of_length_le (by rw [htl];exact Nat.le_refl _)]
 have hdl:(cs.drop (j*2)).length=(n-j)*2:=by rw [List.length_drop,hcl];omega
 have hmin1:Nat.min m (t-i)=m:=by simp only [Nat.min_def];split<;>omega
 have hmin2:Nat.min (n-j) (n-j)=n-j:=by simp only [Nat.min_def];split<;>omega
 obtain ⟨G,hGe⟩: ∃G,G=w.heap.size:=⟨_,rfl⟩
 obtain ⟨W1,hW1⟩: ∃W1,W1=w.drew.drew.alloc (.cells row 127):=⟨_,rfl⟩
 have hG:W1.heap[G]?=some (.cells row 127 (0,0)):=by
  rw [hW1,hGe];simp only [World.alloc];exact Array.getElem?_push_size
 have hcl1: ∀a:Addr,a.block<G->W1.cell? a=w.cell? a:=fun a ha=>by
  rw [hW1];exact World.cell?_of_block (Below.heap_alloc w.drew.drew _ a.block (by rw [hGe] at ha;exact ha))
 have hsp1: ∀k,k<cap*2->(W1.cell? ⟨G,k,none⟩).isSome=true:=fun k hk=>by
  rw [Lib.cell_of_heap hG];simp [hrs,hk]
 have hfz1: ∀k,W1.frozen? ⟨G,k,none⟩=false:=fun k=>Lib.frozen_of_heap hG k;have hcpA: ∀ty dc,(Builtin.copy_ #[59,59] ty #[.slice (some ⟨G,i*2,none⟩) (t-i) dc,.slice (some ⟨vb,voff,none⟩) m vc]).run Tryz.prog W1= .ok (goInt ((m:Nat):Int)) (W1.setCells G (i*2) vs):=fun ty dc=>by
  rw [Dv (P:=Tryz.prog) W1 59 59 ty 127 i0 G (i*2) (t-i) dc ⟨vb,voff,none⟩ m vc vs Tryz.underlying59 hi0 (by rw [hvl,hz0,hmin1])
   (fun k v hk=>by rw [Addr.add_lit,hcl1 _ (by rw [hGe];exact hvb)];exact hvs k v hk)
   (fun k hk=>hsp1 _ (by omega)) (fun k hk=>hfz1 _) h1v,hmin1]
 obtain ⟨W2,hW2⟩: ∃W2,W2=W1.setCells G (i*2) vs:=⟨_,rfl⟩
 have hsp2: ∀k,k<cap*2->(W2.cell? ⟨G,k,none⟩).isSome=true:=fun k hk=>by
  rw [hW2];exact isSome_setCells G _ _ _ (fun k' hk'=>hsp1 _ (by omega)) _ (hsp1 k hk)
 have hcpB: ∀ty dc sc,(Builtin.copy_ #[59,59] ty #[.slice (some ⟨G,(i+m)*2,none⟩) (n-j) dc,.slice (some ⟨b,off+j*2,none⟩) (n-j) sc]).run Tryz.prog W2.drew= .ok (goInt ((n-j:Nat):Int)) (W2.drew.setCells G ((i+m)*2) (cs.drop (j*2))):=fun ty dc sc=>by
  rw [Dv (P:=Tryz.prog) W2.drew 59 59 ty 127 i0 G ((i+m)*2) (n-j) dc ⟨b,off+j*2,none⟩ (n-j) sc (cs.drop (j*2)) Tryz.underlying59 hi0 (by rw [hdl,hmin2,hz0])
   (fun k v hk=>by
    show W2.cell? _=_;rw [Addr.add_lit,hW2,World.cell?_setCells_out G _ _ _ _ (fun h _=>absurd h (by show b≠G;omega)),hcl1 _ (by rw [hGe];exact hb),Nat.add_assoc];exact hcs (j*2+k) v (by rwa [List.getElem?_drop] at hk))
   (fun k hk=>by exact hsp2 _ (by omega)) (fun k hk=>by show W2.frozen? _=_;rw [hW2,World.frozen?_setCells];exact hfz1 _) (fun v hv=>h1c v (List.mem_of_mem_drop hv)),hmin2]
 rw [show w.drew.heap.size=w.heap.size from rfl,<-hW1,<-hGe] at hap;rw [<-hW2] at hcpA;have mixed:Tryz.prog.follows .mixedOrders=true:=by kernel_rfl
 have u22:=run_underlying Tryz.underlying59;have z24:=Tryz.sizeOf127;have hb1:(i:Int)<=(j:Int):=by omega
 have hb2:(j:Int)<=(n:Int):=by omega
 have hb2':(j:Int)<=(c:Int):=by omega
 have hb3: ¬((i:Int)=(j:Int)):=by omega
 have hb4: ¬((j:Int)=(n:Int)):=by omega
 have hb5: ¬(c=j):=by omega
 have hb6: ¬(c=i):=by omega
 have hw1:IntKind.i64.wrap ((i:Int)+(m:Int))=(i:Int)+(m:Int):=by rw [IntKind.wrap_i64];omega
 have hw2:IntKind.i64.wrap ((i:Int)+(m:Int)+((n-j:Nat):Int))=(t:Int):=by rw [IntKind.wrap_i64];omega
 have hw3:IntKind.i64.wrap ((t:Int)-(i:Int))=((t-i:Nat):Int):=by rw [IntKind.wrap_i64];omega
 have hb8:(c:Int)<(t:Int):=by omega
 have hs1:t-(i+m)=n-j:=by omega
 have hn1:i<=c:=by omega
 have hn2:j<=c:=by omega
 have hn3:i<=n:=by omega
 have hn4:j<=n:=by omega
 have hn5:i<=j:=by omega
 have hn9:i<=t:=by omega
 have hn11:i+m<=t:=by omega
 have hb11:(i:Int)+(m:Int)<=(t:Int):=by omega
 have hb12:(i:Int)<=(t:Int):=by omega
 have hq1:(0:Int)<=(i:Int)+(m:Int):=by omega
 have hq3:((i:Int)+(m:Int)).toNat=i+m:=by omega
 have hb13: ¬(cap=i):=by omega
 have hb14: ¬(cap=i+m):=by omega
 refine (show Calls Tryz.prog 72 #[.slice (some ⟨b,off,none⟩) n c,.int .i64 i,.int .i64 j,.slice (some ⟨vb,voff,none⟩) m vc] w fun e w'=>e= .returned (.slice (some ⟨G,0,none⟩) t cap)/\w'=W2.drew.setCells G ((i+m)*2) (cs.drop (j*2)) from ?_).mono ?_;rotate_left
 ·rintro e w' ⟨rfl,rfl⟩;exact ⟨cap,row,by rw [hGe],hcg,hrs,by rw [hW2,hW1,hGe],hrt⟩
 clear hGe hW1 hW2 hrow hcap hG ht hcl1 hsp1 hfz1 hsp2 hcs hvs
 go_enter Tryz.func72,Tryz.ntmps72
 go_wp2
 go_region_law_o fail
 all_goals (go_wp2_with (first
  | (at_builtin;refine Lib.wpList_append_run _ rfl _ _ _ _ rfl _ _ rfl rfl _ _ hap ?_)
  | (at_builtin;refine wpList_copy_runI _ rfl _ _ 59 59 rfl _ _ rfl rfl (hcpA _ _) ?_)))
 all_goals (go_region_law_o (refine step_copy_runI rfl _ _ 59 59 rfl (.slice (some ⟨G,(i+m)*2,none⟩) (n-j) (cap-(i+m))) (.slice (some ⟨b,off+j*2,none⟩) (n-j) (c-j)) (by simp [Act.eval,Act.put];try omega) (by simp [Act.eval,Act.put]) (hcpB _ _ _) ?_))
 all_goals go_wp2
 all_goals go_ret
 all_goals (exact ⟨rfl,rfl⟩)
end Go.Proofs
end
section
namespace Go.Proofs
open Go.RowKit Go.Shelf Go.Vc
theorem ZP {α:Type} {A B:List α} {n m i j t:Nat} (h1:A.length=n*2) (h2:B.length=m*2) (hij:i<j) (hj:j<=n) (ht:t=i+m+(n-j)):(A.take (i*2)++B++A.drop (j*2)).length=t*2:=by
 simp only [List.length_append,List.length_take,List.length_drop];omega
theorem UC {α:Type} {A B:List α} {n m i j k:Nat} {v:α} (h1:A.length=n*2) (h2:B.length=m*2) (hij:i<j) (hj:j<=n) (h:(A.take (i*2)++B++A.drop (j*2))[k]?=some v):
  (k<i*2/\A[k]?=some v)\/(i*2<=k/\k<(i+m)*2/\B[k-i*2]?=some v)\/((i+m)*2<=k/\k<(i+m+(n-j))*2/\(A.drop (j*2))[k-(i+m)*2]?=some v):=by
 have hl:(A.take (i*2)).length=i*2:=by rw [List.length_take];omega
 have hk:k<(A.take (i*2)++B++A.drop (j*2)).length:=by
  rcases Nat.lt_or_ge k (A.take (i*2)++B++A.drop (j*2)).length with h' | h'
  ·exact h'
  ·rw [List.getElem?_eq_none h'] at h;cases h
 rw [ZP h1 h2 hij hj rfl] at hk;rw [List.append_assoc] at h;by_cases c:k<i*2
 ·rw [List.getElem?_append_left (by omega),List.getElem?_take,if_pos c] at h;exact .inl ⟨c,h⟩
 ·rw [List.getElem?_append_right (by omega),hl] at h;by_cases d:k<(i+m)*2
  ·rw [List.getElem?_append_left (by omega)] at h;exact .inr (.inl ⟨by omega,d,h⟩)
  ·rw [List.getElem?_append_right (by omega),h2,show k-i*2-m*2=k-(i+m)*2 by omega] at h;exact .inr (.inr ⟨by omega,hk,h⟩)
set_option maxHeartbeats 1000000 in
theorem Wd {S:AB} {p ver off q vq vo n i j m:Nat} {cs ds:List AA} (hp:S[p]?=some (.row ver 2 cs)) (hfit:off+n*2<=cs.length) (hq:S[q]?=some (.row vq 2 ds)) (hqf:vo+m*2<=ds.length) (hpq:p≠q) (hij:i<j) (hj:j<=n) (hm:1<=m) (hn6:n<=1000000) (hm6:m<=1000000):
  AU Tryz.prog 72 [.sl p ver off n,.int .i64 (i:Int),.int .i64 (j:Int),.sl q vq vo m] S (eA S (.sl p ver off n) 2 (i+m+(n-j)) ((BL cs off (n*2)).take (i*2)++BL ds vo (m*2)++(BL cs off (n*2)).drop (j*2))):=by
 refine ⟨fun E fz w vals st hrel=>?_⟩;simp only [AZ] at hrel;obtain ⟨v1,_,rfl,r1,v2,_,rfl,r2,v3,_,rfl,r3,v4,_,rfl,r4,rfl⟩:=hrel;simp only [Rel] at r1 r2 r3 r4;subst r2;subst r3;rcases r1 with ⟨h0,_⟩ | ⟨b,base,cap,k,c,hE,hle,hcap,rfl⟩
 ·omega
 rcases r4 with ⟨h0,_⟩ | ⟨vb,qbase,qcap,qk,vc,q1,q2,q3,rfl⟩
 ·omega
 rcases st.ok p _ hp with ⟨e1,_⟩ | ⟨b',base',cap',arr,T,lo,hi',e1,e2,e3,e4,e5,e6,e7⟩
 ·rw [hE] at e1;cases e1
 rw [hE] at e1;cases e1;have e5:lo=hi':=e5.resolve_right (by simp);subst e5;rcases st.ok q _ hq with ⟨g1,_⟩ | ⟨vb',qbase',qcap',qarr,qT,qlo,qhi,g1,g2,g3,g4,g5,g6,g7⟩
 ·rw [q1] at g1;cases g1
 rw [q1] at g1;cases g1;have g5:qlo=qhi:=g5.resolve_right (by simp);subst g5;have hvb:vb≠b:=fun e=>by
  subst e;exact hpq (st.sep p q vb ⟨_,hp,by simp [AR,hE]⟩ ⟨_,hq,by simp [AR,q1]⟩)
 have hbl:b<w.heap.size:=(Array.getElem?_eq_some_iff.1 e2).1;have hvbl:vb<w.heap.size:=(Array.getElem?_eq_some_iff.1 g2).1;obtain ⟨us,u1,u2,u3⟩:=((e6.drop off).take (n*2)).read;obtain ⟨vs,s1,s2,s3⟩:=((g6.drop vo).take (m*2)).read;have hul:us.length=n*2:=by rw [u1.length,List.length_take,List.length_drop];omega
 have hvl:vs.length=m*2:=by rw [s1.length,List.length_take,List.length_drop];omega
 have hfz: ∀o,w.frozen? ⟨b,o,none⟩=false:=fun o=>by rw [GF e2];by_cases c:lo<=o<;>simp [c]<;>omega
 have hfv: ∀o,w.frozen? ⟨vb,o,none⟩=false:=fun o=>by rw [GF g2];by_cases c:qlo<=o<;>simp [c]<;>omega
 have hsp: ∀k',k'<c*2->(w.cell? ⟨b,base+off+k',none⟩).isSome=true:=fun k' hk=>by
  rw [CL e2,Array.getElem?_eq_getElem (by omega)];rfl
 have hsb:w.shape? b=some (T,arr.size):=by unfold World.shape?;rw [e2]
 have hsa:w.shape? vb=some (qT,qarr.size):=by unfold World.shape?;rw [g2]
 obtain ⟨t,ht⟩: ∃t,t=i+m+(n-j):=⟨_,rfl⟩
 rw [<-ht];have hrel:AZ E fz w ((BL cs off (n*2)).take (i*2)++BL ds vo (m*2)++(BL cs off (n*2)).drop (j*2)) (us.take (i*2)++vs++us.drop (j*2)):=((u1.take (i*2)).append s1).append (u1.drop (j*2));have hrl:=ZP hul hvl hij hj ht;have hone: ∀v∈us.take (i*2)++vs++us.drop (j*2),v.oneCell'=true:=fun v hv=>by
  simp only [List.mem_append] at hv;rcases hv with (hv | hv) | hv
  ·exact u2 v (List.mem_of_mem_take hv)
  ·exact s2 v hv
  ·exact u2 v (List.mem_of_mem_drop hv)
 have fin: ∀ {e:Ending} {w':World} {row:Array Value} {T:TypeId} {c':Nat},e= .returned (.slice (some ⟨w.heap.size,0,none⟩) t c')->t<=c'->c'*2<=row.size->w'.heap[w.heap.size]?=some (.cells row T (0,0))->w'.heap.size=w.heap.size+1->(∀b:Nat,b<w.heap.size->w'.heap[b]?=w.heap[b]?)->
   (∀(k:Nat) v,(us.take (i*2)++vs++us.drop (j*2))[k]?=some v->row[k]?=some v)->w'.os=w.os->w'.output=w.output->Tp w w'->
   ∃r S' v E' fz',e= .returned v/\Ext E fz S w E' fz' S' w'/\St E' fz' S' w'/\Rel E' fz' w' r v/\eA S (.sl p ver off n) 2 t ((BL cs off (n*2)).take (i*2)++BL ds vo (m*2)++(BL cs off (n*2)).drop (j*2)) r S':=fun {e w' row T c'} he hc1 hc2 k1 k2 k3 k4 o1 o2 o3=>by
  obtain ⟨ver',E',p1,p2,p3⟩:=st.oh (k:=2) k1 k2 k3 k4 hrel hone o1 o2 o3;exact ⟨.sl S.length ver' 0 t,_,_,E',fz,he,p3,p2,by
   simp only [Rel];exact .inr ⟨_,_,_,_,c',p1,hc1,by omega,rfl⟩,.inl ⟨ver',rfl,rfl⟩⟩
 have hmk: ∀ {e:Ending} {w':World} {arr':Array Value},e= .returned (.slice (some ⟨b,base+off,none⟩) t c)->t<=c->w'.heap[b]?=some (.cells arr' T (lo,lo))->arr'.size=arr.size->(∀b':Nat,b'≠b->w'.heap[b']?=w.heap[b']?)->w'.heap.size=w.heap.size->(∀t,t<base+off->arr'[t]?=arr[t]?)->
   (∀(k:Nat) v,(us.take (i*2)++vs++us.drop (j*2))[k]?=some v->arr'[base+off+k]?=some v)->w'.os=w.os->w'.output=w.output->Tp w w'->
   ∃r S' v E' fz',e= .returned v/\Ext E fz S w E' fz' S' w'/\St E' fz' S' w'/\Rel E' fz' w' r v/\eA S (.sl p ver off n) 2 t ((BL cs off (n*2)).take (i*2)++BL ds vo (m*2)++(BL cs off (n*2)).drop (j*2)) r S':=fun {e w' arr'} he hc k1 k2 k3 k4 k5 k6 o1 o2 o3=>by
  have hl:=hrel.length;obtain ⟨p1,p2⟩:=st.rewrite hp hE e2 k1 k2 k3 k4 (off:=off) (by omega) (by rw [<-hl,hrl];omega) (fun t ht=>k5 _ (by omega)) k6 hrel hone o1 o2 o3;exact ⟨.sl p ver off t,_,_,E,fz,he,p2,p1,by
   simp only [Rel];exact .inr ⟨b,base,cap,2,c,hE,hc,hcap,rfl⟩,.inr ⟨p,ver,off,_,cs,rfl,hp,by omega,rfl,rfl⟩⟩
 have hcell: ∀(k:Nat) v,us[k]?=some v->arr[base+off+k]?=some v:=fun k v hk=>by
  have:=u3 k v hk;rwa [CL e2] at this
 by_cases hjn:j=n
 ·subst hjn;have hdn:us.drop (j*2)=[]:=List.drop_of_length_le (by omega);by_cases hroom:i+m<=c
  ·refine .inl ⟨by kernel_rfl,(sI b (base+off) j c i m vb (qbase+vo) vc us vs w hij hle hm hroom hn6 hm6 hvl hsp (fun k' _=>hfz _) s3 s2).mono ?_⟩;rintro e w' ⟨rfl,xs,rfl⟩;obtain ⟨a1,a2,a3,a4,a5,a6⟩:=Bm b vs (base+off+i*2) w;obtain ⟨arr1,k1,k2,k3⟩:=As b vs (base+off+i*2) w e2;obtain ⟨b1,b2,b3,b4,b5,b6⟩:=Bm b xs (base+off+(i+m)*2) (w.setCells b (base+off+i*2) vs);obtain ⟨arr2,m1,m2,m3⟩:=As b xs (base+off+(i+m)*2) _ k1;refine hmk (by rw [ht,Nat.sub_self];rfl) (by omega) m1 (by rw [m2,k2]) (fun b' hb=>(b6 b' hb).trans (a6 b' hb)) (b5.trans a5) (fun t' ht'=>by rw [m3,if_neg (by omega),k3,if_neg (by omega)]) (fun k v hk=>?_) (b1.trans a1) (b2.trans a2) (Tp.of (b3.trans a3) (by rw [b4,a4];exact Nat.le_refl _));rcases UC hul hvl hij (Nat.le_refl _) hk with ⟨h1,h2⟩ | ⟨h1,h2,h3⟩ | ⟨h1,h2,_⟩
   ·rw [m3,if_neg (by omega),k3,if_neg (by omega)];exact hcell k v h2
   ·rw [m3,if_neg (by omega),k3,if_pos ⟨by omega,by omega,by omega⟩,show base+off+k-(base+off+i*2)=k-i*2 by omega];exact h3
   ·omega
  ·refine .inl ⟨by kernel_rfl,(ZO b (base+off) j c i m vb (qbase+vo) vc us vs w hij hle (by omega) hn6 hm6 hul hvl u3 s3).mono ?_⟩;rintro e w' ⟨gcap,rest,rfl,h2,h3,h4,h5,h6,h7⟩;refine fin (c':=gcap) (row:=(us.take (i*2)++vs++rest).toArray) (T:=127) (by rw [ht,Nat.sub_self];rfl) (by omega) (by simp only [List.size_toArray,List.length_append,List.length_take,h3,hvl,hul];omega) (by rw [h4];exact Array.getElem?_push_size) (by rw [h4,Array.size_push]) (fun b' hb=>by rw [h4,Array.getElem?_push,if_neg (by omega)]) (fun k v hk=>?_) h5 h6 h7;rw [hdn,List.append_nil] at hk;rw [List.getElem?_toArray,List.getElem?_append_left]
   ·exact hk
   ·rcases Nat.lt_or_ge k (us.take (i*2)++vs).length with h' | h'
    ·exact h'
    ·rw [List.getElem?_eq_none h'] at hk;cases hk
 have hjn:j<n:=by omega
 by_cases hroom:t<=c
 ·by_cases hup:j<i+m
  ·refine .inl ⟨by kernel_rfl,(uR b (base+off) n c i j m vb (qbase+vo) vc us vs w hij hjn hle hm hup (by omega) hn6 hm6 hvb hul hvl u3 (fun k' hk=>hsp k' (by omega)) (fun k' _=>hfz _) s3 u2 s2 qT T qarr.size arr.size hsa hsb (by omega) (hfv _) (hfv _) (hfz _) (hfz _) (by omega)).mono ?_⟩;rintro e w' ⟨rfl,rfl⟩;obtain ⟨a1,a2,a3,a4,a5,a6⟩:=Bm b (us.drop (j*2)) (base+off+(i+m)*2) w.drew.drew;obtain ⟨arr1,k1,k2,k3⟩:=As b (us.drop (j*2)) (base+off+(i+m)*2) w.drew.drew (arr:=arr) (T:=T) (m:=(lo,lo)) e2;obtain ⟨b1,b2,b3,b4,b5,b6⟩:=Bm b vs (base+off+i*2) (w.drew.drew.setCells b (base+off+(i+m)*2) (us.drop (j*2)));obtain ⟨arr2,m1,m2,m3⟩:=As b vs (base+off+i*2) _ k1;have hdl:(us.drop (j*2)).length=(n-j)*2:=by rw [List.length_drop,hul];omega
   refine hmk (by rw [ht]) hroom m1 (by rw [m2,k2]) (fun b' hb=>(b6 b' hb).trans (a6 b' hb)) (b5.trans a5) (fun t' ht'=>by rw [m3,if_neg (by omega),k3,if_neg (by omega)]) (fun k v hk=>?_) (b1.trans a1) (b2.trans a2) (Tp.of (b3.trans a3) (by rw [b4,a4];show w.drawn<=w.drawn+1+1;omega));rcases UC hul hvl hij hj hk with ⟨h1,h2⟩ | ⟨h1,h2,h3⟩ | ⟨h1,h2,h3⟩
   ·rw [m3,if_neg (by omega),k3,if_neg (by omega)];exact hcell k v h2
   ·rw [m3,if_pos ⟨by omega,by omega,by omega⟩,show base+off+k-(base+off+i*2)=k-i*2 by omega];exact h3
   ·rw [m3,if_neg (by omega),k3,if_pos ⟨by omega,by omega,by omega⟩,show base+off+k-(base+off+(i+m)*2)=k-(i+m)*2 by omega];exact h3
  ·refine .inl ⟨by kernel_rfl,(pQ b (base+off) n c i j m t vb (qbase+vo) vc us vs w hij hjn hle hm (by omega) ht (by omega) hn6 hm6 hvb hul hvl u3 (fun k' hk=>hsp k' (by omega)) (fun k' _=>hfz _) s3 u2 s2).mono ?_⟩;rintro e w' ⟨rfl,xs,rfl⟩;obtain ⟨a1,a2,a3,a4,a5,a6⟩:=Bm b vs (base+off+i*2) w.drew;obtain ⟨arr1,k1,k2,k3⟩:=As b vs (base+off+i*2) w.drew (arr:=arr) (T:=T) (m:=(lo,lo)) e2;obtain ⟨b1,b2,b3,b4,b5,b6⟩:=Bm b (us.drop (j*2)) (base+off+(i+m)*2) (w.drew.setCells b (base+off+i*2) vs).drew;obtain ⟨arr2,m1,m2,m3⟩:=As b (us.drop (j*2)) (base+off+(i+m)*2) (w.drew.setCells b (base+off+i*2) vs).drew (arr:=arr1) (T:=T) (m:=(lo,lo)) k1;obtain ⟨c1,c2,c3,c4,c5,c6⟩:=Bm b xs (base+off+t*2) ((w.drew.setCells b (base+off+i*2) vs).drew.setCells b (base+off+(i+m)*2) (us.drop (j*2)));obtain ⟨arr3,n1,n2,n3⟩:=As b xs (base+off+t*2) _ m1;have hdl:(us.drop (j*2)).length=(n-j)*2:=by rw [List.length_drop,hul];omega
   refine hmk rfl hroom n1 (by rw [n2,m2,k2]) (fun b' hb=>(c6 b' hb).trans ((b6 b' hb).trans (a6 b' hb))) (c5.trans (b5.trans a5)) (fun t' ht'=>by rw [n3,if_neg (by omega),m3,if_neg (by omega),k3,if_neg (by omega)]) (fun k v hk=>?_) (c1.trans (b1.trans a1)) (c2.trans (b2.trans a2)) (Tp.of (c3.trans (b3.trans a3)) (by rw [c4,b4];show w.drawn<=(World.setCells _ _ _ _).drawn+1;rw [a4];show w.drawn<=w.drawn+1+1;omega));rcases UC hul hvl hij hj hk with ⟨h1,h2⟩ | ⟨h1,h2,h3⟩ | ⟨h1,h2,h3⟩
   ·rw [n3,if_neg (by omega),m3,if_neg (by omega),k3,if_neg (by omega)];exact hcell k v h2
   ·rw [n3,if_neg (by omega),m3,if_neg (by omega),k3,if_pos ⟨by omega,by omega,by omega⟩,show base+off+k-(base+off+i*2)=k-i*2 by omega];exact h3
   ·rw [n3,if_neg (by omega),m3,if_pos ⟨by omega,by omega,by omega⟩,show base+off+k-(base+off+(i+m)*2)=k-(i+m)*2 by omega];exact h3
 ·refine .inl ⟨by kernel_rfl,(pR b (base+off) n c i j m t vb (qbase+vo) vc us vs w hij hjn hm ht (by omega) hle hn6 hm6 hul hvl hbl hvbl u3 s3 u2 s2).mono ?_⟩;rintro e w' ⟨gcap,row,rfl,h2,h3,rfl,h5⟩;have hA:(w.drew.drew.alloc (.cells row 127)).heap[w.heap.size]?=some (.cells row 127 (0,0)):=YH _ _;obtain ⟨a1,a2,a3,a4,a5,a6⟩:=Bm w.heap.size vs (i*2) (w.drew.drew.alloc (.cells row 127));obtain ⟨arr1,k1,k2,k3⟩:=As w.heap.size vs (i*2) _ hA;obtain ⟨b1,b2,b3,b4,b5,b6⟩:=Bm w.heap.size (us.drop (j*2)) ((i+m)*2) ((w.drew.drew.alloc (.cells row 127)).setCells w.heap.size (i*2) vs).drew;obtain ⟨arr2,m1,m2,m3⟩:=As w.heap.size (us.drop (j*2)) ((i+m)*2) ((w.drew.drew.alloc (.cells row 127)).setCells w.heap.size (i*2) vs).drew (arr:=arr1) (T:=127) (m:=(0,0)) k1;have hdl:(us.drop (j*2)).length=(n-j)*2:=by rw [List.length_drop,hul];omega
  refine fin (c':=gcap) (row:=arr2) (T:=127) rfl h2 (by rw [m2,k2,h3];exact Nat.le_refl _) m1 (b5.trans (a5.trans (T2 _ _))) (fun b' hb=>(b6 b' (by omega)).trans ((a6 b' (by omega)).trans (YI _ _ hb))) (fun k v hk=>?_) (b1.trans a1) (b2.trans a2) (Tp.of (b3.trans a3) (by rw [b4];show w.drawn<=(World.setCells _ _ _ _).drawn+1;rw [a4];show w.drawn<=w.drawn+1+1+1;omega));rcases UC hul hvl hij hj hk with ⟨h1,h4⟩ | ⟨h1,h4,h6⟩ | ⟨h1,h4,h6⟩
  ·rw [m3,if_neg (by omega),k3,if_neg (by omega)];have h7:(row.toList.take (i*2))[k]?=some v:=by rw [h5,List.getElem?_take,if_pos h1];exact h4
   rw [List.getElem?_take,if_pos h1,Array.getElem?_toList] at h7;exact h7
  ·rw [m3,if_neg (by omega),k3,if_pos ⟨by omega,by omega,by omega⟩];exact h6
  ·rw [m3,if_pos ⟨by omega,by omega,by omega⟩];exact h6
end Go.Proofs
end
section
set_option maxRecDepth 100000
namespace Go.Proofs.YtlibocgedgdmlaaGreat.E
open Go.Vc Go.Fu
theorem Has.ne {S:AB} {l l' v:Nat} {k:Nat} {cs:List AA} {o:Ob} {R:HM} (h:Has S (pt l o+(pt l' (.row v k cs)+R))):l≠l':=fun e=>by
 subst e;have h2:=Has.get (Has.right (h.put .dead));have hl:l<S.length:=(List.getElem?_eq_some_iff.1 h.get).1;rw [List.getElem?_set_self hl] at h2;cases h2
set_option maxHeartbeats 1000000 in
theorem gP {x:AA} {C V:List AA} {n i j t q vq:Nat} {a:HM} (hs:EP 2 x C n a) (hV:V.length=t*2) (hij:i<j) (hj:j<=n) (ht:1<=t) (hn6:n<=1000000) (ht6:t<=1000000) {i' j':Int} (hi':i'=i) (hj':j'=j):
  HC Tryz.prog Ay [x,.int .i64 i',.int .i64 j',.sl q vq 0 t] (a+pt q (.row vq 2 V)) fun r m'=> ∃a' X,EP 2 r (C.take (i*2)++V++C.drop (j*2)) (i+t+(n-j)) a'/\m'=a'+X:=by
 intro S mf hS;subst hi';subst hj';obtain ⟨p,v,off,cs,rfl,rfl,hle,rfl⟩:=hs.pos (by omega);have hp:=Has.here (l:=p) hS;have hq:=Has.here (l:=q) hS;have hne:p≠q:=Has.ne (hS.eq (m':=pt p (.row v 2 cs)+(pt q (.row vq 2 V)+mf)) (by ac_rfl));have hc:=Wd hp hle hq (vo:=0) (m:=t) (by omega) hne hij hj ht hn6 ht6;have hVe:BL V 0 (t*2)=V:=by unfold BL;rw [List.drop_zero,List.take_of_length_le (by omega)]
 rw [hVe] at hc;have hl:=ZP (A:=BL cs off (n*2)) (B:=V) (n:=n) (m:=t) (by unfold BL;rw [List.length_take,List.length_drop];omega) hV hij hj rfl;generalize hY:(BL cs off (n*2)).take (i*2)++V++(BL cs off (n*2)).drop (j*2)=Y at*;refine C6 hc ?_;rintro r S' (⟨v',rfl,rfl⟩ | ⟨p',ver,off',len,cs',e,hp',hoff,rfl,rfl⟩)
 ·exact ⟨_,⟨pt S.length (.row v' 2 Y),pt p (.row v 2 cs)+pt q (.row vq 2 V),EP.whole hl,rfl⟩,(hS.more _).eq (by ac_rfl)⟩
 ·cases e;rw [hp] at hp';cases hp';have hS':=hS.dn (l:=p) (o':= .row v 2 (cs.take off++Y));have ht':(cs.take off).length=off:=by rw [List.length_take];omega
  refine ⟨_,⟨pt p (.row v 2 (cs.take off++Y)),pt q (.row vq 2 V),.inr ⟨p,v,off,_,rfl,rfl,by rw [List.length_append,ht',hl];omega,?_⟩,rfl⟩,hS'⟩;unfold BL;rw [List.drop_left' ht',List.take_of_length_le (by rw [hl];omega)]
theorem Jp: ∀ {L L':List Bytes} {K K':List Bool},K.length=L.length->cellsOf (L++L') (K++K')=cellsOf L K++cellsOf L' K'
 | [],L',[],K',_=>rfl
 | l::L,L',k::K,K',h=>by simp only [List.cons_append,cellsOf];rw [Jp (by simpa using h)]
 | [],_,k::K,_,h=>by simp at h
 | l::L,_,[],_,h=>by simp at h
theorem QG: ∀ {L:List Bytes} {K:List Bool} (i:Nat),cellsOf (L.take i) (K.take i)=(cellsOf L K).take (i*2)
 | [],K,i=>by simp [cellsOf]
 | l::L,[],i=>by cases i<;>simp [cellsOf]
 | l::L,k::K,0=>rfl
 | l::L,k::K,i+1=>by rw [show (i+1)*2=i*2+1+1 by omega];simp only [List.take_succ_cons,cellsOf];rw [QG i]
theorem QF: ∀ {L:List Bytes} {K:List Bool} (i:Nat),K.length=L.length->cellsOf (L.drop i) (K.drop i)=(cellsOf L K).drop (i*2)
 | [],[],i,_=>by simp [cellsOf]
 | l::L,k::K,0,_=>rfl
 | l::L,k::K,i+1,h=>by rw [show (i+1)*2=i*2+1+1 by omega];simp only [List.drop_succ_cons,cellsOf];exact QF i (by simpa using h)
 | [],k::K,_,h=>by simp at h
 | l::L,[],_,h=>by simp at h
theorem Ic: ∀(M:List Bytes),cellsOf M (List.replicate M.length false)=(List.replicate M.length [AA.int .i64 0,.bool false]).flatten
 | []=>rfl
 | l::M=>by rw [List.length_cons,List.replicate_succ,List.replicate_succ,List.flatten_cons];simp only [cellsOf];rw [Ic M];rfl
variable {lg vg lh vh lm vm : Nat} {s : Bytes} {D : List Span} {xc : AA} {sc : List AA}
abbrev RZ (e:BW):List AA:=[.int .i64 e.1,.int .i64 e.2.1,.str e.2.2]
theorem gV (h:BS Tryz.prog BV Ck) {D:List Span} {e:BW} (hp:Vm D e):RC Tryz.prog BV [pe D,.agg (RZ e)] (pe (Dt D e)):=
 h.frozen.plain (S:=[]) (K:=fun r _=>r=pe (Dt D e)) (D,e) hp rfl rfl
theorem jj (h:BS Tryz.prog Bi C1) {D:List Span} {x:Span} (h1:D1 D) (h2:FI x):RC Tryz.prog Bi [pe D,.agg [.int .i64 x.1,.int .i64 x.2]] (pe (E8 D x)):=
 h.frozen.plain (S:=[]) (K:=fun r _=>r=pe (E8 D x)) (D,x) ⟨h1,h2⟩ rfl rfl
theorem gv (h:BS Tryz.prog BK Cj) {s:Bytes} {e:BW} (he:Bz s.length e):RC Tryz.prog BK [uW s,.agg (RZ e)] (uW (AV s e)):=by
 have m:=Bb.1 he;have ok:=N0 (s:=s) (by omega);have hu:Zk e:=⟨by omega,by omega,by omega,by omega,by omega⟩
 have hq:RC Tryz.prog BK [DL (.sl tI) (Aa s),.agg (RZ e)] (DL (.sl tI) (Eg (Aa s) e)):=
  h.frozen.plain (S:=[]) (K:=fun r _=>r=DL (.sl tI) (Eg (Aa s) e)) (Aa s,e) ⟨ok,by show (Aa s).length<=_;have:=Pt ok;omega,hu⟩ rfl rfl
 rw [<-Wh he,Qg,Qg] at hq;exact hq
theorem rY (h:BS Tryz.prog BA Bs) {s:Bytes} {e:BW} (he:Bz s.length e):RC Tryz.prog BA [.str s,.agg (RZ e)] (.str (AV s e)):=
 h.plain (S:=[]) (K:=fun r _=>r= .str (AV s e)) (s,e) he rfl rfl
theorem sG (hP:BS Tryz.prog Ee GK) {s:Bytes} (hs:s.length<=600):RC Tryz.prog Ee [.str s] (.agg [.int .i64 (posOf s).1,.int .i64 (posOf s).2.1,.int .i64 (posOf s).2.2]):=
 hP.plain (S:=[]) (K:=fun r _=>r= .agg [.int .i64 (posOf s).1,.int .i64 (posOf s).2.1,.int .i64 (posOf s).2.2]) s (by show s.length<=_;omega) rfl rfl
theorem YQ (hA:BS Tryz.prog BG CD) (hSh:BS Tryz.prog BV Ck) (hWi:BS Tryz.prog Bi C1) (hL:BS Tryz.prog Bh C_) (hPo:BS Tryz.prog Ee GK) (hU:BS Tryz.prog BK Cj) (hM:BS Tryz.prog BA Bs) {K:List Bool} {m:HM} (hm:Zt lg vg lh vh lm vm s D K sc m) {e:BW}
  (he:Bz s.length e) (hD:AP s.length (-1) D) (hK:K.length=(AO s).length):
  HC Tryz.prog Bv [.ptr lg vg 0,.agg (RZ e)] m fun r m'=> ∃m1 X,Zt lg vg lh vh lm vm (AV s e) (kC s D e) (UL s K e) sc m1/\m'=m1+X:=by
 intro S mf hS;obtain ⟨at_,cut,ins⟩:=e;obtain ⟨xc,es,mt,mc,rfl,ht,hc⟩:=hm;have em:=Bb.1 he;dsimp only at em;obtain ⟨lo,hlo⟩: ∃lo,lo=L7 s at_.toNat:=⟨_,rfl⟩
 obtain ⟨hi,hhi⟩: ∃hi,hi=Kv s (at_+cut).toNat:=⟨_,rfl⟩
 obtain ⟨c1,c2,c3,c4⟩:=SZ he hlo hhi rfl hD;dsimp only at c1 c2 c3 c4;have hlo2:=YK s at_.toNat;have hhi2:=YJ (s:=s) (n:=(at_+cut).toNat) (by omega);rw [<-hlo] at hlo2;rw [<-hhi] at hhi2;refine Ih JP ?_;refine Z3 fun v3 l3 S hS=>?_;refine Z3 ?_;refine CY hS fun S hS=>?_;refine mj ?_;refine UH hA (lo:=at_) (hi:=at_+cut) ⟨by show s.length<=_;omega,by omega,by omega,by omega⟩ ?_;rw [<-hlo,<-hhi];refine xD ?_;have hS:=hS.eq (m':=(pt lg (.row vg 0 (gC lh vh s lm vm D xc sc))+(pt lm (.Cw vm es)+mt))+(pt l3 (.row v3 0 (RZ (at_,cut,ins)))+(mc+mf))) (by ac_rfl);refine HC.use (bA (f:=fU s D) (lg:=lg) (vg:=vg) (lh:=lh) (vh:=vh) (lm:=lm) (vm:=vm) (s:=s) (D:=D) (xc:=xc) (sc:=sc) (lo:=(lo:Int)) (hi:=(hi:Int)) (b:=(ins.length:Int)-cut) ht (by omega) (fun w=>⟨by show (Iz s w fun p=> ¬BT D p).length<=_;have:=VW s w fun p=> ¬BT D p;omega,fun a ha=>by have:=HJ (cd.1 ha).1;omega⟩)) hS ?_;rintro r m2 S ⟨es2,mt2,X,ht2,rfl⟩ hS;refine Z4 ?_;refine CY hS fun S hS=>?_;refine mj ?_;refine (gV hSh (e:=(at_,cut,ins)) ⟨s.length,⟨by omega,by omega,hD⟩,he⟩).use ?_;refine Z2 ?_;refine (jj hWi (x:=((lo:Int),(hi:Int)+((ins.length:Int)-cut))) c1 c2).use ?_;refine Z4 fun S hS=>?_;refine Z3 ?_;refine CY hS fun S hS=>?_;refine Z8 ?_;refine VB hL (by omega) (by omega) (by omega) ?_;refine Z9 ?_;refine CY hS fun S hS=>?_;refine TX ?_;refine VB hL (by omega) (by omega) (by omega) ?_;refine Z9 ?_;obtain ⟨p1,p2,p3⟩:=Iy ins;obtain ⟨t0,ht0⟩: ∃t0:Nat,(posOf ins).2.1=(t0:Int):=⟨(posOf ins).2.1.toNat,by omega⟩
 refine Z4 ?_;refine (sG hPo (by omega)).use ?_;rw [ht0];refine Z3 ?_;refine Ar ?_;refine lN (n:=t0+1) hS rfl rfl (by omega) fun v11 l11 S hS=>?_;refine Z5 ?_;have hAp:=(Iy (s.take at_.toNat)).2.1;have hBp:=(Iy (s.take (at_+cut).toNat)).2.1;obtain ⟨A,hA'⟩: ∃A:Nat,(A:Int)=(posOf (s.take at_.toNat)).2.1:=⟨(posOf (s.take at_.toNat)).2.1.toNat,by omega⟩
 obtain ⟨B,hB'⟩: ∃B:Nat,(B:Int)=(posOf (s.take (at_+cut).toNat)).2.1:=⟨(posOf (s.take (at_+cut).toNat)).2.1.toNat,by omega⟩
 obtain ⟨M,m1,m2,m3,m4⟩:=aN he hA' hB';dsimp only at m1;have hMl:M.length=t0+1:=by omega
 have hcl:=FD s;have hV:((List.replicate (t0+1) [AA.int .i64 0,.bool false]).flatten).length=(t0+1)*2:=by
  rw [<-hMl,<-Ic M,Io (by simp)];simp
 rw [<-hA',<-hB'];refine TX ?_;have hS:=hS.eq (m':=(mc+pt l11 (.row v11 2 (List.replicate (t0+1) [AA.int .i64 0,.bool false]).flatten))+(pt lg (.row vg 0 (gC lh vh s lm vm (E8 (Dt D (at_,cut,ins)) ((lo:Int),(hi:Int)+((ins.length:Int)-cut))) xc sc))+(pt lm (.Cw vm es2)+(mt2+X))+(pt l3 (.row v3 0 (RZ (at_,cut,ins)))+mf))) (by ac_rfl);refine HC.use (gP (i:=A) (j:=B+1) hc hV (by omega) (by omega) (by omega) (by omega) (by omega) rfl rfl) hS ?_;rintro xc2 m2 S ⟨mc2,X2,hc2,rfl⟩ hS;refine Z3 ?_;refine Ar ?_;refine JU hS rfl rfl hc2.cl rfl (by simp) fun S hS=>?_;(try dsimp only [AK,rd,Frame.get,setCells,over] at hS);refine Z4 ?_;refine CY hS fun S hS=>?_;refine Z8 ?_;refine (gv hU he).use ?_;refine Z4 fun S hS=>?_;refine Z2 ?_;refine CY hS fun S hS=>?_;refine Z8 ?_;refine (rY hM he).use ?_;refine Z4 fun S hS=>?_;refine Z3 ?_;have hKK:UL s K (at_,cut,ins)=K.take A++List.replicate M.length false++K.drop (B+1):=by
  unfold UL;dsimp only;rw [<-hA',<-hB',ht0,hMl];rfl
 have hcc:cellsOf (AO (AV s (at_,cut,ins))) (UL s K (at_,cut,ins))=(cellsOf (AO s) K).take (A*2)++(List.replicate (t0+1) [AA.int .i64 0,.bool false]).flatten++(cellsOf (AO s) K).drop ((B+1)*2):=by
  rw [hKK,m4,Jp (by simp;omega),Jp (by simp;omega),QG,QF _ hK,Ic,hMl]
 have hkl:(UL s K (at_,cut,ins)).length=A+(t0+1)+(K.length-(B+1)):=by
  rw [hKK];simp;omega
 rw [<-hcc,<-hkl] at hc2;have hov:over sc []=sc:=by cases sc<;>rfl
 have hD2:E8 (Dt D (at_,cut,ins)) ((lo:Int),(hi:Int)+((ins.length:Int)-cut))=kC s D (at_,cut,ins):=by rw [hlo,hhi];rfl
 simp only [hov] at hS;rw [hD2] at hS;refine ⟨_,⟨_,X2+(X+pt l3 (.row v3 0 (RZ (at_,cut,ins)))),⟨xc2,es2,mt2,mc2,rfl,ht2.congr (funext fun w=>?_),hc2⟩,rfl⟩,hS.eq (by ac_rfl)⟩;rw [fF he hlo hhi rfl (BT D) w];refine Pk fun p _=>?_;rw [<-c3 p];show _↔ ¬BT (E8 _ _) p;rw [hlo,hhi]
end Go.Proofs.YtlibocgedgdmlaaGreat.E
end
section
set_option maxRecDepth 100000
namespace Go.Proofs.YtlibocgedgdmlaaGreat.H
open Go.Vc Go.Fu
def RZ (e:BW):List AA:=[.int .i64 e.1,.int .i64 e.2.1,.str e.2.2]
def FM (l:List BW):List AA:=l.flatMap RZ
theorem PY (l:List BW) (e:BW):FM l++RZ e=FM (l++[e]):=by simp [FM]
def Mz:List Eo->List AA->HM->Prop
 | [],cs,m=>cs=[]/\m=HM.nil
 | g::gs,cs,m=> ∃x y cs' m1 m2 m3,cs=x::y::cs'/\m=m1+m2+m3/\EP 3 x (FM g.1) g.1.length m1/\EP 3 y (FM g.2) g.2.length m2/\Mz gs cs' m3
theorem Mz.YR: ∀ {gs:List Eo} {cs:List AA} {m:HM},Mz gs cs m->cs.length=gs.length*2
 | [],cs,m,h=>by rw [h.1];rfl
 | g::gs,cs,m,⟨x,y,cs',m1,m2,m3,h1,_,_,_,h⟩=>by rw [h1];have:=Mz.YR h;simp;omega
theorem Mz.app: ∀ {gs gs':List Eo} {cs cs':List AA} {m m':HM},Mz gs cs m->Mz gs' cs' m'->Mz (gs++gs') (cs++cs') (m+m')
 | [],gs',cs,cs',m,m',h,h'=>by rw [h.1,h.2,HM.nil_add];exact h'
 | g::gs,gs',cs,cs',m,m',⟨x,y,c,m1,m2,m3,h1,h2,h3,h4,h⟩,h'=>by
  refine ⟨x,y,c++cs',m1,m2,m3+m',by rw [h1];rfl,by rw [h2];ac_rfl,h3,h4,Mz.app h h'⟩
theorem Mz.split: ∀ {gs gs':List Eo} {cs:List AA} {m:HM},Mz (gs++gs') cs m-> ∃c c' m1 m2,cs=c++c'/\m=m1+m2/\Mz gs c m1/\Mz gs' c' m2
 | [],gs',cs,m,h=>⟨[],cs,HM.nil,m,rfl,(HM.nil_add _).symm,⟨rfl,rfl⟩,h⟩
 | g::gs,gs',cs,m,⟨x,y,c,m1,m2,m3,h1,h2,h3,h4,h⟩=>by
  obtain ⟨c1,c2,n1,n2,e1,e2,k1,k2⟩:=Mz.split h;exact ⟨x::y::c1,c2,m1+m2+n1,n2,by rw [h1,e1];rfl,by rw [h2,e2];ac_rfl,⟨x,y,c1,m1,m2,n1,rfl,rfl,h3,h4,k1⟩,k2⟩
theorem Mz.one {g:Eo} {cs:List AA} {m:HM}:Mz [g] cs m↔ ∃x y m1 m2,cs=[x,y]/\m=m1+m2/\EP 3 x (FM g.1) g.1.length m1/\EP 3 y (FM g.2) g.2.length m2:=by
 constructor
 ·rintro ⟨x,y,c,m1,m2,m3,h1,h2,h3,h4,h5,h6⟩;exact ⟨x,y,m1,m2,by rw [h1,h5],by rw [h2,h6,HM.add_nil],h3,h4⟩
 ·rintro ⟨x,y,m1,m2,h1,h2,h3,h4⟩;exact ⟨x,y,[],m1,m2,HM.nil,h1,by rw [h2,HM.add_nil],h3,h4,rfl,rfl⟩
def Jg (h:CJ) (lh vh:Nat) (m:HM):Prop:=
 ∃xu xr cu cr mu gu mr gr,m=pt lh (.row vh 0 [.str h.text,xu,xr,.bool h.P0])+(mu+(gu+(mr+gr)))/\EP 2 xu cu h.BD.length mu/\Mz h.BD cu gu/\EP 2 xr cr h.Dc.length mr/\Mz h.Dc cr gr
theorem X6 {A B:List AA} {x:AA} {n:Nat} (h:A.length=n):takeN 1 ((A++x::B).drop n)=some [x]:=by subst h;simp [takeN]
theorem MZ: ∀ {A B:List AA} {x z:AA} {n:Nat},A.length=n->setCells (A++x::B) n [z]=A++z::B
 | [],B,x,z,n,h=>by subst h;cases B<;>rfl
 | a::A,B,x,z,n,h=>by subst h;show a::setCells (A++x::B) A.length [z]=_;rw [MZ rfl];rfl
theorem th (hC:BS Tryz.prog Ba CF) {size:Int} {e:BW} {S:AB} {K:AA->AB->Prop} (hs:AH size/\Ec e) (h:K (.int .i64 (BO size e)) S):AU Tryz.prog Ba [.int .i64 size,.agg [.int .i64 e.1,.int .i64 e.2.1,.str e.2.2]] S K:=hC.plain (size,e) hs rfl h
theorem br (hC:BS Tryz.prog BA Bs) {s:Bytes} {e:BW} {S:AB} {K:AA->AB->Prop} (hs:Bz s.length e) (h:K (.str (AV s e)) S):AU Tryz.prog BA [.str s,.agg [.int .i64 e.1,.int .i64 e.2.1,.str e.2.2]] S K:=hC.plain (s,e) hs rfl h
theorem p_ (hC:BS Tryz.prog Br Cf) {s:Bytes} {e:BW} {S:AB} {K:AA->AB->Prop} (hs:Bz s.length e) (h:K (.agg [.int .i64 (Bt s e).1,.int .i64 (Bt s e).2.1,.str (Bt s e).2.2]) S):AU Tryz.prog Br [.str s,.agg [.int .i64 e.1,.int .i64 e.2.1,.str e.2.2]] S K:=hC.plain (s,e) hs rfl h
theorem cY {lh vh c p v off n:Nat} {cs cu:List AA} {x1 x2:AA} (h1:takeN 1 (cs.drop c)=some [.sl p v off (n+1)]) (hx:takeN 2 (cu.drop (off+n*2))=some [x1,x2]) (hc:c+1<=cs.length) (hn:n<1000000):
  HC Tryz.prog Fv [.ptr lh vh c] (pt lh (.row vh 0 cs)+pt p (.row v 2 cu)) fun r m'=>r= .DG [.agg [x1,x2],.bool true]/\m'=pt lh (.row vh 0 (setCells cs c [.sl p v off n]))+pt p (.row v 2 cu):=by
 intro S mf hS;refine Ih Sr ?_;refine Z3 fun v2 l2 S hS=>?_;refine mQ ?_;rw [show ((n+1:Nat):Int)-1=(n:Int) by omega];refine Z8 ?_;refine Be rfl (fun hc=>?_) (fun hc=>?_)
 ·omega
 refine TX fun v5 l5 S hS=>?_;refine Z1 fun S hS=>?_;refine Z9 ?_;refine Ar (jF hS rfl rfl ⟨_,rfl⟩ rfl (by omega) (by omega) (Dn ?_));dsimp only [AK,rd,Frame.get];simp only [Nat.zero_mul,Nat.mul_zero,Nat.mul_one,Nat.add_zero,Nat.zero_add,Nat.sub_zero,Nat.reduceAdd,Nat.reduceMul];refine Z2 fun S hS=>?_;refine Z6 fun S hS=>?_;refine Z8 ?_;exact ⟨_,⟨rfl,rfl⟩,hS.right.right⟩
theorem cX {lh vh c:Nat} {cs:List AA} {x:AA} (h1:takeN 1 (cs.drop c)=some [x]) (hx:bg false x=some 0):
  HC Tryz.prog Fv [.ptr lh vh c] (pt lh (.row vh 0 cs)) fun r m'=>r= .DG [.agg [.AM,.AM],.bool false]/\m'=pt lh (.row vh 0 cs):=by
 intro S mf hS;refine Ih Sr ?_;refine Z3 fun v2 l2 S hS=>?_;refine Z8 ?_;refine Ar ?_;refine Qt hx ?_;refine mQ ?_;refine Be rfl (fun hc=>?_) (fun hc=>?_)
 ·refine Z4 fun S hS=>?_;refine Z9 ?_;exact ⟨_,⟨rfl,rfl⟩,hS.right⟩
 ·omega
theorem gh {A B:List AA} {w x:AA} {n:Nat} (h:A.length=n):takeN 1 ((A++w::x::B).drop (n+1))=some [x]:=by
 have:=X6 (A:=A++[w]) (B:=B) (x:=x) (n:=n+1) (by simp [h]);simpa using this
theorem We {A B:List AA} {w x z:AA} {n:Nat} (h:A.length=n):setCells (A++w::x::B) (n+1) [z]=A++w::z::B:=by
 have:=MZ (A:=A++[w]) (B:=B) (x:=x) (z:=z) (n:=n+1) (by simp [h]);simpa using this
theorem ph {A B:List AA} {x y:AA} {off a:Nat} (h:A.length=off+a):BL (A++x::y::B) off (a+2)=A.drop off++[x,y]:=by
 unfold BL;rw [List.drop_append_of_le_length (by omega)];have e:(A.drop off).length=a:=by rw [List.length_drop];omega
 rw [List.take_append,e,show a+2-a=2 by omega,List.take_of_length_le (by omega)];rfl
theorem TH {cs c1:List AA} {x y:AA} {off a:Nat} (hle:off+(a+2)<=cs.length) (h:c1++[x,y]=BL cs off (a+2)) (hc:c1.length=a): ∃A B,cs=A++x::y::B/\A.length=off+a/\c1=A.drop off:=by
 have e:cs=cs.take off++(BL cs off (a+2)++cs.drop (off+(a+2))):=by
  unfold BL
  conv=>lhs;rw [<-List.take_append_drop off cs,<-List.take_append_drop (a+2) (cs.drop off),List.drop_drop]
 refine ⟨cs.take off++c1,cs.drop (off+(a+2)),?_,?_,?_⟩
 ·rw [<-h] at e
  conv=>lhs;rw [e]
  simp
 ·rw [List.length_append,List.length_take,hc];omega
 ·rw [List.drop_append_of_le_length (by rw [List.length_take];omega),List.drop_of_length_le (by rw [List.length_take];omega)];rfl
theorem nr {k:Nat} {h:CJ} (i:Gd k h):Ey h≠[]:=by
 unfold Ey;split
 ·rename_i c;exact i.P0 c
 ·unfold IW;split
  ·rename_i c;intro e;have:=congrArg List.length e;rw [List.length_drop] at this;simp only [List.length_append,List.length_singleton,List.length_nil] at this c;omega
  ·simp
theorem kX {k:Nat} {h:CJ} (i:Gd k h):(Ey h).length<=21:=by
 have:=i.all;unfold Ey;split
 ·omega
 ·unfold IW;split
  ·simp;omega
  ·simp;omega
theorem kW {k:Nat} {h:CJ} (i:Gd k h): ∀g∈Ey h,g.1.length<=k/\g.2.length<=k:=fun g hg=>by
 unfold Ey at hg;split at hg
 ·exact i.mT g (List.mem_append_left _ hg)
 ·have:g∈h.BD++[([],[])]:=by
   unfold IW at hg;split at hg
   ·exact List.mem_of_mem_drop hg
   ·exact hg
  simp at this;rcases this with this | rfl
  ·exact i.mT g (List.mem_append_left _ this)
  ·simp
theorem lB (hCk:BS Tryz.prog Ba CF) (hMd:BS Tryz.prog BA Bs) (hUn:BS Tryz.prog Br Cf) {h:CJ} {lh vh k:Nat} {m:HM} {x:BW} (hm:Jg h lh vh m) (i:Gd k h) (hk:k<=1000) (hx:Ec x):
  HC Tryz.prog Cg [.ptr lh vh 0,.agg [.int .i64 x.1,.int .i64 x.2.1,.str x.2.2]] m fun r m'=>r= .int .i64 (C5 h (1,x)).2/\Jg (C5 h (1,x)).1 lh vh m':=by
 intro S mf hS;have il:=i.len;have ia:=i.all;obtain ⟨xu,xr,cu,cr,mu,gu,mr,gr,rfl,su,qu,sr,qr⟩:=hm;refine Ih LJ ?_;refine Z3 fun v3 l3 S hS=>?_;refine Z5 ?_;refine CY hS fun S hS=>?_;refine Z8 ?_;refine th hCk (size:=h.text.length) (e:=x) ⟨by unfold AH;omega,hx⟩ ?_;refine SV ?_;refine YP rfl (fun hc=>?_) (fun hc=>?_)
 ·refine TX ?_;have e:C5 h (1,x)=(h,BO h.text.length x):=by unfold C5;rw [if_pos rfl,if_pos hc]
  rw [e];exact ⟨_,⟨rfl,xu,xr,cu,cr,mu,gu,mr,gr,rfl,su,qu,sr,qr⟩,hS.right⟩
 have hmay:Bz h.text.length x:=hc;have hde:C5 h (1,x)=(E9 h x,0):=by unfold C5;rw [if_pos rfl,if_neg (by simpa using hc)]
 rw [hde];refine Z2 ?_;refine He fun K hK=>?_;have rest: ∀(xu:AA) (cu:List AA) (mu gu:HM) (S:AB),EP 2 xu cu (Ey h).length mu->Mz (Ey h) cu gu->
   Has S (pt l3 (.row v3 0 [.int .i64 x.1,.int .i64 x.2.1,.str x.2.2])+(pt lh (.row vh 0 [.str h.text,xu,xr,.bool true])+(mu+(gu+(mr+gr)))+mf))->K [] S:=by
  intro xu cu mu gu S su qu hS;refine hK _ _ rfl ?_;obtain ⟨us,g,hug⟩: ∃us g,Ey h=us++[g]:=⟨_,_,EH (nr i)⟩
  have hL:(us++[g]).length=us.length+1:=by simp
  have hL2:=kX i;have hG:=kW i g (by rw [hug];simp);rw [hug] at su qu hL2;obtain ⟨c1,c2,n1,n2,rfl,rfl,q1,q2⟩:=Mz.split qu;obtain ⟨xd,xb,md,mb,rfl,rfl,sd,sb⟩:=Mz.one.1 q2;obtain ⟨p,vu,off,cs,rfl,rfl,hle,hcs⟩:=su.pos (by omega);rw [show (us++[g]).length*2=us.length*2+2 by omega] at hle hcs;obtain ⟨A,B,rfl,hA,rfl⟩:=TH hle hcs q1.YR;clear hle hcs su qu q2;dsimp only [Ei,List.map,Frame.get];refine Z1 ?_;refine CY hS fun S hS=>?_;refine TX ?_;refine Ar ?_;rw [show (((us++[g]).length:Nat):Int)-1=(us.length:Int) by omega];refine ZI hS rfl rfl rfl (by omega) ?_;refine Z3 ?_;rw [<-hA];refine Z2 ?_;have ht1:takeN 1 (List.drop A.length (A++xd::xb::B))=some [xd]:=X6 rfl;refine CY hS fun S hS=>?_;refine Z8 ?_;refine Ar ?_;refine GJ hS rfl sd (Dx.one rfl) rfl (by omega) fun xd' md' S sd' hS=>?_;refine Z3 ?_;refine Ar ?_;refine JU hS rfl rfl sd'.cl rfl (by simp only [List.length_append,List.length_cons];omega) fun S hS=>?_;(try dsimp only [AK,rd,Frame.get] at hS);rw [MZ rfl] at hS;refine Z4 ?_;refine CY hS fun S hS=>?_;refine Z4 ?_;refine nI (pL rfl ?_);refine MP hS rfl rfl (gh rfl) rfl ?_;refine Z6 ?_;refine nI (pK _ (p_ hUn (s:=h.text) (e:=x) hmay ⟨rfl,rfl⟩) ?_);refine Z3 ?_;refine Ar ?_;refine GJ hS rfl sb (Dx.one rfl) rfl (by omega) fun xb' mb' S sb' hS=>?_;refine Z3 ?_;refine Ar ?_;refine JU hS rfl rfl sb'.cl rfl (by simp only [List.length_append,List.length_cons];omega) fun S hS=>?_;(try dsimp only [AK,rd,Frame.get] at hS);rw [We rfl] at hS;refine Z4 ?_;refine CY hS fun S hS=>?_;refine Z8 ?_;refine br hMd (s:=h.text) (e:=x) hmay ?_;refine Z4 fun S hS=>?_;refine Z8 fun S hS=>?_;refine TX ?_;have e:(E9 h x).BD=us++[(g.1++[x],g.2++[Bt h.text x])]:=by simp only [E9,hug,Ia,MH,List.dropLast_concat]
  have eL:(E9 h x).BD.length=(us++[g]).length:=by rw [e];simp
  refine ⟨pt lh (.row vh 0 [.str (AV h.text x),.sl p vu off (us++[g]).length,.AM,.bool true])+(pt p (.row vu 2 (A++xd'::xb'::B))+((n1+(md'+mb'))+(HM.nil+HM.nil))),⟨rfl,.sl p vu off (us++[g]).length,.AM,A.drop off++[xd',xb'],[],pt p (.row vu 2 (A++xd'::xb'::B)),n1+(md'+mb'),HM.nil,HM.nil,rfl,?_,?_,EP.nil,rfl,rfl⟩,(hS.right.eq (m':=_+(mr+gr)) ?_).left⟩
  ·rw [eL];refine .inr ⟨p,vu,off,_,rfl,rfl,?_,?_⟩
   ·simp only [List.length_append,List.length_cons,List.length_nil];omega
   ·rw [show (us++[g]).length*2=us.length*2+2 by omega];exact (ph hA).symm
  ·rw [e];refine Mz.app q1 (Mz.one.2 ⟨xd',xb',md',mb',rfl,rfl,?_,?_⟩)
   ·have:=sd';rw [show FM g.1++[.int .i64 x.1,.int .i64 x.2.1,.str x.2.2]=FM (g.1++[x]) from PY _ _] at this;simpa using this
   ·have:=sb';rw [show FM g.2++[.int .i64 (Bt h.text x).1,.int .i64 (Bt h.text x).2.1,.str (Bt h.text x).2.2]=FM (g.2++[Bt h.text x]) from PY _ _] at this;simpa using this
  ·ac_rfl
 refine Z9 ?_;refine Ce rfl (fun hb=>?_) (fun hb=>?_)
 ·have ho:h.P0=false:=by simpa using hb
  have hoe:Ey h=IW (h.BD++[([],[])]):=by unfold Ey;rw [ho,if_neg (by simp)]
  refine Z9 ?_;refine Ar ?_;refine GJ hS rfl su (Dx.one rfl) rfl (by omega) fun xu' mu' S su' hS=>?_;refine Z3 ?_;refine Ar ?_;refine JU hS rfl rfl su'.cl rfl (by simp) fun S hS=>?_;(try dsimp only [AK,rd,Frame.get,setCells,over] at hS);refine Z3 ?_;refine He fun K2 hK2=>?_;have rest2: ∀(xu:AA) (cu:List AA) (mu gu:HM) (S:AB),EP 2 xu cu (Ey h).length mu->Mz (Ey h) cu gu->
    Has S (pt l3 (.row v3 0 [.int .i64 x.1,.int .i64 x.2.1,.str x.2.2])+(pt lh (.row vh 0 [.str h.text,xu,xr,.bool h.P0])+(mu+(gu+(mr+gr)))+mf))->K2 [] S:=by
   intro xu cu mu gu S su qu hS;refine hK2 _ _ rfl ?_;dsimp only [Ei,List.map,Frame.get];refine Z5 fun S hS=>?_;refine Z2 ?_;exact rest _ _ _ _ _ su qu hS
  have qu':Mz (h.BD++[([],[])]) (cu++[.AM,.AM]) (gu+HM.nil):=Mz.app qu (Mz.one.2 ⟨.AM,.AM,HM.nil,HM.nil,rfl,(HM.nil_add _).symm,EP.nil,EP.nil⟩);rw [HM.add_nil] at qu';have hU:(h.BD++[(([],[]):Eo)]).length=h.BD.length+1:=by simp
  refine Z6 ?_;refine Ar ?_;refine Qt su'.len ?_;refine Z4 ?_;refine Be rfl (fun hg=>?_) (fun hg=>?_)
  ·have ht:Ey h=(h.BD++[([],[])]).drop 1:=by rw [hoe];unfold IW;rw [if_pos (by omega)]
   obtain ⟨p,vu,off,cs,rfl,rfl,hle,hcs⟩:=su'.pos (by omega);refine Z6 ?_;refine Ar (jF hS rfl rfl rfl ⟨_,(rfl:_=AA.int .i64 ((1:Nat):Int))⟩ (by omega) (by omega) (Dn ?_));dsimp only [AK,rd,Frame.get];simp only [Nat.zero_mul,Nat.mul_zero,Nat.mul_one,Nat.add_zero,Nat.zero_add,Nat.sub_zero,Nat.reduceAdd,Nat.reduceMul];refine Z3 fun S hS=>?_;refine Z2 ?_;have su2:=su'.tail (j:=1) (by omega);rw [<-List.take_append_drop 1 (h.BD++[([],[])])] at qu';obtain ⟨c1,c2,n1,n2,e1,rfl,q1,q2⟩:=Mz.split qu';have hc1:c1.length=2:=by rw [q1.YR,List.length_take];omega
   have hc2:(cu++[AA.AM,.AM]).drop (1*2)=c2:=by rw [e1,List.drop_append_of_le_length (by omega),List.drop_of_length_le (by omega)];rfl
   have hl2:h.BD.length+1-1=(Ey h).length:=by rw [ht,List.length_drop];omega
   rw [hc2,hl2] at su2;rw [<-ht] at q2;have hl3:h.BD.length+1-1=(Ey h).length:=hl2;rw [hl3] at hS;exact rest2 _ _ _ _ _ su2 q2 ((hS.eq (m':=_+n1) (by ac_rfl)).left)
  ·have ht:Ey h=h.BD++[([],[])]:=by rw [hoe];unfold IW;rw [if_neg (by omega)]
   refine Z2 ?_;refine rest2 xu' (cu++[.AM,.AM]) mu' gu _ ?_ ?_ hS
   ·rw [ht,hU];exact su'
   ·rw [ht];exact qu'
 ·have ho:h.P0=true:=by simpa using hb
  have hoe:Ey h=h.BD:=by unfold Ey;rw [if_pos ho]
  refine Z2 ?_;refine rest xu cu mu gu _ ?_ ?_ ?_
  ·rw [hoe];exact su
  ·rw [hoe];exact qu
  ·rw [ho] at hS;exact hS
theorem UX: ∀ {es:List BW} {j:Nat} {e:BW},es[j]?=some e->((FM es).drop (j*3)).take 3=[.int .i64 e.1,.int .i64 e.2.1,.str e.2.2]
 | [],j,e,h=>by simp at h
 | a::es,0,e,h=>by simp at h;subst h;rfl
 | a::es,j+1,e,h=>by
  have:=UX (es:=es) (j:=j) (e:=e) (by simpa using h);rw [show (j+1)*3=j*3+3 by omega,show FM (a::es)=[.int .i64 a.1,.int .i64 a.2.1,.str a.2.2]++FM es from rfl,List.drop_append];simpa using this
theorem ft {t:Bytes} {es:List BW} (h:Cl t.length es=0) {j:Nat} {e:BW} (hj:es[j]?=some e):Bz (AY t (es.take j)).length e/\AY t (es.take (j+1))=AV (AY t (es.take j)) e:=by
 have hlt:=(List.getElem?_eq_some_iff.1 hj).1;have e1:es.take (j+1)=es.take j++[e]:=by rw [List.take_add_one,hj];rfl
 refine ⟨?_,by rw [e1,Ky]⟩;rw [<-List.take_append_drop (j+1) es,e1] at h;have: ∀(l l':List BW) (s:Bytes),Cl s.length (l++l')=0->Cl s.length l=0:=by
  intro l
  induction l with
  | nil=>intro l' s _;rfl
  | cons a l ih=>
   intro l' s h;obtain ⟨h1,h2⟩:=CE.1 h;rw [CE];rw [<-CN h1] at h2 |-;exact ⟨h1,ih l' _ h2⟩
 exact (Ig.1 (this _ _ _ h)).2
theorem SY (hMd:BS Tryz.prog BA Bs) {lh vh:Nat} {t:Bytes} {a b c x:AA} {es:List BW} {ml:HM} (hs:EP 3 x (FM es) es.length ml) (hc:Cl t.length es=0) (hl:es.length<=1000):
  HC Tryz.prog Bl [.ptr lh vh 0,x] (pt lh (.row vh 0 [.str t,a,b,c])+ml) fun r m'=>r=x/\m'=pt lh (.row vh 0 [.str (AY t es),a,b,.bool false])+ml:=by
 intro S mf hS;refine Ih KR ?_;refine Z9 ?_;refine Ar ?_;refine Qt hs.len ?_;refine Z5 ?_;refine GU (fun n xs S=> ∃j:Nat,xs=[.int .i64 (j:Int)]/\j<=es.length/\n=es.length-j/\Has S (pt lh (.row vh 0 [.str (AY t (es.take j)),a,b,c])+ml+mf)) es.length ⟨0,rfl,Nat.zero_le _,rfl,hS⟩ ?_;clear hS;rintro n xs S hl' ⟨j,rfl,hj,rfl,hS⟩;dsimp only [Ei,List.map,Frame.get];refine Z6 ?_;refine Be rfl (fun hlt=>?_) (fun hlt=>?_)
 ·obtain ⟨e,he⟩: ∃e,es[j]?=some e:=⟨_,List.getElem?_eq_getElem (by omega)⟩
  obtain ⟨hmay,hnext⟩:=ft hc he;obtain ⟨p,v,off,cs,rfl,rfl,hle,hcs⟩:=hs.pos (by omega);have ht:takeN 3 (List.drop (off+j*3) cs)=some [.int .i64 e.1,.int .i64 e.2.1,.str e.2.2]:=by
   rw [KF hle (show j<es.length by omega),<-hcs,UX he]
  refine Z9 fun v6 l6 S hS=>?_;refine Z1 fun S hS=>?_;refine Z2 ?_;refine CY hS fun S hS=>?_;refine Z8 ?_;refine br hMd (s:=AY t (es.take j)) (e:=e) hmay ?_;refine Z4 fun S hS=>?_;refine Z8 ?_;rw [<-hnext] at hS;exact ⟨es.length-(j+1),by omega,j+1,rfl,by omega,rfl,hS.right⟩
 ·obtain rfl:j=es.length:=by omega
  rw [List.take_of_length_le (Nat.le_refl _)] at hS;refine TX fun S hS=>?_;refine mQ ?_;exact ⟨_,⟨rfl,rfl⟩,hS⟩
end Go.Proofs.YtlibocgedgdmlaaGreat.H
end
section
set_option maxRecDepth 100000
namespace Go.Proofs.YtlibocgedgdmlaaGreat.H
open Go.Vc Go.Fu
def P1 (h:CJ) (d:EM) (lh vh:Nat) (r:AA) (m':HM):Prop:=
 ∃y a R mh X,r= .DG [y,.int .i64 (C5 h d).2]/\EP 3 y (FM (Dh h d)) (Dh h d).length a/\m'=a+R/\m'=mh+X/\Jg (C5 h d).1 lh vh mh
theorem P1.of {h h':CJ} {d:EM} {c:Int} {es:List BW} {lh vh:Nat} {y:AA} {a R mh X m':HM} (e:C5 h d=(h',c)) (e2:Dh h d=es) (s:EP 3 y (FM es) es.length a) (h1:m'=a+R) (h2:m'=mh+X) (hm:Jg h' lh vh mh):P1 h d lh vh (.DG [y,.int .i64 c]) m':=
 ⟨y,a,R,mh,X,by rw [e],by rw [e2];exact s,h1,h2,by rw [e];exact hm⟩
theorem nO {h:CJ} {x:BW} (hf:BO h.text.length x≠0):C5 h (1,x)=(h,BO h.text.length x)/\Dh h (1,x)=[]:=by
 constructor
 ·unfold C5;rw [if_pos rfl,if_pos hf]
 ·unfold Dh;rw [if_pos rfl,if_pos hf]
theorem iJ {h:CJ} {x:BW} (hf:BO h.text.length x=0):C5 h (1,x)=(E9 h x,0)/\Dh h (1,x)=[x]:=by
 constructor
 ·unfold C5;rw [if_pos rfl,if_neg (by simpa using hf)]
 ·unfold Dh;rw [if_pos rfl,if_neg (by simpa using hf)]
theorem nP {h:CJ} {x:BW} (hu:h.BD=[]):C5 h (3,x)=(h,7)/\Dh h (3,x)=[]:=by
 constructor
 ·unfold C5;rw [if_neg (by simp),if_neg (by simp),if_pos rfl,if_pos hu]
 ·unfold Dh;rw [if_neg (by simp),if_pos rfl,if_pos hu]
theorem iL {h:CJ} {x:BW} (hu:h.BD≠[]):C5 h (3,x)=(Uo h,0)/\Dh h (3,x)=(Bj h.BD).2.reverse:=by
 constructor
 ·unfold C5;rw [if_neg (by simp),if_neg (by simp),if_pos rfl,if_neg hu]
 ·unfold Dh;rw [if_neg (by simp),if_pos rfl,if_neg hu]
theorem nQ {h:CJ} {x:BW} (hu:h.Dc=[]):C5 h (4,x)=(h,7)/\Dh h (4,x)=[]:=by
 constructor
 ·unfold C5;rw [if_neg (by simp),if_neg (by simp),if_neg (by simp),if_pos rfl,if_pos hu]
 ·unfold Dh;rw [if_neg (by simp),if_neg (by simp),if_pos rfl,if_pos hu]
theorem iM {h:CJ} {x:BW} (hu:h.Dc≠[]):C5 h (4,x)=(Sm h,0)/\Dh h (4,x)=(Bj h.Dc).1:=by
 constructor
 ·unfold C5;rw [if_neg (by simp),if_neg (by simp),if_neg (by simp),if_pos rfl,if_neg hu]
 ·unfold Dh;rw [if_neg (by simp),if_neg (by simp),if_pos rfl,if_neg hu]
theorem nR {h:CJ} {x:BW} {k:Int} (h1: ¬k=1) (h2: ¬k=2) (h3: ¬k=3) (h4: ¬k=4):C5 h (k,x)=(h,3)/\Dh h (k,x)=[]:=by
 constructor
 ·unfold C5;rw [if_neg h1,if_neg h2,if_neg h3,if_neg h4]
 ·unfold Dh;rw [if_neg h1,if_neg h3,if_neg h4]
theorem bc {l:List Eo} (hne:l≠[]) {x:AA} {c:List AA} {m g:HM} (s:EP 2 x c l.length m) (q:Mz l c g):
  ∃p v off A B xd xb n1 md mb,x= .sl p v off (l.dropLast.length+1)/\m=pt p (.row v 2 (A++xd::xb::B))/\A.length=off+l.dropLast.length*2/\g=n1+(md+mb)/\Mz l.dropLast (A.drop off) n1/\
   EP 3 xd (FM (Bj l).1) (Bj l).1.length md/\EP 3 xb (FM (Bj l).2) (Bj l).2.length mb:=by
 have e:=EH hne;generalize l.dropLast=us at*;generalize Bj l=g0 at*;subst e;have hL:(us++[g0]).length=us.length+1:=by simp
 obtain ⟨c1,c2,n1,n2,rfl,rfl,q1,q2⟩:=Mz.split q;obtain ⟨xd,xb,md,mb,rfl,rfl,sd,sb⟩:=Mz.one.1 q2;obtain ⟨p,v,off,cs,rfl,rfl,hle,hcs⟩:=s.pos (by omega);rw [hL] at hle hcs |-;rw [show (us.length+1)*2=us.length*2+2 by omega] at hle hcs;obtain ⟨A,B,rfl,hA,rfl⟩:=TH hle hcs q1.YR;exact ⟨p,v,off,A,B,xd,xb,n1,md,mb,rfl,rfl,hA,rfl,q1,sd,sb⟩
theorem XI {p v off n:Nat} {A B:List AA} (hA:A.length=off+n*2):EP 2 (.sl p v off n) (A.drop off) n (pt p (.row v 2 (A++B))):=by
 refine .inr ⟨p,v,off,_,rfl,rfl,by rw [List.length_append];omega,?_⟩;unfold BL;rw [List.drop_append_of_le_length (by omega),List.take_append_of_le_length (by rw [List.length_drop];omega),List.take_of_length_le (by rw [List.length_drop];omega)]
theorem X5 {A B:List AA} {x y:AA} {n:Nat} (h:A.length=n):takeN 2 ((A++x::y::B).drop n)=some [x,y]:=by subst h;simp [takeN]
theorem RW (hCk:BS Tryz.prog Ba CF) (hMd:BS Tryz.prog BA Bs) (hUn:BS Tryz.prog Br Cf) {h:CJ} {lh vh k:Nat} {m:HM} {d:EM} (hm:Jg h lh vh m) (i:Gd k h) (hk:k<=1000) (hx:Ec d.2):
  HC Tryz.prog CA [.ptr lh vh 0,.agg [.int .i64 d.1,.int .i64 d.2.1,.int .i64 d.2.2.1,.str d.2.2.2]] m (P1 h d lh vh):=by
 obtain ⟨kd,x⟩:=d;intro S mf hS;have il:=i.len;have ia:=i.all;refine Ih LI ?_;refine Z3 fun v3 l3 S hS=>?_;refine xA ?_;refine Be rfl (fun h1=>?_) (fun h1=>?_)
 ·subst h1;refine Z7 ?_;refine HC.use (lB hCk hMd hUn hm i hk hx) hS ?_;rintro r m' S ⟨rfl,hm'⟩ hS;refine SV ?_;refine YP rfl (fun hc=>?_) (fun hc=>?_)
  ·refine qS ?_;by_cases hf:BO h.text.length x=0
   ·rw [(iJ hf).1] at hc;exact absurd rfl hc
   ·refine ⟨m',⟨.AM,HM.nil,m',m',HM.nil,rfl,?_,(HM.nil_add _).symm,(HM.add_nil _).symm,hm'⟩,hS.right⟩;rw [(nO hf).2];exact EP.nil
  ·refine Z7 fun v26 l26 S hS=>?_;refine TX ?_;have hf:BO h.text.length x=0:=by
    apply Classical.byContradiction;intro hf;rw [(nO hf).1] at hc;exact hf hc
   refine ⟨pt l26 (.row v26 3 [.int .i64 x.1,.int .i64 x.2.1,.str x.2.2])+m',⟨.sl l26 v26 0 1,pt l26 (.row v26 3 [.int .i64 x.1,.int .i64 x.2.1,.str x.2.2]),m',m',pt l26 (.row v26 3 [.int .i64 x.1,.int .i64 x.2.1,.str x.2.2]),by rw [hc],?_,rfl,by ac_rfl,hm'⟩,hS.vp.eq (by ac_rfl)⟩;rw [(iJ hf).2];exact EP.whole rfl
 obtain ⟨xu,xr,cu,cr,mu,gu,mr,gr,rfl,su,qu,sr,qr⟩:=hm;refine Z6 ?_;refine Be rfl (fun h2=>?_) (fun h2=>?_)
 ·subst h2;refine Z6 fun S hS=>?_;refine qS ?_;exact ⟨_,⟨.AM,HM.nil,_,_,HM.nil,rfl,EP.nil,(HM.nil_add _).symm,(HM.add_nil _).symm,xu,xr,cu,cr,mu,gu,mr,gr,rfl,su,qu,sr,qr⟩,hS.right⟩
 refine Z6 ?_;refine Be rfl (fun h3=>?_) (fun h3=>?_)
 ·subst h3;by_cases hu:h.BD=[]
  ·have hz:bg false xu=some 0:=by have:=su.len;rw [hu] at this;exact this
   refine Z6 ?_;refine HC.use (cX (c:=1) (cs:=[.str h.text,xu,xr,.bool h.P0]) rfl hz) hS ?_;rintro r m' S ⟨rfl,rfl⟩ hS;refine Z5 fun v7 l7 S hS=>?_;refine Z1 fun S hS=>?_;refine SV ?_;refine Ce rfl (fun _=>?_) (fun hb=>by cases hb);refine mR ?_;exact ⟨_,P1.of (nP hu).1 (nP hu).2 EP.nil (HM.nil_add _).symm (HM.add_nil _).symm ⟨xu,xr,cu,cr,mu,gu,mr,gr,rfl,su,qu,sr,qr⟩,hS.right.right⟩
  ·obtain ⟨p,vu,off,A,B,xd,xb,n1,md,mb,rfl,rfl,hA,rfl,q1,sd,sb⟩:=bc hu su qu;have hus:h.BD.dropLast.length<=20:=by rw [List.length_dropLast];omega
   have e3:h.BD.reverse=Bj h.BD::h.BD.dropLast.reverse:=by
    conv=>lhs;rw [EH hu]
    simp
   have hp:=i.cN;rw [e3] at hp;have hG:=i.mT (Bj h.BD) (List.mem_append_left _ (LU hu));have hx2:takeN 2 ((A++xd::xb::B).drop (off+h.BD.dropLast.length*2))=some [xd,xb]:=X5 hA;have hU:=(iL (x:=x) hu).2;have hU1:=(iL (x:=x) hu).1;generalize hus':h.BD.dropLast=us at*;generalize hg':Bj h.BD=g at*;refine Z6 ?_;refine HC.use (cY (c:=1) (n:=us.length) (cs:=[.str h.text,.sl p vu off (us.length+1),xr,.bool h.P0]) rfl hx2 (by simp) (by omega)) (hS.eq (m':=pt l3 (.row v3 0 [.int .i64 3,.int .i64 x.1,.int .i64 x.2.1,.str x.2.2])+((pt lh (.row vh 0 [.str h.text,.sl p vu off (us.length+1),xr,.bool h.P0])+pt p (.row vu 2 (A++xd::xb::B)))+(n1+(md+mb)+(mr+gr))+mf)) (by ac_rfl)) ?_;rintro r m' S ⟨rfl,rfl⟩ hS;dsimp only [setCells,over] at hS;refine Z5 fun v7 l7 S hS=>?_;refine Z1 fun S hS=>?_;refine SV ?_;refine Ce rfl (fun hb=>by cases hb) (fun _=>?_);refine Z5 fun v9 l9 S hS=>?_;refine Z7 ?_;refine Ar ?_;refine Qt sb.len ?_;refine Z6 ?_;have hS:=hS.eq (m':=pt l9 (.row v9 3 [])+(pt lh (.row vh 0 [.str h.text,.sl p vu off us.length,xr,.bool h.P0])+(mr+(mb+(pt l7 (.row v7 0 [xd,xb])+(pt p (.row vu 2 (A++xd::xb::B))+(n1+(md+gr))+mf+pt l3 (.row v3 0 [.int .i64 3,.int .i64 x.1,.int .i64 x.2.1,.str x.2.2]))))))) (by ac_rfl);have hy0:EP 3 (.sl l9 v9 0 0) (FM (g.2.reverse.take 0)) 0 (pt l9 (.row v9 3 [])):=EP.whole rfl;refine GU (fun n xs S=> ∃(j:Nat) (y:AA) (my:HM),xs=[y,.int .i64 ((g.2.length:Int)-1-(j:Int))]/\j<=g.2.length/\n=g.2.length-j/\EP 3 y (FM (g.2.reverse.take j)) j my/\Has S (my+(pt lh (.row vh 0 [.str h.text,.sl p vu off us.length,xr,.bool h.P0])+(mr+(mb+(pt l7 (.row v7 0 [xd,xb])+(pt p (.row vu 2 (A++xd::xb::B))+(n1+(md+gr))+mf+pt l3 (.row v3 0 [.int .i64 3,.int .i64 x.1,.int .i64 x.2.1,.str x.2.2])))))))) g.2.length ⟨0,.sl l9 v9 0 0,pt l9 (.row v9 3 []),?_,Nat.zero_le _,rfl,hy0,hS⟩ ?_
   ·simp [Frame.get]
   clear hS hy0;rintro n xs S hl' ⟨j,y,my,rfl,hj,rfl,hy,hS⟩;dsimp only [Ei,List.map,Frame.get];refine Z7 ?_;refine Be rfl (fun hlt=>?_) (fun hlt=>?_)
   ·have hjl:j<g.2.length:=by omega
    obtain ⟨e,he⟩: ∃e,g.2[g.2.length-1-j]?=some e:=⟨_,List.getElem?_eq_getElem (by omega)⟩
    have her:g.2.reverse[j]?=some e:=by rw [List.getElem?_reverse (by omega)];exact he
    obtain ⟨pb,vb,offb,cs,rfl,rfl,hle,hcs⟩:=sb.pos (by omega);have ht:takeN 3 (List.drop (offb+(g.2.length-1-j)*3) cs)=some [.int .i64 e.1,.int .i64 e.2.1,.str e.2.2]:=by
     rw [KF hle (show g.2.length-1-j<g.2.length by omega),<-hcs,UX he]
    refine Z9 ?_;refine Ar ?_;rw [show ((g.2.length:Int)-1-(j:Int))=((g.2.length-1-j:Nat):Int) by omega];refine ZI hS rfl rfl rfl (by omega) ?_;refine Z3 ?_;refine Ar ?_;refine GJ hS rfl hy (Dx.one rfl) rfl (by omega) fun y' my' S hy' hS=>?_;refine Z5 ?_;rw [show ((g.2.length-1-j:Nat):Int)=(g.2.length:Int)-1-(j:Int) by omega];refine Z6 ?_;refine ⟨g.2.length-(j+1),by omega,j+1,y',my',?_,by omega,rfl,?_,hS⟩
    ·simp [Frame.get];omega
    ·rw [List.take_add_one,her];rw [show FM (g.2.reverse.take j)++[.int .i64 e.1,.int .i64 e.2.1,.str e.2.2]=FM (g.2.reverse.take j++[e]) from PY _ _] at hy';exact hy'
   ·obtain rfl:j=g.2.length:=by omega
    rw [List.take_of_length_le (by simp)] at hy;refine Z6 ?_;refine CY hS fun S hS=>?_;refine Z8 ?_;refine Ar ?_;refine GJ hS rfl sr (Dx.one rfl) rfl (by omega) fun xr' mr' S sr' hS=>?_;refine Z3 ?_;refine Ar ?_;refine JU hS rfl rfl sr'.cl rfl (by simp) fun S hS=>?_;(try dsimp only [AK,rd,Frame.get,setCells,over] at hS);refine Z4 ?_;have hy:EP 3 y (FM g.2.reverse) g.2.reverse.length my:=by rw [List.length_reverse];exact hy
    refine Z4 ?_;refine HC.use (SY (a:= .sl p vu off us.length) (b:=xr') (c:= .bool h.P0) hMd hy hp.1 (by rw [List.length_reverse];omega)) (hS.eq (m':=(pt lh (.row vh 0 [.str h.text,.sl p vu off us.length,xr',.bool h.P0])+my)+(mr'+(mb+(pt l7 (.row v7 0 [xd,xb])+(pt p (.row vu 2 (A++xd::xb::B))+(n1+(md+gr))+mf+pt l3 (.row v3 0 [.int .i64 3,.int .i64 x.1,.int .i64 x.2.1,.str x.2.2])))))) (by ac_rfl)) ?_;rintro r m' S ⟨rfl,rfl⟩ hS;refine mQ ?_;refine ⟨my+(pt lh (.row vh 0 [.str (AY h.text g.2.reverse),.sl p vu off us.length,xr',.bool false])+(pt p (.row vu 2 (A++xd::xb::B))+(n1+(mr'+(gr+(md+mb)))))),P1.of hU1 hU hy rfl (Std.Commutative.comm _ _) ?_,(hS.eq (m':=(my+(pt lh (.row vh 0 [.str (AY h.text g.2.reverse),.sl p vu off us.length,xr',.bool false])+(pt p (.row vu 2 (A++xd::xb::B))+(n1+(mr'+(gr+(md+mb))))))+mf)+(pt l7 (.row v7 0 [xd,xb])+pt l3 (.row v3 0 [.int .i64 3,.int .i64 x.1,.int .i64 x.2.1,.str x.2.2]))) (by ac_rfl)).left⟩;subst hg' hus';exact ⟨_,xr',_,_,_,_,_,_,rfl,XI hA,q1,by have:=sr';simpa [Uo] using this,Mz.app qr (Mz.one.2 ⟨xd,xb,md,mb,rfl,rfl,sd,sb⟩)⟩
 refine Z6 ?_;refine Be rfl (fun h4=>?_) (fun h4=>?_)
 ·subst h4;by_cases hu:h.Dc=[]
  ·have hz:bg false xr=some 0:=by have:=sr.len;rw [hu] at this;exact this
   refine Z6 ?_;refine HC.use (cX (c:=2) (cs:=[.str h.text,xu,xr,.bool h.P0]) rfl hz) hS ?_;rintro r m' S ⟨rfl,rfl⟩ hS;refine Z5 fun v11 l11 S hS=>?_;refine Z1 fun S hS=>?_;refine SV ?_;refine Ce rfl (fun _=>?_) (fun hb=>by cases hb);refine mR ?_;exact ⟨_,P1.of (nQ hu).1 (nQ hu).2 EP.nil (HM.nil_add _).symm (HM.add_nil _).symm ⟨xu,xr,cu,cr,mu,gu,mr,gr,rfl,su,qu,sr,qr⟩,hS.right.right⟩
  ·obtain ⟨p,vu,off,A,B,xd,xb,n1,md,mb,rfl,rfl,hA,rfl,q1,sd,sb⟩:=bc hu sr qr;have hus:h.Dc.dropLast.length<=20:=by rw [List.length_dropLast];omega
   have e3:h.Dc.reverse=Bj h.Dc::h.Dc.dropLast.reverse:=by
    conv=>lhs;rw [EH hu]
    simp
   have hp:=i.ui;rw [e3] at hp;have hG:=i.mT (Bj h.Dc) (List.mem_append_right _ (LU hu));have hx2:takeN 2 ((A++xd::xb::B).drop (off+h.Dc.dropLast.length*2))=some [xd,xb]:=X5 hA;have hU:=(iM (x:=x) hu).2;have hU1:=(iM (x:=x) hu).1;generalize hus':h.Dc.dropLast=us at*;generalize hg':Bj h.Dc=g at*;refine Z6 ?_;refine HC.use (cY (c:=2) (n:=us.length) (cs:=[.str h.text,xu,.sl p vu off (us.length+1),.bool h.P0]) rfl hx2 (by simp) (by omega)) (hS.eq (m':=pt l3 (.row v3 0 [.int .i64 4,.int .i64 x.1,.int .i64 x.2.1,.str x.2.2])+((pt lh (.row vh 0 [.str h.text,xu,.sl p vu off (us.length+1),.bool h.P0])+pt p (.row vu 2 (A++xd::xb::B)))+(n1+(md+mb)+(mu+gu))+mf)) (by ac_rfl)) ?_;rintro r m' S ⟨rfl,rfl⟩ hS;dsimp only [setCells,over] at hS;refine Z5 fun v11 l11 S hS=>?_;refine Z1 fun S hS=>?_;refine SV ?_;refine Ce rfl (fun hb=>by cases hb) (fun _=>?_);refine Z3 ?_;refine CY hS fun S hS=>?_;refine Z8 ?_;refine Ar ?_;refine GJ hS rfl su (Dx.one rfl) rfl (by omega) fun xu' mu' S su' hS=>?_;refine Z3 ?_;refine Ar ?_;refine JU hS rfl rfl su'.cl rfl (by simp) fun S hS=>?_;(try dsimp only [AK,rd,Frame.get,setCells,over] at hS);refine Z9 ?_;refine HC.use (SY (a:=xu') (b:= .sl p vu off us.length) (c:= .bool h.P0) hMd sd hp.1 (by omega)) (hS.eq (m':=(pt lh (.row vh 0 [.str h.text,xu',.sl p vu off us.length,.bool h.P0])+md)+(mu'+(mb+(pt l11 (.row v11 0 [xd,xb])+(pt p (.row vu 2 (A++xd::xb::B))+(n1+gu)+mf+pt l3 (.row v3 0 [.int .i64 4,.int .i64 x.1,.int .i64 x.2.1,.str x.2.2])))))) (by ac_rfl)) ?_;rintro r m' S ⟨hr,rfl⟩ hS;rw [hr];refine mQ ?_;refine ⟨md+(pt lh (.row vh 0 [.str (AY h.text g.1),xu',.sl p vu off us.length,.bool false])+(mu'+(gu+mb)+(pt p (.row vu 2 (A++xd::xb::B))+n1))),P1.of (mh:=pt lh (.row vh 0 [.str (AY h.text g.1),xu',.sl p vu off us.length,.bool false])+(mu'+(gu+(md+mb)+(pt p (.row vu 2 (A++xd::xb::B))+n1)))) (X:=HM.nil) hU1 hU sd rfl (by ac_rfl) ?_,(hS.eq (m':=(md+(pt lh (.row vh 0 [.str (AY h.text g.1),xu',.sl p vu off us.length,.bool false])+(mu'+(gu+mb)+(pt p (.row vu 2 (A++xd::xb::B))+n1)))+mf)+(pt l11 (.row v11 0 [xd,xb])+pt l3 (.row v3 0 [.int .i64 4,.int .i64 x.1,.int .i64 x.2.1,.str x.2.2]))) (by ac_rfl)).left⟩;subst hg' hus';exact ⟨xu',_,_,_,_,_,_,_,rfl,by have:=su';simpa [Sm] using this,Mz.app qu (Mz.one.2 ⟨xd,xb,md,mb,rfl,rfl,sd,sb⟩),XI hA,q1⟩
 ·refine mR ?_;exact ⟨_,P1.of (nR h1 h2 h3 h4).1 (nR h1 h2 h3 h4).2 EP.nil (HM.nil_add _).symm (HM.add_nil _).symm ⟨xu,xr,cu,cr,mu,gu,mr,gr,rfl,su,qu,sr,qr⟩,hS.right⟩
end Go.Proofs.YtlibocgedgdmlaaGreat.H
end
section
set_option maxRecDepth 100000
namespace Go.Proofs.YtlibocgedgdmlaaGreat.E
open Go.Vc Go.Fu
open Go.Proofs.YtlibocgedgdmlaaGreat.H (Jg P1 RW FM UX ft)
theorem Sa: ∀(l:List BW) (s:Bytes) (D:List Span) (K:List Bool) (e:BW),FZ s D K (l++[e])=(kC (AY s l) (FZ s D K l).1 e,UL (AY s l) (FZ s D K l).2 e)
 | [],s,D,K,e=>rfl
 | a::l,s,D,K,e=>Sa l (AV s a) (kC s D a) (UL s K a) e
theorem Ot: ∀ {es:List BW} {s:Bytes} (j:Nat),Cl s.length es=0->Cl s.length (es.take j)=0
 | es,s,0,_=>rfl
 | [],s,j+1,h=>h
 | e::es,s,j+1,h=>by
  obtain ⟨c1,c2⟩:=CE.1 h;rw [List.take_succ_cons];refine CE.2 ⟨c1,?_⟩;rw [<-CN c1] at c2 |-;exact Ot j c2
variable {lg vg lh vh lm vm : Nat} {sc : List AA}
abbrev Ox (d:EM):List AA:=[.int .i64 d.1,.int .i64 d.2.1,.int .i64 d.2.2.1,.str d.2.2.2]
theorem fC (hCk:BS Tryz.prog Ba CF) (hMd:BS Tryz.prog BA Bs) (hUn:BS Tryz.prog Br Cf) (hA:BS Tryz.prog BG CD) (hSh:BS Tryz.prog BV Ck) (hWi:BS Tryz.prog Bi C1) (hL:BS Tryz.prog Bh C_) (hPo:BS Tryz.prog Ee GK) (hU:BS Tryz.prog BK Cj)
  {E:EN} {k:Nat} (i:Hb k E) (hk:k<=900) {m mh:HM} (hm:Zt lg vg lh vh lm vm E.h.text E.CM E.known sc m) (hh:Jg E.h lh vh mh) {d:EM} (hd:Ec d.2):
  HC Tryz.prog CG [.ptr lg vg 0,.agg (Ox d)] (m+mh) fun r m'=> ∃m1 mh1 X,DX (Is E d).2 r HM.nil/\Zt lg vg lh vh lm vm (Is E d).1.h.text (Is E d).1.CM (Is E d).1.known sc m1/\Jg (Is E d).1.h lh vh mh1/\m'=m1+(mh1+X):=by
 intro S mf hS;obtain ⟨hc,hlast,_,hlen⟩:=XL i.h d;have hsrc:=hm;obtain ⟨xc,es,mt,mc,rfl,ht,hxc⟩:=hm;refine Ih KM ?_;refine Z3 fun v3 l3 S hS=>?_;refine Z1 fun v4 l4 S hS=>?_;refine Z3 ?_;refine CY hS fun S hS=>?_;refine Z7 ?_;have hS:=hS.eq (m':=mh+(pt l4 (.row v4 0 [.int .i64 0,.int .i64 0,.int .i64 0,.AM,.str []])+(pt lg (.row vg 0 (gC lh vh E.h.text lm vm E.CM xc sc))+(pt lm (.Cw vm es)+(mt+mc))+(pt l3 (.row v3 0 (Ox d))+mf)))) (by ac_rfl);refine HC.use (RW hCk hMd hUn hh i.h (by omega) hd) hS ?_;rintro r m2 S ⟨y,a,R,mh1,X,rfl,hsl,ha,hmh,hh1⟩ hS;refine SV ?_;generalize hes:Dh E.h d=l at*;have hl:l.length<=1000:=by omega
 generalize hML:(pt l4 (.row v4 0 [.int .i64 0,.int .i64 0,.int .i64 0,.AM,.str []]):HM)=ML at*;refine Z2 ?_;refine Ar ?_;refine Qt hsl.len ?_;refine Z5 ?_;have inv: ∀j,j<=l.length->AP (AY E.h.text (l.take j)).length (-1) (FZ E.h.text E.CM E.known (l.take j)).1/\Whole (AY E.h.text (l.take j)) (BT (FZ E.h.text E.CM E.known (l.take j)).1)/\(FZ E.h.text E.CM E.known (l.take j)).2.length=(AO (AY E.h.text (l.take j))).length:=fun j _=>RQ (l.take j) (Ot j hc) i.d i.w i.k;refine GU (fun n xs S=> ∃(j:Nat) (m1 X1:HM),xs=[.int .i64 (j:Int)]/\j<=l.length/\n=l.length-j/\Zt lg vg lh vh lm vm (AY E.h.text (l.take j)) (FZ E.h.text E.CM E.known (l.take j)).1 (FZ E.h.text E.CM E.known (l.take j)).2 sc m1/\Has S (ML+(m1+(m2+(X1+mf))))) l.length ⟨0,_,pt l3 (.row v3 0 (Ox d)),rfl,Nat.zero_le _,rfl,⟨xc,es,mt,mc,rfl,ht,hxc⟩,hS.eq (by ac_rfl)⟩ ?_;clear hS;rintro n xs S hl' ⟨j,m1,X1,rfl,hj,rfl,hE1,hS⟩;dsimp only [Ei,List.map,Frame.get];refine Z6 ?_;refine Be rfl (fun hlt=>?_) (fun hlt=>?_)
 ·obtain ⟨e,he⟩: ∃e,l[j]?=some e:=⟨_,List.getElem?_eq_getElem (by omega)⟩
  obtain ⟨hmay,hnext⟩:=ft hc he;obtain ⟨iD,iW,iK⟩:=inv j hj;obtain ⟨p,v,off,cs,rfl,rfl,hle,hcs⟩:=hsl.pos (by omega);have ht':takeN 3 (List.drop (off+j*3) cs)=some [.int .i64 e.1,.int .i64 e.2.1,.str e.2.2]:=by
   rw [KF hle (show j<l.length by omega),<-hcs,UX he]
  have hsn:l.take (j+1)=l.take j++[e]:=by rw [List.take_add_one,he];rfl
  have hch:=Sa (l.take j) E.h.text E.CM E.known e;rw [<-hsn] at hch;subst ha;refine Z9 fun v8 l8 S hS=>?_;refine Z1 fun S hS=>?_;refine Z6 ?_;have hS:=hS.eq (m':=m1+(ML+(pt p (.row v 3 cs)+R+(X1+mf)+pt l8 (.row v8 0 (RZ e))))) (by ac_rfl);refine HC.use (YQ hA hSh hWi hL hPo hU hMd hE1 hmay iD iK) hS ?_;rintro r m3 S ⟨m4,X2,hE2,rfl⟩ hS;refine Z9 ?_;have h1:(FZ E.h.text E.CM E.known (l.take (j+1))).1=kC (AY E.h.text (l.take j)) (FZ E.h.text E.CM E.known (l.take j)).1 e:=by rw [hch]
  have h2:(FZ E.h.text E.CM E.known (l.take (j+1))).2=UL (AY E.h.text (l.take j)) (FZ E.h.text E.CM E.known (l.take j)).2 e:=by rw [hch]
  exact ⟨l.length-(j+1),by omega,j+1,m4,X2+(X1+pt l8 (.row v8 0 (RZ e))),rfl,by omega,rfl,by rw [hnext,h1,h2];exact hE2,hS.eq (by ac_rfl)⟩
 ·obtain rfl:j=l.length:=by omega
  rw [List.take_of_length_le (Nat.le_refl _)] at hE1;subst hML;refine Z9 ?_;refine (Jz _).use ?_;refine Z2 fun S hS=>?_;refine Z6 ?_;subst hes;rw [hlast] at hE1;refine ⟨_,⟨m1,mh1,X+(X1+pt l4 (.row v4 0 [.int .i64 (C5 E.h d).2,.int .i64 0,.int .i64 0,.AM,.str []])),DX.plain,hE1,hh1,rfl⟩,?_⟩;rw [hmh] at hS;exact hS.eq (by ac_rfl)
end Go.Proofs.YtlibocgedgdmlaaGreat.E
end
section
set_option maxRecDepth 100000
set_option maxHeartbeats 2000000
namespace Go.Proofs.YtlibocgedgdmlaaGreat.E
open Go.Vc Go.Fu
open Go.Proofs.YtlibocgedgdmlaaGreat.H (Jg)
variable {lg vg lh vh lm vm : Nat}
def mW (E:EN) (lg vg lh vh lm vm:Nat) (m:HM):Prop:= ∃sc m1 mh ms,Zt lg vg lh vh lm vm E.h.text E.CM E.known sc m1/\Jg E.h lh vh mh/\FX E.IB sc ms/\m=m1+(mh+ms)
section
variable {E : EN} {r : Rq}
theorem xF (h:r.1=1):Cz E r=Is E r.2.1:=by unfold Cz;rw [if_pos h]
theorem xG (h:r.1=2):Cz E r=Gw E r.2.2.1 r.2.2.2.1:=by unfold Cz;rw [if_neg (by omega),if_pos h]
theorem xH (h:r.1=3):Cz E r=(E,FO E.h.text r.2.2.1):=by unfold Cz;rw [if_neg (by omega),if_neg (by omega),if_pos h]
theorem xI (h:r.1=4):Cz E r=(E,FU E.h.text r.2.2.2.2):=by unfold Cz;rw [if_neg (by omega),if_neg (by omega),if_neg (by omega),if_pos h]
theorem xJ (h:r.1=5):Cz E r=(E,Ez E.h.text r.2.2.1):=by unfold Cz;rw [if_neg (by omega),if_neg (by omega),if_neg (by omega),if_neg (by omega),if_pos h]
theorem xK (h:r.1=6):Cz E r=Hh E:=by unfold Cz;rw [if_neg (by omega),if_neg (by omega),if_neg (by omega),if_neg (by omega),if_neg (by omega),if_pos h]
theorem wz (h:r.1=7\/r.1=8):Cz E r=Hg E r.1 r.2.2.1:=by unfold Cz;rw [if_neg (by omega),if_neg (by omega),if_neg (by omega),if_neg (by omega),if_neg (by omega),if_neg (by omega),if_pos h]
theorem xL (h:r.1=9):Cz E r=(E,(0,XJ E,0,[],[])):=by unfold Cz;rw [if_neg (by omega),if_neg (by omega),if_neg (by omega),if_neg (by omega),if_neg (by omega),if_neg (by omega),if_neg (by omega),if_pos h]
theorem xE (h: ¬(r.1=1\/r.1=2\/r.1=3\/r.1=4\/r.1=5\/r.1=6\/r.1=7\/r.1=8\/r.1=9)):Cz E r=(E,lH 3):=by unfold Cz;rw [if_neg (by omega),if_neg (by omega),if_neg (by omega),if_neg (by omega),if_neg (by omega),if_neg (by omega),if_neg (by omega),if_neg (by omega)]
theorem lz:Nv E.h.text E.IB=((Hh E).1.IB,(Hh E).2)/\(Hh E).1.h=E.h/\(Hh E).1.CM=E.CM/\(Hh E).1.known=E.known:=by
 unfold Nv Hh;split<;>exact ⟨rfl,rfl,rfl,rfl⟩
theorem Xn (k n:Int):Nh E.IB k n=((Hg E k n).1.IB,(Hg E k n).2)/\(Hg E k n).1.h=E.h/\(Hg E k n).1.CM=E.CM/\(Hg E k n).1.known=E.known:=by
 unfold Nh Hg pd;split
 ·rename_i h;rw [h];exact ⟨rfl,rfl,rfl,rfl⟩
 ·rename_i t h;rw [h];dsimp only;split<;>exact ⟨rfl,rfl,rfl,rfl⟩
theorem mM (n z:Int):(Gw E n z).1.h=E.h/\(Gw E n z).1.IB=E.IB:=by
 unfold Gw;split
 ·exact ⟨rfl,rfl⟩
 ·split<;>exact ⟨rfl,rfl⟩
end
def jl (E:EN) (t:TW) (lg vg lh vh lm vm:Nat) (x:AA) (m':HM):Prop:= ∃m1 a X,DX t x a/\mW E lg vg lh vh lm vm m1/\m'=m1+(a+X)
theorem jl.nil {E:EN} {t:TW} {x:AA} {m1 X:HM} (h:DX t x HM.nil) (hE:mW E lg vg lh vh lm vm m1):jl E t lg vg lh vh lm vm x (m1+X):=⟨m1,HM.nil,X,h,hE,by rw [HM.nil_add]⟩
theorem qx (hCk:BS Tryz.prog Ba CF) (hMd:BS Tryz.prog BA Bs) (hUn:BS Tryz.prog Br Cf) (hA:BS Tryz.prog BG CD) (hSh:BS Tryz.prog BV Ck) (hWi:BS Tryz.prog Bi C1) (hL:BS Tryz.prog Bh C_) (hPo:BS Tryz.prog Ee GK) (hU:BS Tryz.prog BK Cj)
  (hPt:BS Tryz.prog A6 Bn) (hW:BS Tryz.prog Ax CP) (hP:BS Tryz.prog DE El) (hN:BS Tryz.prog CI Dq)
  {E:EN} {k:Nat} (i:Hb k E) (hk:k<=900) {m:HM} (hm:mW E lg vg lh vh lm vm m) {r:Rq} (hd:Ec r.2.1.2) (hw:M3 r.2.2.2.2):
  HC Tryz.prog Cx [.ptr lg vg 0,.agg (C4 r)] m (jl (Cz E r).1 (Cz E r).2 lg vg lh vh lm vm):=by
 intro S mf hS;obtain ⟨sc,m1,mh,ms,hE,hh,hs,rfl⟩:=hm;have hlen:=i.h.len;have hcl:=FD E.h.text;have hcp:=Wv E.h.text;obtain ⟨kd,d,n,z,w⟩:=r;dsimp only at hd hw;refine Ih L4 ?_;refine Z3 fun v3 l3 S hS=>?_;refine Z1 fun v4 l4 S hS=>?_;refine jq ?_;refine Be rfl (fun h1=>?_) (fun h1=>?_)
 ·subst h1;rw [xF rfl];refine Z6 ?_;have hS:=hS.eq (m':=(m1+mh)+((pt l4 (.row v4 0 [.int .i64 0,.int .i64 0,.int .i64 0,.AM,.str []]):HM)+(pt l3 (.row v3 0 (C4 (1,d,n,z,w)))+(ms+mf)))) (by ac_rfl);refine HC.use (fC hCk hMd hUn hA hSh hWi hL hPo hU i hk hE hh hd) hS ?_;rintro x m2 S ⟨m3,mh3,X,⟨y,rfl,hy⟩,hE3,hh3,rfl⟩ hS;refine Z2 fun S hS=>?_;refine Z8 ?_;exact ⟨_,jl.nil (X:=X+(pt l4 _+pt l3 (.row v3 0 (C4 (1,d,n,z,w))))) ⟨y,rfl,hy⟩ ⟨sc,m3,mh3,ms,hE3,hh3,hs,rfl⟩,hS.eq (by ac_rfl)⟩
 refine Z6 ?_;refine Be rfl (fun h2=>?_) (fun h2=>?_)
 ·subst h2;rw [xG rfl];refine Z5 ?_;have hS:=hS.eq (m':=m1+((pt l4 (.row v4 0 [.int .i64 0,.int .i64 0,.int .i64 0,.AM,.str []]):HM)+(pt l3 (.row v3 0 (C4 (2,d,n,z,w)))+(mh+ms+mf)))) (by ac_rfl);refine HC.use (mN hPt hA hW hP hE hlen i.d i.w i.k E ⟨rfl,rfl,rfl⟩ (2,d,n,z,w)) hS ?_;rintro x m2 S ⟨m3,X,⟨y,rfl,hy⟩,hE3,rfl⟩ hS;refine Z2 fun S hS=>?_;refine Z8 ?_;obtain ⟨w1,w2⟩:=mM (E:=E) n z;exact ⟨_,jl.nil (X:=X+(pt l4 _+pt l3 (.row v3 0 (C4 (2,d,n,z,w))))) ⟨y,rfl,hy⟩ ⟨sc,m3,mh,ms,by rw [w1];exact hE3,by rw [w1];exact hh,by rw [w2];exact hs,rfl⟩,hS.eq (by ac_rfl)⟩
 refine Z6 ?_;refine Be rfl (fun h3=>?_) (fun h3=>?_)
 ·subst h3;rw [xH rfl];obtain ⟨xc,es,mt,mc,rfl,ht,hc⟩:=hE;refine Z6 ?_;refine HC.use (bh (lg:=lg) (vg:=vg) (lh:=lh) (vh:=vh) (lm:=lm) (vm:=vm) (D:=E.CM) (xc:=xc) (sc:=sc) hL hlen n) hS ?_;rintro x m2 S ⟨⟨y,rfl,hy⟩,rfl⟩ hS;refine Z2 fun S hS=>?_;refine Z8 ?_;exact ⟨_,jl.nil (X:=pt l4 _+pt l3 (.row v3 0 (C4 (3,d,n,z,w)))) ⟨y,rfl,hy⟩ ⟨sc,_,mh,ms,⟨xc,es,mt,mc,rfl,ht,hc⟩,hh,hs,rfl⟩,hS.eq (by ac_rfl)⟩
 refine Z6 ?_;refine Be rfl (fun h4=>?_) (fun h4=>?_)
 ·subst h4;rw [xI rfl];obtain ⟨xc,es,mt,mc,rfl,ht,hc⟩:=hE;refine Z6 ?_;have hS:=hS.eq (m':=(pt lg (.row vg 0 (gC lh vh E.h.text lm vm E.CM xc sc))+(pt lm (.Cw vm es)+mt))+(mc+((pt l4 (.row v4 0 [.int .i64 0,.int .i64 0,.int .i64 0,.AM,.str []]):HM)+(pt l3 (.row v3 0 (C4 (4,d,n,z,w)))+(mh+ms+mf))))) (by ac_rfl);refine HC.use (di (lg:=lg) (vg:=vg) (lh:=lh) (vh:=vh) (lm:=lm) (vm:=vm) (xc:=xc) (sc:=sc) hPt hN ht hlen i.d i.w hw) hS ?_;rintro x m2 S ⟨ma,X,⟨y,rfl,hy⟩,rfl⟩ hS;unfold GM at hS;refine Z2 fun S hS=>?_;refine Z8 ?_;exact ⟨_,⟨_,ma,X+(pt l4 _+pt l3 (.row v3 0 (C4 (4,d,n,z,w)))),⟨y,rfl,hy⟩,⟨sc,_,mh,ms,⟨xc,es,mt,mc,rfl,ht,hc⟩,hh,hs,rfl⟩,rfl⟩,hS.eq (by ac_rfl)⟩
 refine Z6 ?_;refine Be rfl (fun h5=>?_) (fun h5=>?_)
 ·subst h5;rw [xJ rfl];obtain ⟨xc,es,mt,mc,rfl,ht,hc⟩:=hE;obtain ⟨p,v,off,cs,rfl,rfl,hle,hcs⟩:=hc.pos (by rw [i.k];exact hcp);have hc':=hc;refine Z6 ?_;have hS:=hS.eq (m':=(pt lg (.row vg 0 (gC lh vh E.h.text lm vm E.CM (.sl p v off E.known.length) sc))+pt p (.row v 2 cs))+(pt lm (.Cw vm es)+mt+((pt l4 (.row v4 0 [.int .i64 0,.int .i64 0,.int .i64 0,.AM,.str []]):HM)+(pt l3 (.row v3 0 (C4 (5,d,n,z,w)))+(mh+ms+mf))))) (by ac_rfl);refine HC.use (bF (lg:=lg) (vg:=vg) (lh:=lh) (vh:=vh) (lm:=lm) (vm:=vm) (D:=E.CM) (p:=p) (v:=v) (sc:=sc) hP (by omega) i.k hle hcs n) hS ?_;rintro x m2 S ⟨rfl,⟨y,rfl,hy⟩⟩ hS;refine Z2 fun S hS=>?_;refine Z8 ?_;exact ⟨_,jl.nil (X:=pt l4 _+pt l3 (.row v3 0 (C4 (5,d,n,z,w)))) ⟨y,rfl,hy⟩ ⟨sc,_,mh,ms,⟨_,es,mt,_,rfl,ht,hc⟩,hh,hs,rfl⟩,hS.eq (by ac_rfl)⟩
 refine Z6 ?_;refine Be rfl (fun h6=>?_) (fun h6=>?_)
 ·subst h6;rw [xK rfl];obtain ⟨xc,es,mt,mc,rfl,ht,hc⟩:=hE;obtain ⟨s1,s2,s3,s4⟩:=lz (E:=E);refine Z4 ?_;have hS:=hS.eq (m':=(pt lg (.row vg 0 (gC lh vh E.h.text lm vm E.CM xc sc))+ms)+(pt lm (.Cw vm es)+(mt+mc)+((pt l4 (.row v4 0 [.int .i64 0,.int .i64 0,.int .i64 0,.AM,.str []]):HM)+(pt l3 (.row v3 0 (C4 (6,d,n,z,w)))+(mh+mf))))) (by ac_rfl);refine HC.use (l0 (lg:=lg) (vg:=vg) (lh:=lh) (vh:=vh) (s:=E.h.text) (lm:=lm) (vm:=vm) (D:=E.CM) (xc:=xc) hs i.sn) hS ?_;rintro x m2 S ⟨⟨y,rfl,hy⟩,sc2,ms2,hs2,rfl⟩ hS;refine Z2 fun S hS=>?_;refine Z8 ?_;rw [s1] at hs2 hy hS |-;exact ⟨_,jl.nil (X:=pt l4 _+pt l3 (.row v3 0 (C4 (6,d,n,z,w)))) ⟨y,rfl,hy⟩ ⟨sc2,_,mh,ms2,by rw [s2,s3,s4];exact ⟨xc,es,mt,mc,rfl,ht,hc⟩,by rw [s2];exact hh,hs2,rfl⟩,hS.eq (by ac_rfl)⟩
 refine He fun K1 hK1=>?_;refine Z6 ?_;refine Be rfl (fun h7=>?_) (fun h7=>?_)
 ·subst h7;obtain ⟨xc,es,mt,mc,rfl,ht,hc⟩:=hE;obtain ⟨s1,s2,s3,s4⟩:=Xn (E:=E) 7 n;refine Z2 ?_;refine hK1 _ _ rfl ?_;dsimp only [Ei,List.map,Frame.get];rw [wz (r:=(7,d,n,z,w)) (.inl rfl)];refine Be rfl (fun _=>?_) (fun hb=>by exfalso;omega);refine Z5 ?_;have hS:=hS.eq (m':=(pt lg (.row vg 0 (gC lh vh E.h.text lm vm E.CM xc sc))+ms)+(pt lm (.Cw vm es)+(mt+mc)+((pt l4 (.row v4 0 [.int .i64 0,.int .i64 0,.int .i64 0,.AM,.str []]):HM)+(pt l3 (.row v3 0 (C4 (7,d,n,z,w)))+(mh+mf))))) (by ac_rfl);refine HC.use (PE (lg:=lg) (vg:=vg) (lh:=lh) (vh:=vh) (s:=E.h.text) (lm:=lm) (vm:=vm) (D:=E.CM) (xc:=xc) hs i.sn (7,d,n,z,w)) hS ?_;rintro x m2 S ⟨⟨y,rfl,hy⟩,sc2,ms2,hs2,rfl⟩ hS;refine Z2 fun S hS=>?_;refine Z8 ?_;dsimp only at hs2 hy hS;rw [s1] at hs2 hy hS;exact ⟨_,jl.nil (X:=pt l4 _+pt l3 (.row v3 0 (C4 (7,d,n,z,w)))) ⟨y,by rw [s1],hy⟩ ⟨sc2,_,mh,ms2,by rw [s2,s3,s4];exact ⟨xc,es,mt,mc,rfl,ht,hc⟩,by rw [s2];exact hh,hs2,rfl⟩,hS.eq (by ac_rfl)⟩
 refine Z5 ?_;refine hK1 _ _ rfl ?_;dsimp only [Ei,List.map,Frame.get];refine Be rfl (fun h8=>?_) (fun h8=>?_)
 ·subst h8;rw [wz (r:=(8,d,n,z,w)) (.inr rfl)];obtain ⟨xc,es,mt,mc,rfl,ht,hc⟩:=hE;obtain ⟨s1,s2,s3,s4⟩:=Xn (E:=E) 8 n;refine Z5 ?_;have hS:=hS.eq (m':=(pt lg (.row vg 0 (gC lh vh E.h.text lm vm E.CM xc sc))+ms)+(pt lm (.Cw vm es)+(mt+mc)+((pt l4 (.row v4 0 [.int .i64 0,.int .i64 0,.int .i64 0,.AM,.str []]):HM)+(pt l3 (.row v3 0 (C4 (8,d,n,z,w)))+(mh+mf))))) (by ac_rfl);refine HC.use (PE (lg:=lg) (vg:=vg) (lh:=lh) (vh:=vh) (s:=E.h.text) (lm:=lm) (vm:=vm) (D:=E.CM) (xc:=xc) hs i.sn (8,d,n,z,w)) hS ?_;rintro x m2 S ⟨⟨y,rfl,hy⟩,sc2,ms2,hs2,rfl⟩ hS;refine Z2 fun S hS=>?_;refine Z8 ?_;dsimp only at hs2 hy hS;rw [s1] at hs2 hy hS;exact ⟨_,jl.nil (X:=pt l4 _+pt l3 (.row v3 0 (C4 (8,d,n,z,w)))) ⟨y,by rw [s1],hy⟩ ⟨sc2,_,mh,ms2,by rw [s2,s3,s4];exact ⟨xc,es,mt,mc,rfl,ht,hc⟩,by rw [s2];exact hh,hs2,rfl⟩,hS.eq (by ac_rfl)⟩
 refine Z6 ?_;refine Be rfl (fun h9=>?_) (fun h9=>?_)
 ·subst h9;rw [xL rfl];obtain ⟨xc,es,mt,mc,rfl,ht,hc⟩:=hE;obtain ⟨p,v,off,cs,rfl,rfl,hle,hcs⟩:=hc.pos (by rw [i.k];exact hcp);refine Z5 ?_;have hS:=hS.eq (m':=(pt lg (.row vg 0 (gC lh vh E.h.text lm vm E.CM (.sl p v off E.known.length) sc))+pt p (.row v 2 cs))+(pt lm (.Cw vm es)+mt+((pt l4 (.row v4 0 [.int .i64 0,.int .i64 0,.int .i64 0,.AM,.str []]):HM)+(pt l3 (.row v3 0 (C4 (9,d,n,z,w)))+(mh+ms+mf))))) (by ac_rfl);refine HC.use (kU (lg:=lg) (vg:=vg) (lh:=lh) (vh:=vh) (lm:=lm) (vm:=vm) (s:=E.h.text) (D:=E.CM) (p:=p) (v:=v) (sc:=sc) i.k hle hcs (by have:=i.k;omega)) hS ?_;rintro x m2 S ⟨rfl,b,rfl,hb⟩ hS;refine Z3 ?_;cases b with
  | true=>
   have hf:XJ E=1:=by unfold XJ;rw [if_pos (show Yg E from hb.1 rfl)]
   refine Ce rfl (fun _=>?_) (fun hb=>by cases hb);refine Z4 fun S hS=>?_;refine Z9 ?_;rw [hf];exact ⟨_,jl.nil (X:=pt l4 _+pt l3 (.row v3 0 (C4 (9,d,n,z,w)))) DX.plain ⟨sc,_,mh,ms,⟨_,es,mt,_,rfl,ht,hc⟩,hh,hs,rfl⟩,hS.eq (by ac_rfl)⟩
  | false=>
   have hf:XJ E=0:=by unfold XJ;rw [if_neg (fun q:Yg E=>by cases hb.2 q)]
   refine Ce rfl (fun hb=>by cases hb) (fun _=>?_);refine Z6 fun S hS=>?_;refine Z8 ?_;rw [hf];exact ⟨_,jl.nil (X:=pt l4 _+pt l3 (.row v3 0 (C4 (9,d,n,z,w)))) DX.plain ⟨sc,_,mh,ms,⟨_,es,mt,_,rfl,ht,hc⟩,hh,hs,rfl⟩,hS.eq (by ac_rfl)⟩
 rw [xE (r:=(kd,d,n,z,w)) (by show ¬(kd=1\/kd=2\/kd=3\/kd=4\/kd=5\/kd=6\/kd=7\/kd=8\/kd=9);omega)];refine Z6 ?_;refine (Jz 3).use ?_;refine Z2 fun S hS=>?_;refine Z6 ?_;exact ⟨_,jl.nil (X:=pt l4 _+pt l3 (.row v3 0 (C4 (kd,d,n,z,w)))) DX.plain ⟨sc,m1,mh,ms,hE,hh,hs,rfl⟩,hS.eq (by ac_rfl)⟩
end Go.Proofs.YtlibocgedgdmlaaGreat.E
end
section
set_option maxRecDepth 100000
namespace Go.Proofs.YtlibocgedgdmlaaGreat.H
open Go.Vc Go.Fu
theorem Xd (s:Bytes):HC Tryz.prog Ft [.str s] HM.nil fun r m'=> ∃lh vh,r= .ptr lh vh 0/\m'=pt lh (.row vh 0 [.str s,.AM,.AM,.bool false]):=by
 intro S mf hS;have hS:=hS.right;refine Ih Sq ?_;refine SV fun v5 l5 S hS=>?_;refine Z7 ?_;exact ⟨_,⟨l5,v5,rfl,rfl⟩,hS⟩
end Go.Proofs.YtlibocgedgdmlaaGreat.H
end
section
set_option maxRecDepth 100000
set_option maxHeartbeats 2000000
namespace Go.Proofs.YtlibocgedgdmlaaGreat.E
open Go.Vc Go.Fu
open Go.Proofs.YtlibocgedgdmlaaGreat.H (Jg Xd Mz)
theorem wO {P:Program} {f:FuncId} {xs:List AA} {S:AB} {R:AA->AB->Prop} (h:AU P f (.Em 0 []::xs) S R):AU P f (.AM::xs) S R:=⟨fun E fz w vals st hr=>h.out E fz w vals st (by
 simp only [AZ] at hr |-;obtain ⟨v,us,rfl,h1,h2⟩:=hr;exact ⟨v,us,rfl,by simp only [Rel] at h1 |-;subst h1;exact .inl ⟨trivial,none,0,rfl⟩,h2⟩)⟩
theorem gX (h:BS Tryz.prog DT F5) {s:Bytes} (hs:s.length<=1000000):RC Tryz.prog DT [.str s] (uW s):=by
 have hq:RC Tryz.prog DT [.str s] (DL (.sl tI) (Aa s)):=h.frozen.plain (S:=[]) (K:=fun r _=>r=DL (.sl tI) (Aa s)) s hs rfl rfl;rw [Qg] at hq;exact hq
theorem VN (hO:BS Tryz.prog DT F5) (hWi:BS Tryz.prog Bi C1) {s:Bytes} (hs:s.length<=600):
  HC Tryz.prog GD [.str s] HM.nil fun r m'=> ∃lg vg lh vh lm vm,r= .ptr lg vg 0/\mW (Az s) lg vg lh vh lm vm m':=by
 intro S mf hS;have hS:=hS.right;have hcl:=FD s;have hst:=Ps s;refine Ih WE ?_;refine Z9 ?_;refine (gX hO (by omega)).use ?_;refine Z5 ?_;refine qm hS fun n S hL hS=>?_;refine Z9 ?_;refine Ar ?_;refine oj hS hL (by omega) (Xd s) fun v7 S hS hL=>?_;dsimp only [List.map,rd,Frame.get] at hS;refine Z1 ?_;refine Ar ?_;refine r_ (wO (jj hWi (D:=[]) (x:=(0,(s.length:Int))) ⟨by simp,trivial⟩ ⟨by show (0:Int)<=0;omega,by show (0:Int)<=(s.length:Int);omega,by show (s.length:Int)<=1000000;omega⟩)) ?_;refine Z1 ?_;refine Ar ?_;refine ow hS hL (by omega) fun v10 S hS hL=>?_;refine Z1 ?_;refine Ar ?_;refine r6 hS hL (by omega) rfl rfl (by omega) fun v17 S hS hL=>?_;refine Z3 fun v19 l19 S hS=>?_;refine Z7 ?_;have hk:cellsOf (AO s) (List.replicate (AO s).length false)=(List.replicate (Aa s).length [AA.int .i64 0,.bool false]).flatten:=by rw [Ic,hst]
 have hsl:EP 2 (.sl (n+2) v17 0 (Aa s).length) (cellsOf (AO s) (Az s).known) (Az s).known.length (pt (n+2) (.row v17 2 (List.replicate (Aa s).length [AA.int .i64 0,.bool false]).flatten)):=by
  have e1:(Az s).known=List.replicate (AO s).length false:=rfl;have e2:(Az s).known.length=(Aa s).length:=by rw [e1,List.length_replicate,hst]
  rw [e2,e1,hk];refine EP.whole ?_;rw [<-hk,Io (by simp),List.length_replicate,hst]
 have hno: ∀w,fU s (Az s).CM w=[]:=fun w=>by
  obtain ⟨a,_⟩:=V3 (n:=s.length) (by omega) (by omega);show Iz s w (fun p=> ¬BT (E8 [] (0,(s.length:Int))) p)=[];refine List.eq_nil_iff_forall_not_mem.2 fun p hp=>?_;obtain ⟨h1,h2⟩:=cd.1 hp;have:=HJ h1;exact h2 ((a p).2 this)
 refine ⟨_,⟨l19,v19,n,v7,n+1,v10,rfl,[.Bp,.Bp,.Bp,.Bp],_,_,HM.nil,⟨_,[],HM.nil,_,rfl,LC.nil.congr (funext fun w=>(hno w).symm),hsl⟩,⟨.AM,.AM,[],[],HM.nil,HM.nil,HM.nil,HM.nil,rfl,EP.nil,⟨rfl,rfl⟩,EP.nil,⟨rfl,rfl⟩⟩,⟨_,rfl,_,rfl,_,rfl,_,rfl,rfl,rfl⟩,rfl⟩,hS.eq ?_⟩;simp only [HM.nil_add,HM.add_nil];show _=pt l19 (.row v19 0 [.ptr n v7 0,.str s,uW s,.map (n+1) v10,pe (E8 [] (0,(s.length:Int))),.sl (n+2) v17 0 (Aa s).length,.Bp,.Bp,.Bp,.Bp])+(pt (n+1) (.Cw v10 [])+pt (n+2) (.row v17 2 (List.replicate (Aa s).length [AA.int .i64 0,.bool false]).flatten))+pt n (.row v7 0 [.str s,.AM,.AM,.bool false])+mf
 ac_rfl
end Go.Proofs.YtlibocgedgdmlaaGreat.E
end
section
set_option maxRecDepth 100000
set_option maxHeartbeats 2000000
namespace Go.Proofs.YtlibocgedgdmlaaGreat.E
open Go.Vc Go.Fu
open Go.Proofs.YtlibocgedgdmlaaGreat.H (Jg)
def IF:List TW->List AA->HM->Prop
 | [],cs,m=>cs=[]/\m=HM.nil
 | t::l,cs,m=> ∃x cs' m1 m2,cs= .int .i64 t.1:: .int .i64 t.2.1:: .int .i64 t.2.2.1::x:: .str t.2.2.2.2::cs'/\m=m1+m2/\EP 1 x (ints t.2.2.2.1) t.2.2.2.1.length m1/\IF l cs' m2
theorem IF.YR: ∀ {l:List TW} {cs:List AA} {m:HM},IF l cs m->cs.length=l.length*5
 | [],cs,m,h=>by rw [h.1];rfl
 | t::l,cs,m,⟨x,cs',m1,m2,h1,_,_,h⟩=>by rw [h1];simp only [List.length_cons];have:=IF.YR h;omega
theorem IF.snoc: ∀ {l:List TW} {cs:List AA} {m:HM},IF l cs m-> ∀ {t:TW} {x:AA} {a:HM},EP 1 x (ints t.2.2.2.1) t.2.2.2.1.length a->IF (l++[t]) (cs++[.int .i64 t.1,.int .i64 t.2.1,.int .i64 t.2.2.1,x,.str t.2.2.2.2]) (m+a)
 | [],cs,m,h,t,x,a,h'=>by rw [h.1,h.2];exact ⟨x,[],a,HM.nil,rfl,by rw [HM.add_nil,HM.nil_add],h',rfl,rfl⟩
 | t0::l,cs,m,⟨y,cs',m1,m2,h1,h2,h3,h⟩,t,x,a,h'=>by
  subst h1;subst h2;exact ⟨y,_,m1,m2+a,rfl,by ac_rfl,h3,IF.snoc h h'⟩
theorem IF.deref {S:AB}: ∀ {l:List TW} {cs:List AA} {m mf:HM},IF l cs m->Has S (m+mf)->cs.map (BP S 1)=l.flatMap (BQ TN)
 | [],cs,m,mf,h,_=>by rw [h.1];rfl
 | t::l,cs,m,mf,⟨x,cs',m1,m2,h1,h2,h3,h⟩,hS=>by
  subst h1;subst h2;have e1:=h3.BP (S:=S) (mf:=m2+mf) (hS.eq (by ac_rfl)) 0;rw [KY fun c hc=>rfl] at e1;have e2:=IF.deref h (S:=S) (mf:=m1+mf) (hS.eq (by ac_rfl));simp only [List.map_cons];rw [e2,e1,e_];have e3:=Qg t.2.2.2.1;show _=BQ TN t++l.flatMap (BQ TN);show _=[AA.int .i64 t.1,.int .i64 t.2.1,.int .i64 t.2.2.1,DL (.sl tI) t.2.2.2.1,.str t.2.2.2.2]++l.flatMap (BQ TN);rw [e3];rfl
theorem Gf: ∀l:List Rq,(l.flatMap C4).length=l.length*8
 | []=>rfl
 | r::l=>by rw [List.flatMap_cons,List.length_append,Gf l,List.length_cons];show 8+l.length*8=(l.length+1)*8;omega
theorem QP: ∀ {l:List Rq} {j:Nat} {r:Rq},l[j]?=some r->takeN 8 ((l.flatMap C4).drop (j*8))=some (C4 r)
 | [],j,r,h=>by simp at h
 | a::l,0,r,h=>by
  simp at h;subst h;show takeN 8 (C4 a++l.flatMap C4)=_;rfl
 | a::l,j+1,r,h=>by
  have:=QP (l:=l) (j:=j) (r:=r) (by simpa using h);rw [show (j+1)*8=j*8+8 by omega,List.flatMap_cons,show C4 a=[.int .i64 a.1,.int .i64 a.2.1.1,.int .i64 a.2.1.2.1,.int .i64 a.2.1.2.2.1,.str a.2.1.2.2.2,.int .i64 a.2.2.1,.int .i64 a.2.2.2.1,.str a.2.2.2.2] from rfl,List.drop_append];simpa using this
theorem OO (hCk:BS Tryz.prog Ba CF) (hMd:BS Tryz.prog BA Bs) (hUn:BS Tryz.prog Br Cf) (hA:BS Tryz.prog BG CD) (hSh:BS Tryz.prog BV Ck) (hWi:BS Tryz.prog Bi C1) (hL:BS Tryz.prog Bh C_) (hPo:BS Tryz.prog Ee GK) (hU:BS Tryz.prog BK Cj)
  (hPt:BS Tryz.prog A6 Bn) (hW:BS Tryz.prog Ax CP) (hP:BS Tryz.prog DE El) (hN:BS Tryz.prog CI Dq) (hO:BS Tryz.prog DT F5)
  (s:Bytes) (l:List Rq) (hp:Ra s l):
  HC Tryz.prog CH [.str s,.Em l.length (l.flatMap C4)] HM.nil fun r m'=>(JC s l/\ ∃p1 v1 p2 v2 X,r= .DG [.sl p1 v1 0 0,.sl p2 v2 0 0,.int .i64 1]/\m'=pt p1 (.row v1 5 [])+(pt p2 (.row v2 1 [])+X))\/(¬JC s l/\ ∃p1 v1 p2 v2 cs mt X,r= .DG [.sl p1 v1 0 l.length,.sl p2 v2 0 l.length,.int .i64 0]/\IF (Bu (Az s) l) cs mt/\
   m'=pt p1 (.row v1 5 cs)+(pt p2 (.row v2 1 ((BX (Az s) l).map .str))+(mt+X))):=by
 obtain ⟨hs,hl,hd⟩:=hp;have hs:s.length<=140737488351232:=hs;have hl:l.length<=140737488351232:=hl;intro S mf hS;have hS:=hS.right;refine Ih NI ?_;refine Z3 fun v4 l4 S hS=>?_;refine Z1 fun v5 l5 S hS=>?_;refine Z9 ?_;refine Ar (BZ (Cn (fun hg=>?_) (fun hg=>?_)));all_goals refine Z5 ?_
 ·refine Z1 ?_;refine Ce rfl (fun _=>?_) (fun hb=>by cases hb);have hS:=hS.right.right;refine Z3 fun v4 l4 S hS=>?_;refine Z1 fun v5 l5 S hS=>?_;refine SV ?_;exact ⟨_,.inl ⟨.inl (by omega),l4,v4,l5,v5,HM.nil,rfl,rfl⟩,hS.eq (by simp only [HM.add_nil];ac_rfl)⟩
 refine Z1 ?_;refine Be rfl (fun hc=>?_) (fun hc=>?_)
 ·have hS:=hS.right.right;refine Z3 fun v4 l4 S hS=>?_;refine Z1 fun v5 l5 S hS=>?_;refine SV ?_;exact ⟨_,.inl ⟨.inr (by omega),l4,v4,l5,v5,HM.nil,rfl,rfl⟩,hS.eq (by simp only [HM.add_nil];ac_rfl)⟩
 have hbig: ¬JC s l:=by unfold JC;omega
 have h600:s.length<=600:=by omega
 have h80:l.length<=80:=by omega
 refine Z6 ?_;refine HC.use (VN hO hWi h600) (hS.eq (m':=HM.nil+(pt l5 (.row v5 1 [])+(pt l4 (.row v4 5 [])+mf))) (by rw [HM.nil_add])) ?_;rintro r m' S ⟨lg,vg,lh,vh,lm,vm,rfl,hm⟩ hS;refine mj ?_;refine GU (fun n xs S=> ∃(j p1 v1 p2 v2:Nat) (cs:List AA) (mt me X:HM),xs=[.sl p1 v1 0 j,.sl p2 v2 0 j,.int .i64 (j:Int)]/\j<=l.length/\n=l.length-j/\IF (Bu (Az s) (l.take j)) cs mt/\mW (Ek (Az s) (l.take j)) lg vg lh vh lm vm me/\
  Has S (pt p1 (.row v1 5 cs)+(pt p2 (.row v2 1 ((BX (Az s) (l.take j)).map .str))+(me+(mt+(X+mf)))))) l.length ⟨0,l4,v4,l5,v5,[],HM.nil,m',HM.nil,rfl,Nat.zero_le _,rfl,⟨rfl,rfl⟩,hm,hS.eq (by show _=pt l4 (.row v4 5 [])+(pt l5 (.row v5 1 [])+(m'+(HM.nil+(HM.nil+mf))));simp only [HM.nil_add];ac_rfl)⟩ ?_
 clear hS hm;rintro n xs S hl' ⟨j,p1,v1,p2,v2,cs,mt,me,X,rfl,hj,rfl,hT,hm,hS⟩;dsimp only [Ei,List.map,Frame.get];refine Z6 ?_;refine Be rfl (fun hlt=>?_) (fun hlt=>?_)
 ·obtain ⟨r,hrj⟩: ∃r,l[j]?=some r:=⟨_,List.getElem?_eq_getElem (by omega)⟩
  have ht:=QP hrj;have e1:l.take (j+1)=l.take j++[r]:=by rw [List.take_add_one,hrj];rfl
  have lt:(l.take j).length=j:=by rw [List.length_take];omega
  have ic:=Hb.run (s:=s) h600 (l.take j);rw [lt] at ic;obtain ⟨f1,f2⟩:=hd r (List.mem_of_getElem? hrj);have hcl5:=hT.YR;rw [FE,lt] at hcl5;refine Z9 fun v9 l9 S hS=>?_;refine Z1 fun S hS=>?_;refine Z8 ?_;have hS:=hS.eq (m':=me+(pt p1 (.row v1 5 cs)+(pt p2 (.row v2 1 ((BX (Az s) (l.take j)).map .str))+(pt l9 (.row v9 0 (C4 r))+(mt+(X+mf)))))) (by ac_rfl);refine HC.use (qx hCk hMd hUn hA hSh hWi hL hPo hU hPt hW hP hN ic (by omega) hm (r:=r) f1 f2) hS ?_;rintro x m2 S ⟨me2,a,X2,⟨y,rfl,hy⟩,hm2,rfl⟩ hS;refine Z2 ?_;refine Ar ?_;refine Jd hS rfl (Dx.one rfl) rfl hcl5 (by omega) fun v1' S hS=>?_;refine Z4 ?_;obtain ⟨sc,me3,mh,ms,⟨xc,es,mtb,mc,rfl,htb,hcb⟩,hh,hsn,rfl⟩:=hm2;refine Z7 ?_;refine Ar ?_;refine Jd hS rfl (Dx.one rfl) rfl (by simp [GC,lt]) (by omega) fun v2' S hS=>?_;refine SV ?_;refine ⟨l.length-(j+1),by omega,j+1,p1,v1',p2,v2',cs++[.int .i64 (Cz (Ek (Az s) (l.take j)) r).2.1,.int .i64 (Cz (Ek (Az s) (l.take j)) r).2.2.1,.int .i64 (Cz (Ek (Az s) (l.take j)) r).2.2.2.1,y,.str (Cz (Ek (Az s) (l.take j)) r).2.2.2.2.2],mt+a,(pt lg (.row vg 0 (gC lh vh (Cz (Ek (Az s) (l.take j)) r).1.h.text lm vm (Cz (Ek (Az s) (l.take j)) r).1.CM xc sc))+(pt lm (.Cw vm es)+(mtb+mc))+(mh+ms)),X2+(X+pt l9 (.row v9 0 (C4 r))),rfl,by omega,rfl,?_,?_,?_⟩
  ·rw [e1,O0];exact hT.snoc hy
  ·rw [e1,ak];exact ⟨sc,_,mh,ms,⟨xc,es,mtb,mc,rfl,htb,hcb⟩,hh,hsn,rfl⟩
  ·rw [e1,Oz,List.map_append];exact hS.eq (by ac_rfl)
 ·obtain rfl:j=l.length:=by omega
  rw [List.take_of_length_le (Nat.le_refl _)] at hS hT;refine wy ?_;exact ⟨_,.inr ⟨hbig,p1,v1,p2,v2,cs,mt,me+X,rfl,hT,rfl⟩,hS.eq (by ac_rfl)⟩
theorem LX: ∀l:List Bytes,l.map AA.str=l.flatMap (BQ .str)
 | []=>rfl
 | a::l=>by show AA.str a::l.map AA.str=AA.str a::l.flatMap (BQ .str);rw [LX l]
theorem JD (hCk:BS Tryz.prog Ba CF) (hMd:BS Tryz.prog BA Bs) (hUn:BS Tryz.prog Br Cf) (hA:BS Tryz.prog BG CD) (hSh:BS Tryz.prog BV Ck) (hWi:BS Tryz.prog Bi C1) (hL:BS Tryz.prog Bh C_) (hPo:BS Tryz.prog Ee GK) (hU:BS Tryz.prog BK Cj)
  (hPt:BS Tryz.prog A6 Bn) (hW:BS Tryz.prog Ax CP) (hP:BS Tryz.prog DE El) (hN:BS Tryz.prog CI Dq) (hO:BS Tryz.prog DT F5):BS Tryz.prog CH Fs:=by
 refine ⟨NI.1,fun (x:Bytes×List Rq) hp=>?_⟩;obtain ⟨s,l⟩:=x;have h:=RC.xN (r0:= .DG [DL (.sl TN) (DA s l).1,DL (.sl .str) (DA s l).2.1,DL tI (DA s l).2.2]) 3 (OO hCk hMd hUn hA hSh hWi hL hPo hU hPt hW hP hN hO s l hp) fun r m' S' h hS=>by
  rcases h with ⟨h,p1,v1,p2,v2,X,rfl,rfl⟩ | ⟨h,p1,v1,p2,v2,cs,mt,X,rfl,hT,rfl⟩
  ·rw [kJ h];show AA.DG [BP S' 2 _,BP S' 2 _,BP S' 2 _]=_;rw [Jt (k:=5) (cs:=[]) hS 1,Jt (k:=1) (cs:=[]) (m:=pt p1 (.row v1 5 [])+X) (hS.eq (by ac_rfl)) 1];rfl
  ·rw [Sc h];show AA.DG [BP S' 2 _,BP S' 2 _,BP S' 2 _]=_;have hl:=hT.YR;rw [FE] at hl;rw [Jt (k:=5) (cs:=cs) hS 1,Jt (k:=1) (cs:=(BX (Az s) l).map .str) (m:=pt p1 (.row v1 5 cs)+(mt+X)) (hS.eq (by ac_rfl)) 1];have e1:BL cs 0 (l.length*5)=cs:=by unfold BL;rw [List.drop_zero,List.take_of_length_le (by omega)]
   have e2:BL ((BX (Az s) l).map AA.str) 0 (l.length*1)=(BX (Az s) l).map .str:=by unfold BL;rw [List.drop_zero,List.take_of_length_le (by simp [GC])]
   rw [e1,e2,hT.deref (mf:=pt p1 (.row v1 5 cs)+(pt p2 (.row v2 1 ((BX (Az s) l).map .str))+X)) (hS.eq (by ac_rfl))];have e3:((BX (Az s) l).map AA.str).map (BP S' 1)=(BX (Az s) l).flatMap (BQ .str):=by
    rw [KY fun c hc=>by obtain ⟨b,_,rfl⟩:=List.mem_map.1 hc;rfl,LX]
   rw [e3];show AA.DG [.Em l.length _,.Em l.length _,_]=AA.DG [.Em (Bu (Az s) l).length _,.Em (BX (Az s) l).length _,_];rw [FE,GC];rfl
 exact AU.Zm h fun r S' e=>⟨_,id,[],PM.refl _,Uq,[DL (.sl TN) (DA s l).1,DL (.sl .str) (DA s l).2.1,DL tI (DA s l).2.2],⟨_,rfl,_,rfl,_,rfl,rfl,rfl⟩,e⟩
end Go.Proofs.YtlibocgedgdmlaaGreat.E
end
section
set_option maxRecDepth 100000
namespace Go.Proofs.YtlibocgedgdmlaaGreat.H
open Go.Vc Go.Fu
def qz (d:EM):List AA:=[.int .i64 d.1,.int .i64 d.2.1,.int .i64 d.2.2.1,.str d.2.2.2]
theorem iR: ∀ {l:List EM} {j:Nat} {d:EM},l[j]?=some d->takeN 4 ((l.flatMap qz).drop (j*4))=some [.int .i64 d.1,.int .i64 d.2.1,.int .i64 d.2.2.1,.str d.2.2.2]
 | [],j,d,h=>by simp at h
 | a::l,0,d,h=>by simp at h;subst h;rfl
 | a::l,j+1,d,h=>by
  have:=iR (l:=l) (j:=j) (d:=d) (by simpa using h);rw [show (j+1)*4=j*4+4 by omega,List.flatMap_cons,show qz a=[.int .i64 a.1,.int .i64 a.2.1,.int .i64 a.2.2.1,.str a.2.2.2] from rfl,List.drop_append];simpa using this
theorem VN (s:Bytes):HC Tryz.prog Ft [.str s] HM.nil fun r m'=> ∃lh vh,r= .ptr lh vh 0/\Jg (Dy s) lh vh m':=by
 intro S mf hS;refine Ih Sq ?_;refine SV fun v5 l5 S hS=>?_;refine Z7 ?_;exact ⟨pt l5 (.row v5 0 [.str s,.AM,.AM,.bool false])+(HM.nil+(HM.nil+(HM.nil+HM.nil))),⟨l5,v5,rfl,.AM,.AM,[],[],HM.nil,HM.nil,HM.nil,HM.nil,rfl,EP.nil,⟨rfl,rfl⟩,EP.nil,⟨rfl,rfl⟩⟩,hS.eq (by ac_rfl)⟩
def uk (s:Bytes) (l:List EM) (r:AA) (m':HM):Prop:=
 (Es s l/\r= .DG [.Bp,.AM,.AM,.int .i64 1])\/(¬Es s l/\ ∃lh vh p1 v1 p2 v2 mh,r= .DG [.ptr lh vh 0,.sl p1 v1 0 l.length,.sl p2 v2 0 l.length,.int .i64 0]/\Jg (KS (Dy s) l) lh vh mh/\
  m'=pt p1 (.row v1 1 ((ET (Dy s) l).map .str))+(pt p2 (.row v2 1 ((Fy (Dy s) l).map (.int .i64)))+mh))
theorem OO (hCk:BS Tryz.prog Ba CF) (hMd:BS Tryz.prog BA Bs) (hUn:BS Tryz.prog Br Cf) (s:Bytes) (l:List EM) (hp:Qa s l):
  HC Tryz.prog HI [.str s,.Em l.length (l.flatMap qz)] HM.nil (uk s l):=by
 obtain ⟨hs,hl,hd⟩:=hp;have hs:s.length<=140737488351232:=hs;have hl:l.length<=140737488351232:=hl;intro S mf hS;have hS:=hS.right;refine Ih Yr ?_;refine mR ?_;refine Ar (BZ (Cn (fun hg=>?_) (fun hg=>?_)));all_goals refine Z5 ?_
 ·refine Z1 ?_;refine Ce rfl (fun _=>?_) (fun hb=>by cases hb);refine jq ?_;exact ⟨HM.nil,.inl ⟨.inl (by omega),rfl⟩,hS.eq (by ac_rfl)⟩
 refine Z1 ?_;refine Be rfl (fun hc=>?_) (fun hc=>?_)
 ·refine jq ?_;exact ⟨HM.nil,.inl ⟨.inr (by omega),rfl⟩,hS.eq (by ac_rfl)⟩
 have hbig: ¬Es s l:=by unfold Es;omega
 refine Z6 ?_;refine HC.use (VN s) (hS.eq (m':=HM.nil+mf) (by ac_rfl)) ?_;rintro r m' S ⟨lh,vh,rfl,hm⟩ hS;refine Z7 fun v9 l9 S hS=>?_;refine Z5 fun v10 l10 S hS=>?_;refine TX ?_;refine GU (fun n xs S=> ∃(j p1 v1 p2 v2:Nat) (mh:HM),xs=[.sl p1 v1 0 j,.sl p2 v2 0 j,.int .i64 (j:Int)]/\j<=l.length/\n=l.length-j/\Jg (KS (Dy s) (l.take j)) lh vh mh/\
  Has S (pt p1 (.row v1 1 ((ET (Dy s) (l.take j)).map .str))+(pt p2 (.row v2 1 ((Fy (Dy s) (l.take j)).map (.int .i64)))+(mh+mf)))) l.length ⟨0,l9,v9,l10,v10,m',rfl,Nat.zero_le _,rfl,hm,hS.eq (by show _=pt l9 (.row v9 1 [])+(pt l10 (.row v10 1 [])+(m'+mf));ac_rfl)⟩ ?_
 clear hS hm;rintro n xs S hl' ⟨j,p1,v1,p2,v2,mh,rfl,hj,rfl,hm,hS⟩;dsimp only [Ei,List.map,Frame.get];refine Z6 ?_;refine Be rfl (fun hlt=>?_) (fun hlt=>?_)
 ·obtain ⟨d,hdj⟩: ∃d,l[j]?=some d:=⟨_,List.getElem?_eq_getElem (by omega)⟩
  have ht:=iR hdj;have e1:l.take (j+1)=l.take j++[d]:=by rw [List.take_add_one,hdj];rfl
  have ic:=Gd.run (s:=s) (by unfold Es at hbig;omega) (l.take j);have lt:(l.take j).length=j:=by rw [List.length_take];omega
  rw [lt] at ic;have hfit:Ec d.2:=hd d (List.mem_of_getElem? hdj);have h80:l.length<=80:=by unfold Es at hbig;omega
  refine Z9 fun v12 l12 S hS=>?_;refine Z1 fun S hS=>?_;refine Z7 ?_;refine HC.use (RW hCk hMd hUn hm ic (by omega) hfit) hS ?_;rintro r m' S ⟨y,a,R,mh',X,rfl,sy,-,rfl,hm'⟩ hS;refine Z8 ?_;obtain ⟨xu,xr,cu,cr,mu,gu,mr,gr,rfl,q1,q2,q3,q4⟩:=hm';have hS:=(hS.right.eq (m':=(pt p1 (.row v1 1 ((ET (Dy s) (l.take j)).map .str))+(pt p2 (.row v2 1 ((Fy (Dy s) (l.take j)).map (.int .i64)))+(pt lh (.row vh 0 [.str (C5 (KS (Dy s) (l.take j)) d).1.text,xu,xr,.bool (C5 (KS (Dy s) (l.take j)) d).1.P0])+(mu+(gu+(mr+gr)))+mf)))+X) (by ac_rfl)).left;refine Z7 ?_;refine Ar ?_;refine Jd hS rfl (Dx.one rfl) rfl (by simp [II,lt]) (by omega) fun v1' S hS=>?_;refine Z4 ?_;refine Ar ?_;refine Jd hS rfl (Dx.one rfl) rfl (by simp [Pd,lt]) (by omega) fun v2' S hS=>?_;refine TX ?_;refine ⟨l.length-(j+1),by omega,j+1,p1,v1',p2,v2',_,rfl,by omega,rfl,⟨xu,xr,cu,cr,mu,gu,mr,gr,rfl,?_,?_,?_,?_⟩,?_⟩
  ·rw [e1,Ja];exact q1
  ·rw [e1,Ja];exact q2
  ·rw [e1,Ja];exact q3
  ·rw [e1,Ja];exact q4
  ·rw [e1,NR,Sl,List.map_append,List.map_append,Ja];exact hS
 ·obtain rfl:j=l.length:=by omega
  rw [List.take_of_length_le (Nat.le_refl _)] at hS hm;refine xC ?_;exact ⟨_,.inr ⟨hbig,lh,vh,p1,v1,p2,v2,mh,rfl,hm,rfl⟩,hS.eq (by ac_rfl)⟩
theorem gE {s:Bytes} {l:List EM} (h: ¬Es s l):Gk s l=(ET (Dy s) l,Fy (Dy s) l,0)/\MF s l=(((KS (Dy s) l).BD.length:Int),((KS (Dy s) l).Dc.length:Int),(0:Int)):=by
 constructor
 ·unfold Gk K0;rw [if_neg h]
 ·unfold MF K0;rw [if_neg h]
theorem pD {s:Bytes} {l:List EM} (h:Es s l):Gk s l=([],[],1)/\MF s l=(0,0,1):=by
 constructor
 ·unfold Gk K0;rw [if_pos h]
 ·unfold MF K0;rw [if_pos h]
theorem jo (hCk:BS Tryz.prog Ba CF) (hMd:BS Tryz.prog BA Bs) (hUn:BS Tryz.prog Br Cf) (s:Bytes) (l:List EM) (hp:Qa s l):
  HC Tryz.prog DI [.str s,.Em l.length (l.flatMap qz)] HM.nil fun r m'=>(Es s l/\r= .DG [.AM,.AM,.int .i64 1])\/(¬Es s l/\ ∃p1 v1 p2 v2 X,r= .DG [.sl p1 v1 0 l.length,.sl p2 v2 0 l.length,.int .i64 0]/\
   m'=pt p1 (.row v1 1 ((ET (Dy s) l).map .str))+(pt p2 (.row v2 1 ((Fy (Dy s) l).map (.int .i64)))+X)):=by
 intro S mf hS;refine Ih Qb ?_;by_cases hb:Es s l
 ·have hc:=(OO hCk hMd hUn s l hp).mono fun r m' h=>h.resolve_right fun q=>q.1 hb;refine mQ ?_;refine HC.use hc hS ?_;rintro r m' S ⟨-,rfl⟩ hS;refine wD ?_;exact ⟨_,.inl ⟨hb,rfl⟩,hS⟩
 ·have hc:=(OO hCk hMd hUn s l hp).mono fun r m' h=>h.resolve_left fun q=>hb q.1;refine mQ ?_;refine HC.use hc hS ?_;rintro r m' S ⟨-,lh,vh,p1,v1,p2,v2,mh,rfl,hm,rfl⟩ hS;refine wD ?_;exact ⟨_,.inr ⟨hb,p1,v1,p2,v2,mh,rfl,rfl⟩,hS⟩
theorem jB: ∀l:List Bytes,l.map AA.str=l.flatMap (BQ .str)
 | []=>rfl
 | a::l=>by show AA.str a::l.map AA.str=AA.str a::l.flatMap (BQ .str);rw [jB l]
theorem jA: ∀l:List Int,l.map (AA.int .i64)=l.flatMap (BQ tI)
 | []=>rfl
 | a::l=>by show AA.int .i64 a::l.map (AA.int .i64)=AA.int .i64 a::l.flatMap (BQ tI);rw [jA l]
theorem WK (hCk:BS Tryz.prog Ba CF) (hMd:BS Tryz.prog BA Bs) (hUn:BS Tryz.prog Br Cf):BS Tryz.prog DI Hl:=by
 refine ⟨Qb.1,fun (x:Bytes×List EM) hp=>?_⟩;obtain ⟨s,l⟩:=x;refine HC.sF (jo hCk hMd hUn s l hp) ?_;rintro r m' S' (⟨hb,rfl⟩ | ⟨hb,p1,v1,p2,v2,X,rfl,rfl⟩) hS
 ·refine ⟨_,id,[],.refl _,Uq,[.AM,.AM,.int .i64 1],?_,rfl⟩;show HV [.own .str,.own tI,.val tI] (Gk s l) 0 _ _;rw [(pD hb).1];exact .inr ⟨rfl,_,rfl,.inr ⟨rfl,_,rfl,_,rfl,rfl,rfl⟩⟩
 ·have hl1:=II l (Dy s);have hl2:=Pd l (Dy s);rw [jB,jA] at hS;refine ⟨.DG [.sl 0 v1 0 l.length,.sl 1 v2 0 l.length,.int .i64 0],_,_,.DG (.cons .sl (.cons .sl (.refl _))),rM hS,[.sl 0 v1 0 l.length,.sl 1 v2 0 l.length,.int .i64 0],?_,rfl⟩;show HV [.own .str,.own tI,.val tI] (Gk s l) 0 _ _;rw [(gE hb).1];refine .inl ⟨v1,[.sl 1 v2 0 l.length,.int .i64 0],_,?_,rfl,.inl ⟨v2,[.int .i64 0],[],?_,rfl,[],rfl,rfl,rfl⟩⟩
  ·show _=AA.sl 0 v1 0 (ET (Dy s) l).length::_;rw [hl1]
  ·show _=AA.sl 1 v2 0 (Fy (Dy s) l).length::_;rw [hl2]
end Go.Proofs.YtlibocgedgdmlaaGreat.H
end
section
set_option maxRecDepth 100000
namespace Go.Proofs.YtlibocgedgdmlaaGreat.T
open Go.Vc
abbrev Du:Nat:=4
abbrev CH:Nat:=5
abbrev B0:Nat:=9
abbrev Dg:Nat:=10
abbrev AX:Nat:=11
abbrev DB:Nat:=12
abbrev DI:Nat:=13
abbrev Cc:Nat:=14
abbrev GD:Nat:=15
abbrev Cx:Nat:=16
abbrev D4:Nat:=21
abbrev HI:Nat:=22
abbrev DT:Nat:=23
abbrev Ft:Nat:=24
abbrev Bi:Nat:=25
abbrev CG:Nat:=26
abbrev CW:Nat:=27
abbrev B7:Nat:=28
abbrev B8:Nat:=29
abbrev B6:Nat:=30
abbrev CV:Nat:=31
abbrev Bo:Nat:=32
abbrev CU:Nat:=33
abbrev C9:Nat:=34
abbrev Da:Nat:=41
abbrev CA:Nat:=42
abbrev DC:Nat:=45
abbrev Af:Nat:=47
abbrev Bv:Nat:=48
abbrev Bg:Nat:=49
abbrev Bf:Nat:=50
abbrev Bh:Nat:=51
abbrev CI:Nat:=52
abbrev B9:Nat:=53
abbrev FF:Nat:=54
abbrev BR:Nat:=55
abbrev C0:Nat:=56
abbrev DE:Nat:=57
abbrev Bw:Nat:=58
abbrev BF:Nat:=59
abbrev Ag:Nat:=60
abbrev Ch:Nat:=61
abbrev Cg:Nat:=63
abbrev Fv:Nat:=64
abbrev Bl:Nat:=65
abbrev BG:Nat:=68
abbrev B5:Nat:=69
abbrev BV:Nat:=70
abbrev Ee:Nat:=71
abbrev Ay:Nat:=72
abbrev BK:Nat:=73
abbrev BA:Nat:=74
abbrev Ax:Nat:=75
abbrev BB:Nat:=76
abbrev BI:Nat:=77
abbrev CZ:Nat:=78
abbrev Ad:Nat:=79
abbrev Ed:Nat:=80
abbrev D7:Nat:=81
abbrev Ev:Nat:=82
abbrev A6:Nat:=83
abbrev Ba:Nat:=86
abbrev Br:Nat:=87
abbrev EX:Nat:=89
abbrev CX:Nat:=90
abbrev B1:Nat:=95
abbrev Aq:Nat:=96
abbrev Ds:Nat:=97
abbrev EW:Nat:=98
abbrev Cp:Nat:=99
abbrev CO:Nat:=113
abbrev Gx:Nat:=115
abbrev Aw:Nat:=116
abbrev DF:Nat:=118
abbrev Au:Nat:=119
abbrev DS:Nat:=120
abbrev Tq:Ak:=(sq [oV 8 (.c (.bool false))] [0,1,2,3] (sq [oM 27 0,oG 28 B0 [(.t 27),(ci 40)],oM 9 28] [1,2,3,9] (sq [oM 29 1,oM 30 9,oT 31 30,oJ 32 .add 31 5,oG 33 Dg [(.t 29),(ci 50),(.t 32)],oM 10 33] [2,3,9,10] (sq [gp 11 (.DU 4)] [2,3,9,10,11] (.seq (sq [oC 12 0] [2,3,9,10,11,12] (.block 0 (.loop [2,3,9,10] [11,12] 1 (.seq (sq [oM 34 12,oM 35 10,oN 36 35,oB 37 .lss 34 36] [2,3,9,10,11,12,37] (.cond (.t 37) .skip (.exit 0))) (.join [2,3,9,10,12] [11] 1 (.block 1 (sq [oM 40 10,oM 41 12,oI 42 8 40 41,oF 43 0 42,oL 44 43,oJ 45 .eql 44 1] [2,3,9,10,11,12,45] (.cond (.t 45) (.ops [oM 46 11,oM 47 10,oM 48 12,oI 49 8 47 48,oF 50 1 49,oA 51 4 50,gp 52 (.A7 true 1 4 [(.int .i64 0),(.int .i64 0),(.int .i64 0),(.str [])] [(0,4,(.t 51))]),oP 53 4 40 46 52,oM 11 53] none [2,3,9,10,11,12]) .skip))) (.ops [oM 38 12,oJ 39 .add 38 1,oM 12 39] none [2,3,9,10,11,12])))))) (sq [oM 54 2,oG 55 AX [(.t 54),(ci 60)],gp 56 (.build [(.int .i64 0),(.int .i64 0),(.int .i64 0),(.int .i64 0),(.str []),(.int .i64 0),(.int .i64 0),(.str [])] [(0,1,(ci 3)),(5,1,(.t 55))]),oM 57 3,oG 58 DB [(.t 57),(ci 2)],gp 59 (.bin .none .add (.t 58) (.c (.str [98]))),gp 60 (.build [(.int .i64 0),(.int .i64 0),(.int .i64 0),(.int .i64 0),(.str []),(.int .i64 0),(.int .i64 0),(.str [])] [(0,1,(ci 4)),(7,1,(.t 59))]),oM 61 2,oG 62 AX [(.t 61),(ci 5)],gp 63 (.build [(.int .i64 0),(.int .i64 0),(.int .i64 0),(.int .i64 0),(.str []),(.int .i64 0),(.int .i64 0),(.str [])] [(0,1,(ci 5)),(5,1,(.t 62))]),gp 64 (.A7 false 3 8 [(.int .i64 0),(.int .i64 0),(.int .i64 0),(.int .i64 0),(.str []),(.int .i64 0),(.int .i64 0),(.str []),(.int .i64 0),(.int .i64 0),(.int .i64 0),(.int .i64 0),(.str []),(.int .i64 0),(.int .i64 0),(.str []),(.int .i64 0),(.int .i64 0),(.int .i64 0),(.int .i64 0),(.str []),(.int .i64 0),(.int .i64 0),(.str [])] [(0,8,(.t 56)),(8,8,(.t 60)),(16,8,(.t 63))]),oM 13 64] [9,10,11,13] (sq [oM 66 9,oM 67 10,gp 68 (.append 8 80 (.c .AM) (.t 67)),oM 69 13,oP 70 8 80 68 69,oG 71 CH [(.t 66),(.t 70)],oM 65 71,oX 72 65 0,oX 73 65 1,oX 74 65 2,oM 14 72,oM 15 73,oM 16 74] [9,10,11,13,14,15,16] (sq [oM 76 9,oM 77 11,oG 78 DI [(.t 76),(.t 77)],oM 75 78,oX 79 75 0,oX 80 75 1,oX 81 75 2,oM 17 79,oM 18 80,oM 19 81] [9,10,11,13,14,15,16,17,19] (.seq (sq [oM 82 16,oJ 83 .neq 82 0,gb 84 (.C8 (.t 83)),gq 85 (.C8 (.t 19)) 84 false,gq 86 (.bin .none .neq (.t 85) (ci 0)) 84 false,gp 87 (.pick (.t 84) (.c (.bool true)) (.t 86)),gb 88 (.C8 (.t 87)),gq 89 (.C8 (.t 14)) 88 false,gq 90 (.len false (.t 89)) 88 false,gq 91 (.C8 (.t 10)) 88 false,gq 92 (.len false (.t 91)) 88 false,gq 93 (.bin .none .add (.t 92) (ci 3)) 88 false,gq 94 (.bin .none .neq (.t 90) (.t 93)) 88 false,gp 95 (.pick (.t 88) (.c (.bool true)) (.t 94)),gb 96 (.C8 (.t 95)),gq 97 (.C8 (.t 15)) 96 false,gq 98 (.len false (.t 97)) 96 false,gq 99 (.C8 (.t 14)) 96 false,gq 100 (.len false (.t 99)) 96 false,gq 101 (.bin .none .neq (.t 98) (.t 100)) 96 false,gp 102 (.pick (.t 96) (.c (.bool true)) (.t 101)),gb 103 (.C8 (.t 102)),gq 104 (.C8 (.t 17)) 103 false,gq 105 (.len false (.t 104)) 103 false,gq 106 (.C8 (.t 11)) 103 false,gq 107 (.len false (.t 106)) 103 false,gq 108 (.bin .none .neq (.t 105) (.t 107)) 103 false,gp 109 (.pick (.t 103) (.c (.bool true)) (.t 108))] [9,10,13,14,15,17,109] (.cond (.t 109) (sq [oV 8 (.c (.bool false))] [8] .ret) .skip)) (sq [oM 110 9,oM 20 110] [10,13,14,15,17,20] (.join [10,13,14,15] [20] 3 (sq [oM 111 17,oN 112 111,oJ 113 .gtr 112 0] [10,13,14,15,17,20,113] (.cond (.t 113) (.ops [oM 114 17,oM 115 17,oN 116 115,oJ 117 .sub 116 1,oI 118 1 114 117,oL 119 118,oM 20 119] none [10,13,14,15,20]) .skip)) (sq [oM 121 20,oM 122 13,oG 123 CH [(.t 121),(.t 122)],oM 120 123,oX 124 120 0,oX 125 120 1,oX 126 120 2,oM 21 124,oM 22 125,oM 23 126] [10,14,15,20,21,23] (.seq (sq [oM 127 23,oJ 128 .neq 127 0,gb 129 (.C8 (.t 128)),gq 130 (.C8 (.t 21)) 129 false,gq 131 (.len false (.t 130)) 129 false,gq 132 (.bin .none .neq (.t 131) (ci 3)) 129 false,gp 133 (.pick (.t 129) (.c (.bool true)) (.t 132)),gb 134 (.C8 (.t 133)),gq 135 (.C8 (.t 15)) 134 false,gq 136 (.C8 (.t 15)) 134 false,gq 137 (.len false (.t 136)) 134 false,gq 138 (.bin .none .sub (.t 137) (ci 1)) 134 false,gq 139 (.D_ 1 none (.t 135) (.t 138)) 134 false,gq 140 (.load 1 false (.t 139)) 134 false,gq 141 (.C8 (.t 20)) 134 false,gq 142 (.bin .none .neq (.t 140) (.t 141)) 134 false,gp 143 (.pick (.t 134) (.c (.bool true)) (.t 142))] [10,14,21,143] (.cond (.t 143) (sq [oV 8 (.c (.bool false))] [8] .ret) .skip)) (.seq (sq [oC 24 0] [10,14,21,24] (.block 2 (.loop [10,14,21] [24] 3 (.seq (sq [oM 144 24,oJ 145 .lss 144 3] [10,14,21,24,145] (.cond (.t 145) .skip (.exit 2))) (.seq (.block 3 (sq [oM 148 14,oM 149 10,oN 150 149,oM 151 24,oB 152 .add 150 151,oI 153 5 148 152,oA 154 5 153,gp 25 (.alloc 0 [(.int .i64 0),(.int .i64 0),(.int .i64 0),.AM,(.str [])]),oS 5 25 154] [10,14,21,24,25] (sq [oM 155 21,oM 156 24,oI 157 5 155 156,oA 158 5 157,gp 26 (.alloc 0 [(.int .i64 0),(.int .i64 0),(.int .i64 0),.AM,(.str [])]),oS 5 26 158] [10,14,21,24,25,26] (sq [oF 159 0 25,oL 160 159,oF 161 0 26,oL 162 161,oB 163 .neq 160 162,gb 164 (.C8 (.t 163)),gq 165 (.DJ 1 (.t 25)) 164 false,gq 166 (.load 1 false (.t 165)) 164 false,gq 167 (.DJ 1 (.t 26)) 164 false,gq 168 (.load 1 false (.t 167)) 164 false,gq 169 (.bin .none .neq (.t 166) (.t 168)) 164 false,gp 170 (.pick (.t 164) (.c (.bool true)) (.t 169)),gb 171 (.C8 (.t 170)),gq 172 (.DJ 2 (.t 25)) 171 false,gq 173 (.load 1 false (.t 172)) 171 false,gq 174 (.DJ 2 (.t 26)) 171 false,gq 175 (.load 1 false (.t 174)) 171 false,gq 176 (.bin .none .neq (.t 173) (.t 175)) 171 false,gp 177 (.pick (.t 171) (.c (.bool true)) (.t 176)),gb 178 (.C8 (.t 177)),gq 179 (.DJ 3 (.t 25)) 178 false,gq 180 (.load 1 false (.t 179)) 178 false,gq 181 (.DJ 3 (.t 26)) 178 false,gq 182 (.load 1 false (.t 181)) 178 false,gq 183 (.call Cc [(.t 180),(.t 182)]) 178 false,gq 184 (.not (.t 183)) 178 false,gp 185 (.pick (.t 178) (.c (.bool true)) (.t 184))] [10,14,21,24,185] (.cond (.t 185) (sq [oV 8 (.c (.bool false))] [8] .ret) .skip))))) (.ops [oM 146 24,oJ 147 .add 146 1,oM 24 147] none [10,14,21,24])))))) (sq [oV 8 (.c (.bool true))] [8] .ret)))))))))))))))
theorem Ls:L0 Tryz.prog Du 186 Tq [.tmp 8]:=okW Tryz.func4
end Go.Proofs.YtlibocgedgdmlaaGreat.T
end
