/- Part of the proof of topEngine_holds: the whole is true of every input. Conditions: none. -/
import Derived.Test.YtlibocgedgdmlaaGreatQ10
import Derived.Lib.Overlaps
import Derived.Laws.Externs
import Derived.Shelf.Spec.SlicesInsert
import Derived.Lib.AppendZerosOnto
import Derived.Lib.Builder
import Derived.Lib.Hide
import Derived.Deep.RegionWith
import Derived.RangeFuncLeaves
set_option linter.all false
section
namespace Go.Proofs
open Go.RowKit Go.Shelf Go.Vc
set_option maxHeartbeats 4000000 in
set_option maxRecDepth 100000 in
theorem km (b off n c i vb voff vc:Nat) (cs vs:List Value) (w:World) (hi:i<n) (hroom:n+1<=c) (hc63:c<=9223372036854775807) (hvb:vb≠b)
  (hcl:cs.length=n*2) (hvl:vs.length=2)
  (hcs: ∀j v,cs[j]?=some v->w.cell? ⟨b,off+j,none⟩=some v) (hsp: ∀j,j<(n+1)*2->(w.cell? ⟨b,off+j,none⟩).isSome=true) (hfz: ∀j,j<(n+1)*2->w.frozen? ⟨b,off+j,none⟩=false)
  (hvs: ∀j v,vs[j]?=some v->w.cell? ⟨vb,voff+j,none⟩=some v) (h1c: ∀v∈cs,v.oneCell'=true) (h1v: ∀v∈vs,v.oneCell'=true)
  (tA tB:TypeId) (kA kB:Nat) (hsa:w.shape? vb=some (tA,kA)) (hsb:w.shape? b=some (tB,kB)) (hkB:kB≠0) (hfa:w.frozen? ⟨vb,voff,none⟩=false) (hfe:w.frozen? ⟨vb,kA,none⟩=false):
  Calls Tryz.prog 46 #[.slice (some ⟨b,off,none⟩) n c,.int .i64 i,.slice (some ⟨vb,voff,none⟩) 1 vc] w fun e w'=>
   e= .returned (.slice (some ⟨b,off,none⟩) (n+1) c)/\w'=(w.drew.setCells b (off+(i+1)*2) (cs.drop (i*2))).setCells b (off+i*2) vs:=by
 have hz2: ¬((i:Int)=(n:Int)):=by omega
 obtain ⟨i0,hi0,hz0,hz1⟩: ∃i0,Tryz.prog.info? 90=some i0/\i0.size=2/\True:=⟨(Tryz.prog.info? 90).get (by kernel_rfl),by kernel_rfl,by kernel_rfl,trivial⟩
 have hov: ∀lb cb,(callFunc 66 #[.slice (some ⟨vb,voff,none⟩) 1 vc,.slice (some ⟨b,off+(i+1)*2,none⟩) lb cb]).run Tryz.prog w= .ok (.value (.bool false)) w:=fun lb cb=>by
  rw [run_callFunc_extern Tryz.func66 (by kernel_rfl) (by kernel_rfl) (by kernel_rfl) (e:=Extern.SlicesOverlaps.overlaps #[58,58] #[4]) (by kernel_rfl),
   Lib.run_overlaps_apart w 58 4 90 Tryz.underlying58 2 Tryz.sizeOf90 ⟨vb,voff,none⟩ ⟨b,off+(i+1)*2,none⟩ 1 vc lb cb hvb tA tB kA kB hsa hsb hkB hfa hfe]
  rfl
 have hdl:(cs.drop (i*2)).length=(n-i)*2:=by rw [List.length_drop,hcl];omega
 have hw1:IntKind.i64.wrap ((i:Int)+1)=(i:Int)+1:=by rw [IntKind.wrap_i64];omega
 have hin:i<=n:=by omega
 have hmin:Nat.min (n+1-i) (n-i)=n-i:=by simp only [Nat.min_def];split<;>omega
 have hmin2: ∀d,1<=d->Nat.min 1 d=1:=fun d hd=>by simp only [Nat.min_def];split<;>omega
 have hcp1: ∀ty dc sc,(Builtin.copy_ #[58,58] ty #[.slice (some ⟨b,off+(i+1)*2,none⟩) (n-i) dc,.slice (some ⟨b,off+i*2,none⟩) (n+1-i) sc]).run Tryz.prog w.drew= .ok (goInt ((n-i:Nat):Int)) (w.drew.setCells b (off+(i+1)*2) (cs.drop (i*2))):=fun ty dc sc=>by
  rw [Dv (P:=Tryz.prog) w.drew 58 58 ty 90 i0 b (off+(i+1)*2) (n-i) dc ⟨b,off+i*2,none⟩ (n+1-i) sc (cs.drop (i*2)) Tryz.underlying58 hi0 (by rw [hdl,hmin,hz0])
   (fun j v hj=>by rw [Addr.add_lit,Nat.add_assoc];exact hcs (i*2+j) v (by rwa [List.getElem?_drop] at hj))
   (fun j hj=>by rw [Nat.add_assoc];exact hsp _ (by omega)) (fun j hj=>by rw [Nat.add_assoc];exact hfz _ (by omega)) (fun v hv=>h1c v (List.mem_of_mem_drop hv)),hmin]
 obtain ⟨W1,hW1⟩: ∃W1,W1=w.drew.setCells b (off+(i+1)*2) (cs.drop (i*2)):=⟨_,rfl⟩
 have hsp1: ∀k,k<(n+1)*2->(W1.cell? ⟨b,off+k,none⟩).isSome=true:=fun k hk=>by
  rw [hW1];exact isSome_setCells b _ _ _ (fun j hj=>by rw [Nat.add_assoc];exact hsp _ (by omega)) _ (hsp k hk)
 have hcp2: ∀(W:World),(∀x,W.cell? x=W1.cell? x)->(∀x,W.frozen? x=W1.frozen? x)-> ∀ty dc,(Builtin.copy_ #[58,58] ty #[.slice (some ⟨b,off+i*2,none⟩) (n+1-i) dc,.slice (some ⟨vb,voff,none⟩) 1 vc]).run Tryz.prog W= .ok (goInt ((1:Nat):Int)) (W.setCells b (off+i*2) vs):=fun W hWc hWf ty dc=>by
  rw [Dv (P:=Tryz.prog) W 58 58 ty 90 i0 b (off+i*2) (n+1-i) dc ⟨vb,voff,none⟩ 1 vc vs Tryz.underlying58 hi0 (by rw [hvl,hz0,hmin2 _ (by omega)])
   (fun j v hj=>by
    rw [Addr.add_lit,hWc,hW1,World.cell?_setCells_out b _ _ _ _ (fun h _=>absurd h hvb)];exact hvs j v hj)
   (fun j hj=>by rw [hWc,Nat.add_assoc];exact hsp1 _ (by omega)) (fun j hj=>by rw [hWf,hW1,World.frozen?_setCells,Nat.add_assoc];exact hfz _ (by omega)) h1v,hmin2 _ (by omega)]
 rw [<-hW1] at hcp1;have mixed:Tryz.prog.follows .mixedOrders=true:=by kernel_rfl
 have u22:=run_underlying Tryz.underlying58;have z24:=Tryz.sizeOf90;have hb1:(0:Int)<=(i:Int)+1:=by omega
 have htn:((i:Int)+1).toNat=i+1:=by omega
 have hb2: ¬(c=i+1):=by omega
 have hb3:(i:Int)<=(n:Int)+1:=by omega
 have hb4: ¬(c=i):=by omega
 have hb5:(i:Int)+1<=(n:Int)+1:=by omega
 go_enter Tryz.func46,Tryz.ntmps46
 go_wp2_with (simp only [hov])
 go_region_law_o (refine step_copy_runI rfl _ _ 58 58 rfl _ _ (by simp [Act.eval,Act.put]) (by simp [Act.eval,Act.put]) (hcp1 _ _ _) ?_)
 go_wp2_with (at_builtin;refine wpList_copy_runI _ rfl _ _ 58 58 rfl _ _ rfl rfl (hcp2 _ (fun _=>rfl) (fun _=>rfl) _ _) ?_)
 go_ret
 first | exact ⟨rfl,rfl⟩ | exact ⟨rfl,by rw [hW1]⟩
theorem Li: ∃i0,Tryz.prog.info? 90=some i0/\i0.size=2/\i0.bytes=16/\ ∃z,i0.zero=some z/\z.cells.size=2:=
 ⟨(Tryz.prog.info? 90).get (by kernel_rfl),by kernel_rfl,by kernel_rfl,by kernel_rfl,.agg #[.int .i64 0,.int .i64 0],by kernel_rfl,rfl⟩
set_option maxHeartbeats 4000000 in
set_option maxRecDepth 100000 in
theorem Yt (b off n c vb voff vc:Nat) (vs:List Value) (w:World) (hroom:n+1<=c) (hc63:c<=9223372036854775807) (hvl:vs.length=2)
  (hsp: ∀j,j<2->(w.cell? ⟨b,off+n*2+j,none⟩).isSome=true) (hfz: ∀j,j<2->w.frozen? ⟨b,off+n*2+j,none⟩=false)
  (hvs: ∀j v,vs[j]?=some v->w.cell? ⟨vb,voff+j,none⟩=some v) (h1v: ∀v∈vs,v.oneCell'=true):
  Calls Tryz.prog 46 #[.slice (some ⟨b,off,none⟩) n c,.int .i64 n,.slice (some ⟨vb,voff,none⟩) 1 vc] w fun e w'=>
   e= .returned (.slice (some ⟨b,off,none⟩) (n+1) c)/\w'=w.setCells b (off+n*2) vs:=by
 obtain ⟨i0,hi0,hz0,_⟩:=Li;have hst:=run_storeCells_cells (P:=Tryz.prog) b (off+n*2) vs 0 w (fun j hj=>by simpa using hsp j (by omega)) (fun j hj=>by simpa using hfz j (by omega)) h1v;have hrun: ∀ty,(Builtin.append_ #[58,58] ty #[.slice (some ⟨b,off,none⟩) n c,.slice (some ⟨vb,voff,none⟩) 1 vc]).run Tryz.prog w= .ok (.slice (some ⟨b,off,none⟩) (n+1) c) (w.setCells b (off+n*2) vs):=fun ty=>by
  rw [Dd (P:=Tryz.prog) (w:=w) (base:=some ⟨b,off,none⟩) (sLen:=n) (sCap:=c) (n:=1) (news:=vs) (i:=i0) (t:=58) (u:=58) rfl rfl rfl rfl Tryz.underlying58 Tryz.underlying58 (.inl ⟨_,rfl⟩) hi0 (by simp [Builtin.lenOf])
   (run_firstCells_some (P:=Tryz.prog) w i0.size 1 ⟨vb,voff,none⟩ 1 vc vs (by rw [hvl,hz0]) fun j v hj=>by rw [Addr.add_lit];exact hvs j v hj) hroom]
  simp only [Addr.add_lit,hz0];simp only [Nat.add_zero] at hst;rw [hst];rfl
 go_enter Tryz.func46,Tryz.ntmps46
 go_wp2_with (at_builtin;refine Lib.wpList_append_run _ rfl _ _ _ _ rfl _ _ rfl rfl _ _ (hrun _) ?_)
 go_ret
 exact ⟨rfl,rfl⟩
set_option maxHeartbeats 4000000 in
set_option maxRecDepth 100000 in
theorem Qf (base:Option Addr) (n c vb voff vc:Nat) (cs vs:List Value) (w:World) (hroom:c<n+1) (hnc:n<=c) (hbig:(n+1)*16<=140737488355328) (hcl:cs.length=n*2) (hvl:vs.length=2) (hnil:base=none->n=0)
  (hcs: ∀a,base=some a-> ∀j v,cs[j]?=some v->w.cell? (a.add j)=some v)
  (hvs: ∀j v,vs[j]?=some v->w.cell? ⟨vb,voff+j,none⟩=some v) (h1v: ∀v∈vs,v.oneCell'=true):
  Calls Tryz.prog 46 #[.slice base n c,.int .i64 n,.slice (some ⟨vb,voff,none⟩) 1 vc] w fun e w'=>
   ∃(cap:Nat) (rest:List Value),e= .returned (.slice (some ⟨w.heap.size,0,none⟩) (n+1) cap)/\n+1<=cap/\rest.length=(cap-(n+1))*2/\w'.heap=w.heap.push (.cells (cs++vs++rest).toArray 90 (0,0))/\w'.os=w.os/\w'.output=w.output/\w'.tape=w.tape:=by
 obtain ⟨i0,hi0,hz0,hby,z,hz,hzc⟩:=Li;have hcell: ∀w':World,w'.heap=w.heap-> ∀a:Addr,w'.cell? a=w.cell? a:=fun w' hw a=>by unfold World.cell?;rw [hw]
 have hold: ∀w':World,w'.heap=w.heap->(Builtin.firstCells i0.size n (.slice base n c)).run Tryz.prog w'= .ok cs.toArray w':=fun w' hw=>by
  cases base with
  | none=>
   have h0:=hnil rfl;subst h0;have:cs=[]:=List.eq_nil_of_length_eq_zero (by omega);subst this;simp [Builtin.firstCells]
  | some a=>exact run_firstCells_some (P:=Tryz.prog) w' i0.size n a n c cs (by rw [hcl,hz0]) fun j v hj=>by rw [hcell w' hw];exact hcs a rfl j v hj
 obtain ⟨w1,rest,cap,k1,k2,k3,k4,k5,k6,k7⟩:=Dl (P:=Tryz.prog) (w:=w) (ats:= #[58,58]) (ty:=58) (args:= #[.slice base n c,.slice (some ⟨vb,voff,none⟩) 1 vc]) (base:=base) (sLen:=n) (sCap:=c) (n:=1) (olds:=cs) (news:=vs) (i:=i0) (z:=z) (t:=58) (u:=58) rfl rfl rfl rfl Tryz.underlying58 Tryz.underlying58 (.inl ⟨_,rfl⟩) hi0 hz (by rw [hby];decide)
  (fun w'=>by simp [Builtin.lenOf]) (fun w' hw=>run_firstCells_some (P:=Tryz.prog) w' i0.size 1 ⟨vb,voff,none⟩ 1 vc vs (by rw [hvl,hz0]) fun j v hj=>by rw [Addr.add_lit,hcell w' hw];exact hvs j v hj) hold hroom (by rw [hby];exact hbig)
 go_enter Tryz.func46,Tryz.ntmps46
 go_wp2_with (at_builtin;refine Lib.wpList_append_run _ rfl _ _ _ _ rfl _ _ rfl rfl _ _ k3 ?_)
 all_goals (go_ret;exact ⟨cap,rest,rfl,k1,by rw [k2,hzc],k4,k5,k6,k7.1⟩)
end Go.Proofs
end
section
namespace Go.Proofs
open Go.RowKit Go.Shelf Go.Vc
set_option maxHeartbeats 4000000 in
set_option maxRecDepth 100000 in
theorem ny (b off n c i vb voff vc:Nat) (cs vs:List Value) (w:World) (hi:i<n) (hroom:c<n+1) (hnc:n<=c) (hbig:(n+1)*16<=140737488) (hcl:cs.length=n*2) (hvl:vs.length=2) (hb:b<w.heap.size) (hvb:vb<w.heap.size)
  (hcs: ∀j v,cs[j]?=some v->w.cell? ⟨b,off+j,none⟩=some v) (hvs: ∀j v,vs[j]?=some v->w.cell? ⟨vb,voff+j,none⟩=some v) (h1c: ∀v∈cs,v.oneCell'=true) (h1v: ∀v∈vs,v.oneCell'=true):
  Calls Tryz.prog 46 #[.slice (some ⟨b,off,none⟩) n c,.int .i64 i,.slice (some ⟨vb,voff,none⟩) 1 vc] w fun e w'=>
   ∃(cap:Nat) (row:Array Value),e= .returned (.slice (some ⟨w.heap.size,0,none⟩) (n+1) cap)/\n+1<=cap/\row.size=cap*2/\w'=(((w.drew.alloc (.cells row 90)).setCells w.heap.size (i*2) vs).drew).setCells w.heap.size ((i+1)*2) (cs.drop (i*2))/\row.toList.take (i*2)=cs.take (i*2):=by
 obtain ⟨i0,hi0,hz0,hby,z,hz,hzc⟩:=Li;have htl:(cs.take (i*2)).length=i*2:=by rw [List.length_take];omega
 have hap:=Lib.run_append_grow_zeros (P:=Tryz.prog) w 58 3 58 90 i0 z .i64 .i64 Tryz.underlying58 Tryz.underlying3 hi0 hz (some ⟨b,off,none⟩) i c (cs.take (i*2))
  (run_firstCells_some (P:=Tryz.prog) w.drew i0.size i ⟨b,off,none⟩ i c (cs.take (i*2)) (by rw [htl,hz0]) fun j v hj=>by
   rw [Addr.add_lit];exact hcs j v (by rw [List.getElem?_take] at hj;split at hj<;>simp_all))
  (n+1-i) (by omega) (by rw [hz0];decide) (by omega) (by omega) (by rw [hby];omega) (by rw [hby];have:=growslice_fits (bytes:=16) (show c<i+(n+1-i) by omega) (by omega);omega)
 rw [show i+(n+1-i)=n+1 by omega] at hap;generalize hcap:grownCap w (n+1) c 90=cap at hap;have hcg:n+1<=cap:=by rw [<-hcap];exact grownCap_ge _ _ _ _
 generalize hrow:(cs.take (i*2)).toArray++Builtin.zeroCells z.cells (n+1-i)++Builtin.zeroCells z.cells (cap-(n+1))=row at hap;have hrs:row.size=cap*2:=by
  rw [<-hrow];simp only [Array.size_append,List.size_toArray,htl,size_zeroCells,hzc];omega
 have hrt:row.toList.take (i*2)=cs.take (i*2):=by
  rw [<-hrow];simp only [Array.toList_append,List.append_assoc];rw [List.take_append_of_le_length (by rw [htl];exact Nat.le_refl _),List.take_of_length_le (by rw [htl];exact Nat.le_refl _)]
 have hdl:(cs.drop (i*2)).length=(n-i)*2:=by rw [List.length_drop,hcl];omega
 have hmin1:Nat.min 1 (n+1-i)=1:=by simp only [Nat.min_def];split<;>omega
 have hmin2:Nat.min (n-i) (n-i)=n-i:=by simp only [Nat.min_def];split<;>omega
 obtain ⟨G,hGe⟩: ∃G,G=w.heap.size:=⟨_,rfl⟩
 obtain ⟨W1,hW1⟩: ∃W1,W1=w.drew.alloc (.cells row 90):=⟨_,rfl⟩
 have hd:w.drew.heap=w.heap:=rfl;have hG:W1.heap[G]?=some (.cells row 90 (0,0)):=by
  rw [hW1,hGe];simp only [World.alloc];exact Array.getElem?_push_size
 have hcl1: ∀a:Addr,a.block<G->W1.cell? a=w.cell? a:=fun a ha=>by
  rw [hW1];exact World.cell?_of_block (Below.heap_alloc w.drew _ a.block (by rw [hGe] at ha;exact ha))
 have hsp1: ∀j,j<cap*2->(W1.cell? ⟨G,j,none⟩).isSome=true:=fun j hj=>by
  rw [Lib.cell_of_heap hG];simp [hrs,hj]
 have hfz1: ∀j,W1.frozen? ⟨G,j,none⟩=false:=fun j=>Lib.frozen_of_heap hG j;have hcpA: ∀ty dc,(Builtin.copy_ #[58,58] ty #[.slice (some ⟨G,i*2,none⟩) (n+1-i) dc,.slice (some ⟨vb,voff,none⟩) 1 vc]).run Tryz.prog W1= .ok (goInt ((1:Nat):Int)) (W1.setCells G (i*2) vs):=fun ty dc=>by
  rw [Dv (P:=Tryz.prog) W1 58 58 ty 90 i0 G (i*2) (n+1-i) dc ⟨vb,voff,none⟩ 1 vc vs Tryz.underlying58 hi0 (by rw [hvl,hz0,hmin1])
   (fun j v hj=>by rw [Addr.add_lit,hcl1 _ (by rw [hGe];exact hvb)];exact hvs j v hj)
   (fun j hj=>hsp1 _ (by omega)) (fun j hj=>hfz1 _) h1v,hmin1]
 obtain ⟨W2,hW2⟩: ∃W2,W2=W1.setCells G (i*2) vs:=⟨_,rfl⟩
 have hsp2: ∀k,k<cap*2->(W2.cell? ⟨G,k,none⟩).isSome=true:=fun k hk=>by
  rw [hW2];exact isSome_setCells G _ _ _ (fun j hj=>hsp1 _ (by omega)) _ (hsp1 k hk)
 have hcpB: ∀(W:World),(∀x,W.cell? x=W2.cell? x)->(∀x,W.frozen? x=W2.frozen? x)-> ∀ty dc sc,(Builtin.copy_ #[58,58] ty #[.slice (some ⟨G,(i+1)*2,none⟩) (n-i) dc,.slice (some ⟨b,off+i*2,none⟩) (n-i) sc]).run Tryz.prog W= .ok (goInt ((n-i:Nat):Int)) (W.setCells G ((i+1)*2) (cs.drop (i*2))):=fun W hWc hWf ty dc sc=>by
  rw [Dv (P:=Tryz.prog) W 58 58 ty 90 i0 G ((i+1)*2) (n-i) dc ⟨b,off+i*2,none⟩ (n-i) sc (cs.drop (i*2)) Tryz.underlying58 hi0 (by rw [hdl,hmin2,hz0])
   (fun j v hj=>by
    rw [Addr.add_lit,hWc,hW2,World.cell?_setCells_out G _ _ _ _ (fun h _=>absurd h (by show b≠G;omega)),hcl1 _ (by rw [hGe];exact hb),Nat.add_assoc];exact hcs (i*2+j) v (by rwa [List.getElem?_drop] at hj))
   (fun j hj=>by rw [hWc];exact hsp2 _ (by omega)) (fun j hj=>by rw [hWf,hW2,World.frozen?_setCells];exact hfz1 _) (fun v hv=>h1c v (List.mem_of_mem_drop hv)),hmin2]
 rw [<-hW1,<-hGe] at hap;rw [<-hW2] at hcpA;have hE1: ∀x,W2.drew.cell? x=W2.cell? x:=fun _=>rfl;have hE2: ∀x,W2.drew.frozen? x=W2.frozen? x:=fun _=>rfl;have mixed:Tryz.prog.follows .mixedOrders=true:=by kernel_rfl
 have u22:=run_underlying Tryz.underlying58;have z24:=Tryz.sizeOf90;have hw1:IntKind.i64.wrap ((i:Int)+1)=(i:Int)+1:=by rw [IntKind.wrap_i64];omega
 have hb1:(0:Int)<=(i:Int)+1:=by omega
 have htn:((i:Int)+1).toNat=i+1:=by omega
 have hz2: ¬((i:Int)=(n:Int)):=by omega
 have hin:i<=n:=by omega
 have hsub:(n:Int)+1-(i:Int)=((n+1-i:Nat):Int):=by omega
 have hb3:(i:Int)<=(n:Int)+1:=by omega
 have hb5:(i:Int)+1<=(n:Int)+1:=by omega
 have hb6: ¬(cap=i):=by omega
 have hb7: ¬(cap=i+1):=by omega
 have hb8: ¬(c=i):=by omega
 refine (show Calls Tryz.prog 46 #[.slice (some ⟨b,off,none⟩) n c,.int .i64 i,.slice (some ⟨vb,voff,none⟩) 1 vc] w fun e w'=>e= .returned (.slice (some ⟨G,0,none⟩) (n+1) cap)/\w'=W2.drew.setCells G ((i+1)*2) (cs.drop (i*2)) from ?_).mono ?_;rotate_left
 ·rintro e w' ⟨rfl,rfl⟩;exact ⟨cap,row,by rw [hGe],hcg,hrs,by rw [hW2,hW1,hGe],hrt⟩
 clear hGe hW1 hW2 hrow hcap hG
 go_enter Tryz.func46,Tryz.ntmps46
 go_wp2_with (first
  | (at_builtin;refine Lib.wpList_append_run _ rfl _ _ _ _ rfl _ _ rfl rfl _ _ hap ?_)
  | (at_builtin;refine wpList_copy_runI _ rfl _ _ 58 58 rfl _ _ rfl rfl (hcpA _ _) ?_))
 go_region_law_o (refine step_copy_runI rfl _ _ 58 58 rfl (.slice (some ⟨G,(i+1)*2,none⟩) (n-i) (cap-(i+1))) (.slice (some ⟨b,off+i*2,none⟩) (n-i) (c-i)) (by simp [Act.eval,Act.put]) (by simp [Act.eval,Act.put]) (hcpB _ hE1 hE2 3 (cap-(i+1)) (c-i)) ?_)
 go_wp2
 go_ret
 exact ⟨rfl,rfl⟩
end Go.Proofs
end
section
namespace Go.Proofs
open Go.RowKit Go.Shelf Go.Vc Go.Fu
def flat (l:List (Int×Int)):List Value:=l.flatMap fun s=>[Value.int .i64 s.1,Value.int .i64 s.2]
theorem HL (s:Int×Int) (l:List (Int×Int)):flat (s::l)=[Value.int .i64 s.1,Value.int .i64 s.2]++flat l:=by simp [flat]
theorem ay (l m:List (Int×Int)):flat (l++m)=flat l++flat m:=by simp [flat]
theorem QW: ∀l:List (Int×Int),(flat l).length=l.length*2
 | []=>rfl
 | s::l=>by rw [HL,List.length_append,QW l];simp;omega
theorem XF: ∀(l:List (Int×Int)) (i:Nat),(flat l).take (i*2)=flat (l.take i)
 | [],i=>by simp [flat]
 | s::l,0=>by simp [flat]
 | s::l,i+1=>by
  rw [List.take_succ_cons,HL,HL,<-XF l i,show (i+1)*2=i*2+1+1 by omega];simp only [List.cons_append,List.nil_append,List.take_succ_cons]
theorem XC: ∀(l:List (Int×Int)) (i:Nat),(flat l).drop (i*2)=flat (l.drop i)
 | [],i=>by simp [flat]
 | s::l,0=>by simp [flat]
 | s::l,i+1=>by
  rw [List.drop_succ_cons,HL,<-XC l i,show (i+1)*2=i*2+1+1 by omega];simp only [List.cons_append,List.nil_append,List.drop_succ_cons]
theorem az: ∀l:List (Int×Int),∀v∈flat l,v.oneCell'=true:=fun l v hv=>by
 simp only [flat,List.mem_flatMap] at hv;obtain ⟨s,_,h⟩:=hv;simp at h;rcases h with rfl | rfl<;>rfl
theorem QV {l:List (Int×Int)} {i:Nat} {s:Int×Int}:flat (D0 l i s)=(flat l).take (i*2)++flat [s]++(flat l).drop (i*2):=by
 unfold D0;rw [ay,ay,XF,XC,Int.toNat_natCast]
def P2 (w:World) (b off:Nat) (F:List Value):Prop:= ∀(j:Nat) (v:Value),F[j]?=some v->w.cell? ⟨b,off+j,none⟩=some v
theorem dX {W:World} {b off k:Nat} {A vs D:List Value} (hk:A.length=k) (hv:vs.length=2) (hA:P2 W b off A) (hsp: ∀j,j<k+2+D.length->(W.cell? ⟨b,off+j,none⟩).isSome=true):
  P2 ((W.setCells b (off+(k+2)) D).setCells b (off+k) vs) b off (A++vs++D):=fun j v hj=>by
 have hsp1: ∀j,j<k+2+D.length->((W.setCells b (off+(k+2)) D).cell? ⟨b,off+j,none⟩).isSome=true:=fun j hj=>
  isSome_setCells b _ _ _ (fun q hq=>by rw [Nat.add_assoc];exact hsp _ (by omega)) _ (hsp j hj)
 by_cases c1:j<k
 ·rw [List.append_assoc,List.getElem?_append_left (by omega)] at hj;rw [World.cell?_setCells_out b _ _ _ _ (fun _ _=>.inl (by show off+j<off+k;omega)),World.cell?_setCells_out b _ _ _ _ (fun _ _=>.inl (by show off+j<off+(k+2);omega))];exact hA j v hj
 ·by_cases c2:j<k+2
  ·rw [List.getElem?_append_left (by simp;omega),List.getElem?_append_right (by omega)] at hj;have hlt:j-k<vs.length:=by omega
   have:=World.cell?_setCells_in b vs (off+k) (W.setCells b (off+(k+2)) D) (fun q hq=>by rw [Nat.add_assoc];exact hsp1 _ (by omega)) (j-k) hlt;rw [show off+k+(j-k)=off+j by omega] at this;rw [this];rw [hk,List.getElem?_eq_getElem hlt] at hj;exact hj
  ·rw [List.getElem?_append_right (by simp;omega)] at hj;simp only [List.length_append,hk,hv] at hj;have hlt:j-(k+2)<D.length:=(List.getElem?_eq_some_iff.1 hj).1;rw [World.cell?_setCells_out b _ _ _ _ (fun _ _=>.inr (by show off+k+vs.length<=off+j;omega))];have:=World.cell?_setCells_in b D (off+(k+2)) W (fun q hq=>by rw [Nat.add_assoc];exact hsp _ (by omega)) (j-(k+2)) hlt;rw [show off+(k+2)+(j-(k+2))=off+j by omega] at this;rw [this,<-List.getElem?_eq_getElem hlt];exact hj
theorem mI {W:World} {b off k:Nat} {A vs D:List Value} (hk:A.length=k) (hv:vs.length=2) (hA:P2 W b off A) (hsp: ∀j,j<k+2+D.length->(W.cell? ⟨b,off+j,none⟩).isSome=true):
  P2 (((W.setCells b (off+k) vs).drew).setCells b (off+(k+2)) D) b off (A++vs++D):=fun j v hj=>by
 have hsp1: ∀j,j<k+2+D.length->((W.setCells b (off+k) vs).drew.cell? ⟨b,off+j,none⟩).isSome=true:=fun j hj=>
  isSome_setCells b _ _ _ (fun q hq=>by rw [Nat.add_assoc];exact hsp _ (by omega)) _ (hsp j hj)
 by_cases c1:j<k
 ·rw [List.append_assoc,List.getElem?_append_left (by omega)] at hj;rw [World.cell?_setCells_out b _ _ _ _ (fun _ _=>.inl (by show off+j<off+(k+2);omega))];show (W.setCells b (off+k) vs).cell? _=_;rw [World.cell?_setCells_out b _ _ _ _ (fun _ _=>.inl (by show off+j<off+k;omega))];exact hA j v hj
 ·by_cases c2:j<k+2
  ·rw [List.getElem?_append_left (by simp;omega),List.getElem?_append_right (by omega)] at hj;have hlt:j-k<vs.length:=by omega
   rw [World.cell?_setCells_out b _ _ _ _ (fun _ _=>.inl (by show off+j<off+(k+2);omega))];show (W.setCells b (off+k) vs).cell? _=_;have:=World.cell?_setCells_in b vs (off+k) W (fun q hq=>by rw [Nat.add_assoc];exact hsp _ (by omega)) (j-k) hlt;rw [show off+k+(j-k)=off+j by omega] at this;rw [this];rw [hk,List.getElem?_eq_getElem hlt] at hj;exact hj
  ·rw [List.getElem?_append_right (by simp;omega)] at hj;simp only [List.length_append,hk,hv] at hj;have hlt:j-(k+2)<D.length:=(List.getElem?_eq_some_iff.1 hj).1;have:=World.cell?_setCells_in b D (off+(k+2)) (W.setCells b (off+k) vs).drew (fun q hq=>by rw [Nat.add_assoc];exact hsp1 _ (by omega)) (j-(k+2)) hlt;rw [show off+(k+2)+(j-(k+2))=off+j by omega] at this;rw [this,<-List.getElem?_eq_getElem hlt];exact hj
theorem xQ (b:Nat): ∀(vs:List Value) (o:Nat) (w:World),(∀k,k≠b->(w.setCells b o vs).heap[k]?=w.heap[k]?)/\(w.setCells b o vs).heap.size=w.heap.size/\(w.setCells b o vs).os=w.os/\(w.setCells b o vs).tape=w.tape/\(w.setCells b o vs).output=w.output
 | [],_,_=>⟨fun _ _=>rfl,rfl,rfl,rfl,rfl⟩
 | v::r,o,w=>by
  obtain ⟨h1,h2,h3,h4,h5⟩:=xQ b r (o+1) (w.setCell ⟨b,o,none⟩ v);rw [World.setCells];refine ⟨fun k hk=>(h1 k hk).trans (Below.heap_setCell _ _ _ _ (fun e=>hk (by simpa using e))),h2.trans (by simp [World.setCell]),h3,h4,h5⟩
theorem LK {B b:Nat} (hB:B<=b) (vs:List Value) (o:Nat) (w:World):Below B w (w.setCells b o vs):=by
 obtain ⟨h1,h2,h3,h4,h5⟩:=xQ b vs o w;exact ⟨h3,h4,h5,by rw [h2];exact Nat.le_refl _,fun k hk=>h1 k (by omega)⟩
end Go.Proofs
end
section
namespace Go.Proofs
open Go.RowKit Go.Shelf Go.Vc Go.Fu
theorem cz {E:Env} {fz:Nat->Prop} {w:World}: ∀(l:List (Int×Int)) (vs:List Value),AZ E fz w (l.flatMap fun s:Int×Int=>BQ Gt s) vs->vs=flat l
 | [],vs,h=>h
 | s::l,vs,h=>by
  obtain ⟨_,_,rfl,rfl,_,us,rfl,rfl,h3⟩: ∃v us,vs=v::us/\v= .int .i64 s.1/\ ∃v2 us2,us=v2::us2/\v2= .int .i64 s.2/\AZ E fz w (l.flatMap fun s:Int×Int=>BQ Gt s) us2:=h;rw [cz l us h3,HL];rfl
theorem cD {w w':World} {F:List Value} {row:List Value} {rest:List Value} (h:w'.heap=w.heap.push (.cells (row++rest).toArray 90 (0,0))) (e:row=F):P2 w' w.heap.size 0 F:=fun j v hj=>by
 have hg:w'.heap[w.heap.size]?=some (.cells (row++rest).toArray 90 (0,0)):=by rw [h];exact Array.getElem?_push_size
 subst e;have hlt:j<row.length:=(List.getElem?_eq_some_iff.1 hj).1;rw [Nat.zero_add,CL hg,List.getElem?_toArray,List.getElem?_append_left hlt];exact hj
theorem Xc {B:Nat} {w w':World} {o:Obj} (hB:B<=w.heap.size) (h:w'.heap=w.heap.push o) (h1:w'.os=w.os) (h2:w'.output=w.output) (h3:w'.tape=w.tape):Below B w w':=
 ⟨h1,h3,h2,by rw [h];simp,fun k hk=>by rw [h,Array.getElem?_push_lt (by omega)];simp [show k<w.heap.size by omega]⟩
theorem G4 (B:Nat) (w:World):Below B w w.drew:=⟨rfl,rfl,rfl,Nat.le_refl _,fun _ _=>rfl⟩
def TU (w0:Nat) (l:List (Int×Int)) (v:Value) (w:World):Prop:=
 (l=[]/\ ∃a,v= .slice a 0 0)\/ ∃b base c cap arr tt lo hi,v= .slice (some ⟨b,base,none⟩) l.length c/\l.length<=c/\c*2<=cap/\w0<=b/\w.heap[b]?=some (.cells arr tt (lo,hi))/\base+cap<=arr.size/\
  (lo=hi\/arr.size<=lo)/\P2 w b base (flat l)/\c<=9223372036854775807
theorem fO (l:List (Int×Int)) (i:Nat) (s:Int×Int) (hi:i<=l.length) (hs:l.length<=100000) (v:Value) (w0:Nat) (w:World) (h:TU w0 l v w) (vb:Nat)
  (hv:w.heap[vb]?=some (.cells #[.int .i64 s.1,.int .i64 s.2] 90 (0,0))) (hw0:w0<=vb) (hne:l≠[]-> ∀b base n c,v= .slice (some ⟨b,base,none⟩) n c->vb≠b):
  Calls Tryz.prog 46 #[v,.int .i64 i,.slice (some ⟨vb,0,none⟩) 1 1] w fun e w'=> ∃bI base c,e= .returned (.slice (some ⟨bI,base,none⟩) (l.length+1) c)/\l.length+1<=c/\w0<=bI/\bI<w'.heap.size/\P2 w' bI base (flat (D0 l i s))/\Below w0 w w':=by
 have vlt:vb<w.heap.size:=(Array.getElem?_eq_some_iff.1 hv).1;have hvs: ∀j u,[Value.int .i64 s.1,Value.int .i64 s.2][j]?=some u->w.cell? ⟨vb,0+j,none⟩=some u:=fun j u hj=>by
  rw [Nat.zero_add,CL hv];simpa using hj
 have h1v: ∀u∈[Value.int .i64 s.1,Value.int .i64 s.2],u.oneCell'=true:=fun u hu=>by
  simp at hu;rcases hu with rfl | rfl<;>rfl
 have fl:=QW l;rcases h with ⟨rfl,a,rfl⟩ | ⟨b,base,c,cap,arr,tt,lo,hi2,rfl,g1,g2,g3,g4,g5,g6,r3,hc63⟩
 ·have hi0:i<=0:=hi;obtain rfl:i=0:=by omega
  refine (Qf a 0 0 vb 0 1 [] [.int .i64 s.1,.int .i64 s.2] w (by omega) (by omega) (by omega) rfl rfl (fun _=>rfl) (fun a _ j v hj=>by simp at hj) hvs h1v).mono ?_;rintro e w' ⟨cap,rest,rfl,k1,k2,k3,k4,k5,k6⟩;exact ⟨w.heap.size,0,cap,rfl,k1,by omega,by rw [k3];simp,cD k3 rfl,Xc (by omega) k3 k4 k5 k6⟩
 ·have r2:=az l;have hne':i<l.length->vb≠b:=fun q=>hne (fun e=>by rw [e] at q;simp at q) b base l.length c rfl;have hfz: ∀j,j<cap->w.frozen? ⟨b,base+j,none⟩=false:=fun j hj=>by
   rw [GF g4];rcases g6 with g6 | g6
   ·subst g6;by_cases q:lo<=base+j
    ·have: ¬base+j<lo:=by omega
     simp [this]
    ·simp [q]
   ·have: ¬lo<=base+j:=by omega
    simp [this]
  have hsp: ∀j,j<cap->(w.cell? ⟨b,base+j,none⟩).isSome=true:=fun j hj=>by
   rw [CL g4];simp;omega
  have blt:b<w.heap.size:=(Array.getElem?_eq_some_iff.1 g4).1;have hca:c*2<=cap:=g2;by_cases hin:i=l.length
  ·subst hin;have e0:(flat l).take (l.length*2)=flat l:=List.take_of_length_le (by omega);have e1:(flat l).drop (l.length*2)=[]:=List.drop_eq_nil_of_le (by omega);by_cases hroom:l.length+1<=c
   ·refine (Yt b base l.length c vb 0 1 [.int .i64 s.1,.int .i64 s.2] w hroom hc63 rfl (fun j hj=>by rw [Nat.add_assoc];exact hsp _ (by omega)) (fun j hj=>by rw [Nat.add_assoc];exact hfz _ (by omega)) hvs h1v).mono ?_;rintro e w' ⟨rfl,rfl⟩;refine ⟨b,base,c,rfl,hroom,g3,by rw [(xQ _ _ _ _).2.1];exact blt,?_,LK g3 _ _ _⟩;have:=dX (W:=w) (b:=b) (off:=base) (k:=l.length*2) (A:=flat l) (vs:=[.int .i64 s.1,.int .i64 s.2]) (D:=[]) (by omega) rfl r3 (fun j hj=>hsp j (by simp at hj;omega));rw [QV,e0,e1];exact this
   ·refine (Qf (some ⟨b,base,none⟩) l.length c vb 0 1 (flat l) [.int .i64 s.1,.int .i64 s.2] w (by omega) g1 (by omega) fl rfl (fun q=>by cases q) (fun a ha j v hj=>by cases ha;rw [Addr.add_lit];exact r3 j v hj) hvs h1v).mono ?_;rintro e w' ⟨cap',rest,rfl,k1,k2,k3,k4,k5,k6⟩;exact ⟨w.heap.size,0,cap',rfl,k1,by omega,by rw [k3];simp,cD k3 (by rw [QV,e0,e1,List.append_nil];rfl),Xc (by omega) k3 k4 k5 k6⟩
  ·have hlt:i<l.length:=by omega
   by_cases hroom:l.length+1<=c
   ·refine (km b base l.length c i vb 0 1 (flat l) [.int .i64 s.1,.int .i64 s.2] w hlt hroom hc63 (hne' hlt) fl rfl r3 (fun j hj=>hsp j (by omega)) (fun j hj=>hfz j (by omega)) hvs r2 h1v 90 tt 2 arr.size (by simp [World.shape?,hv]) (by simp [World.shape?,g4]) (by omega) (by rw [GF hv];simp) (by rw [GF hv];simp)).mono ?_;rintro e w' ⟨rfl,rfl⟩;refine ⟨b,base,c,rfl,hroom,g3,by rw [(xQ _ _ _ _).2.1,(xQ _ _ _ _).2.1];exact blt,?_,((G4 w0 w).trans (LK g3 _ _ _)).trans (LK g3 _ _ _)⟩;have:=dX (W:=w.drew) (b:=b) (off:=base) (k:=i*2) (A:=(flat l).take (i*2)) (vs:=[.int .i64 s.1,.int .i64 s.2]) (D:=(flat l).drop (i*2)) (by rw [List.length_take];omega) rfl
     (fun j v hj=>r3 j v (by rw [List.getElem?_take] at hj;split at hj<;>simp_all)) (fun j hj=>hsp j (by rw [List.length_drop] at hj;omega))
    rw [QV];rw [show (i+1)*2=i*2+2 by omega];exact this
   ·refine (ny b base l.length c i vb 0 1 (flat l) [.int .i64 s.1,.int .i64 s.2] w hlt (by omega) g1 (by omega) fl rfl blt vlt r3 hvs r2 h1v).mono ?_;rintro e w' ⟨cap',row,rfl,k1,k2,rfl,k3⟩;have hg:(w.drew.alloc (.cells row 90)).heap[w.heap.size]?=some (.cells row 90 (0,0)):=by
     simp only [World.alloc];exact Array.getElem?_push_size
    have bl:Below w0 w (w.drew.alloc (.cells row 90)):=(G4 w0 w).trans ((Below.refl w0 w.drew).alloc (by show w0<=w.heap.size;omega) _);have ts:=mI (W:=w.drew.alloc (.cells row 90)) (b:=w.heap.size) (off:=0) (k:=i*2) (A:=(flat l).take (i*2)) (vs:=[.int .i64 s.1,.int .i64 s.2]) (D:=(flat l).drop (i*2)) (by rw [List.length_take];omega) rfl
     (fun j v hj=>by
      rw [<-k3] at hj;rw [Nat.zero_add,CL hg];rw [List.getElem?_take] at hj;split at hj
      ·simpa using hj
      ·cases hj) (fun j hj=>by rw [Nat.zero_add,CL hg];rw [List.length_drop] at hj;simp;omega)
    rw [Nat.zero_add,Nat.zero_add] at ts;refine ⟨w.heap.size,0,cap',rfl,k1,by omega,?_,?_,?_⟩
    ·rw [(xQ _ _ _ _).2.1];show _<((w.drew.alloc (.cells row 90)).setCells w.heap.size (i*2) _).heap.size;rw [(xQ _ _ _ _).2.1];simp [World.alloc]
    ·rw [QV,show (i+1)*2=i*2+2 by omega];exact ts
    ·exact ((bl.trans (LK (by omega) _ _ _)).trans (G4 w0 _)).trans (LK (by omega) _ _ _)
end Go.Proofs
end
section
namespace Go.Proofs
open Go.RowKit Go.Shelf Go.Vc Go.Fu
def eD (l:List (Int×Int)) (v:Value) (w:World):Prop:=
 (l=[]/\ ∃a c,v= .slice a 0 c)\/ ∃b off c,v= .slice (some ⟨b,off,none⟩) l.length c/\l.length<=c/\b<w.heap.size/\P2 w b off (flat l)
theorem YO (a:Option Addr) (n c:Nat) (W:World):(binOp .eql 58 (.slice a n c) (.slice none 0 0)).run Tryz.prog W= .ok (.bool a.isNone) W:=by
 simp only [binOp];simp [run_equal_slice_nil W 58 90 a n c Tryz.underlying58]
set_option maxHeartbeats 4000000 in
set_option maxRecDepth 100000 in
theorem kE (c:Nat) (w:World):Calls Tryz.prog 47 #[.slice none 0 c] w fun e w'=>e= .returned (.slice none 0 0)/\w'=w:=by
 have hb:=YO none 0 c
 go_enter Tryz.func47,Tryz.ntmps47
 go_wp2
 go_ret
 exact ⟨rfl,rfl⟩
set_option maxHeartbeats 4000000 in
set_option maxRecDepth 100000 in
theorem ed (b off n c:Nat) (cs:List Value) (w:World) (hbig:n<=100000) (hcl:cs.length=n*2) (hlt:b<w.heap.size) (hcs:P2 w b off cs) (h1: ∀v∈cs,v.oneCell'=true):Calls Tryz.prog 47 #[.slice (some ⟨b,off,none⟩) n c] w fun e w'=> ∃v,e= .returned v/\Below w.heap.size w w'/\
  ((n=0/\ ∃a,v= .slice a 0 0)\/ ∃(cap:Nat) (rest:List Value) (bN:Nat),v= .slice (some ⟨bN,0,none⟩) n cap/\n<=cap/\cap<=9223372036854775807/\rest.length=(cap-n)*2/\w.heap.size<=bN/\w'.heap[bN]?=some (.cells (cs++rest).toArray 90 (0,0))):=by
 have hb:=YO (some ⟨b,off,none⟩) n c;obtain ⟨i0,hi0,hz0,hby,z,hz,hzc⟩:=Li;obtain ⟨W,hW⟩: ∃W,W=w.alloc (.cells #[] 90):=⟨_,rfl⟩
 have bW:Below w.heap.size w W:=by rw [hW];exact (Below.refl _ w).alloc (Nat.le_refl _) _
 have sW:w.heap.size<W.heap.size:=by rw [hW];show w.heap.size<(w.heap.push _).size;rw [Array.size_push];omega
 have hcs':P2 W b off cs:=fun j v hj=>by
  rw [World.cell?_of_block (a:=⟨b,off+j,none⟩) (bW.block b hlt)];exact hcs j v hj
 by_cases hn:n=0
 ·subst hn;have hrun: ∀ty,(Builtin.append_ #[58,58] ty #[.slice (some ⟨w.heap.size,0,none⟩) 0 0,.slice (some ⟨b,off,none⟩) 0 c]).run Tryz.prog W= .ok (.slice (some ⟨w.heap.size,0,none⟩) 0 0) W:=fun ty=>by
   rw [Dd (P:=Tryz.prog) (w:=W) (base:=some ⟨w.heap.size,0,none⟩) (sLen:=0) (sCap:=0) (n:=0) (news:=[]) (i:=i0) (t:=58) (u:=58) rfl rfl rfl rfl Tryz.underlying58 Tryz.underlying58 (.inl ⟨_,rfl⟩) hi0 (by simp [Builtin.lenOf])
    (run_firstCells_some (P:=Tryz.prog) W i0.size 0 ⟨b,off,none⟩ 0 c [] (by simp) fun j v hj=>by simp at hj) (by omega)]
   rfl
  rw [hW] at hrun bW
  go_enter Tryz.func47,Tryz.ntmps47
  go_wp2_with (at_builtin;refine Lib.wpList_append_run _ rfl _ _ _ _ rfl _ _ rfl rfl _ _ (hrun _) ?_)
  go_ret
  exact ⟨_,rfl,bW,.inl ⟨trivial,_,rfl⟩⟩
 ·have hcell: ∀w':World,w'.heap=W.heap-> ∀a:Addr,w'.cell? a=W.cell? a:=fun w' hw a=>by unfold World.cell?;rw [hw]
  obtain ⟨w1,rest,cap,⟨k1,k0⟩,k2,k3,k4,k5,k6,k7⟩:=Th (P:=Tryz.prog) (w:=W) (ats:= #[58,58]) (ty:=58) (args:= #[.slice (some ⟨w.heap.size,0,none⟩) 0 0,.slice (some ⟨b,off,none⟩) n c]) (base:=some ⟨w.heap.size,0,none⟩) (sLen:=0) (sCap:=0) (n:=n) (olds:=[]) (news:=cs) (i:=i0) (z:=z) (t:=58) (u:=58) rfl rfl rfl rfl Tryz.underlying58 Tryz.underlying58 (.inl ⟨_,rfl⟩) hi0 hz (by rw [hby];decide)
   (fun w'=>by simp [Builtin.lenOf]) (fun w' hw=>run_firstCells_some (P:=Tryz.prog) w' i0.size n ⟨b,off,none⟩ n c cs (by rw [hcl,hz0]) fun j v hj=>by rw [Addr.add_lit,hcell w' hw];exact hcs' j v hj)
   (fun w' hw=>run_firstCells_some (P:=Tryz.prog) w' i0.size 0 ⟨w.heap.size,0,none⟩ 0 0 [] (by simp) fun j v hj=>by simp at hj) (by omega) (by rw [hby];omega)
  have k8: ∃bN,bN=W.heap.size:=⟨_,rfl⟩
  obtain ⟨bN,hbN⟩:=k8;rw [<-hbN] at k3;have kg:w1.heap[bN]?=some (.cells (cs++rest).toArray 90 (0,0)):=by rw [k4,hbN];exact Array.getElem?_push_size
  have kb:Below w.heap.size w w1:=bW.trans ⟨k5,k7.1,k6,by rw [k4];simp,fun k hk=>by rw [k4,Array.getElem?_push_lt (by omega)];simp [show k<W.heap.size by omega]⟩;have kl:w.heap.size<=bN:=by omega
  simp only [Nat.zero_add] at k1 k2 k3;rw [hzc] at k2;have HK:=Lib.hid k2;have HG:=Lib.hid kg;clear k2 kg hbN k4 k5 k6 k7;rw [hW] at k3;clear hcs hcs' sW bW hcell h1 hW
  go_enter Tryz.func47,Tryz.ntmps47
  go_wp2_with (at_builtin;refine Lib.wpList_append_run _ rfl _ _ _ _ rfl _ _ rfl rfl _ _ k3 ?_)
  go_ret
  exact ⟨_,rfl,kb,.inr ⟨cap,rest,bN,rfl,k1,k0,HK.out,kl,HG.out⟩⟩
end Go.Proofs
end
section
namespace Go.Proofs
open Go.RowKit Go.Shelf Go.Vc Go.Fu
theorem XD: ∀(l:List (Int×Int)) (j:Nat) (s:Int×Int),l[j]?=some s->(flat l)[j*2]?=some (.int .i64 s.1)/\(flat l)[j*2+1]?=some (.int .i64 s.2)
  | [],j,s,h=>by simp at h
  | a::l,0,s,h=>by
    simp at h;subst h;rw [HL];exact ⟨rfl,rfl⟩
  | a::l,j+1,s,h=>by
    have:=XD l j s (by simpa using h);rw [HL,show (j+1)*2=j*2+1+1 by omega];simpa using this
theorem rG {w:World} {b off:Nat} {l:List (Int×Int)} (h:P2 w b off (flat l)):mg w b off l:=fun j s hj=>by
  obtain ⟨h1,h2⟩:=XD l j s hj;exact ⟨h _ _ h1,by rw [Nat.add_assoc];exact h _ _ h2⟩
theorem eD.below {l:List (Int×Int)} {v:Value} {w W:World} (h:eD l v w) (hb:Below w.heap.size w W):eD l v W:=by
  rcases h with h | ⟨b,off,c,h1,h2,h3,h4⟩
  · exact .inl h
  · exact .inr ⟨b,off,c,h1,h2,Nat.lt_of_lt_of_le h3 hb.size,fun j v hj=>by
      rw [World.cell?_of_block (a:=⟨b,off+j,none⟩) (hb.block b h3)];exact h4 j v hj⟩
set_option maxHeartbeats 4000000 in
set_option maxRecDepth 100000 in
theorem te (a:Option Addr) (c:Nat) (lo:Int) (w:World):Calls Tryz.prog 43 #[.slice a 0 c,.int .i64 lo,.func (.func 44) #[] #[]] w fun e w'=> ∃(i:Nat) (f:Bool),e= .returned (.tuple #[.int .i64 i,.bool f])/\i=0/\w'=w:=by
  go_enter Tryz.func43,Tryz.ntmps43
  go_wp2
  go_loopw [9,10] (fun vi vj wr=>vi= .int .i64 0/\vj= .int .i64 0/\wr=w) (fun i j _=>0)
  case atStart=>exact ⟨rfl,rfl,rfl⟩
  case round=>
    obtain ⟨rfl,rfl,rfl⟩:=hrel
    go_wp2
    go_ret2
    exact ⟨0,_,rfl,rfl,rfl⟩
def tV (l:List (Int×Int)) (lo:Int) (i:Nat):Prop:=i<=l.length/\(∀j s,j<i->l[j]?=some s->s.1<lo)/\(∀j s,i<=j->l[j]?=some s->lo<=s.1)
theorem td (l:List (Int×Int)) (lo:Int) (hlo: -1000000<=lo/\lo<=1000000) (hl: ∀s∈l,-1000000<=s.1/\s.1<=1000000) (hn:l.length<=1000000) (asc: ∀i j:Nat,i<=j-> ∀s t,l[i]?=some s->l[j]?=some t->s.1<=t.1)
    (v:Value) (w:World) (h:eD l v w):
    Calls Tryz.prog 43 #[v,.int .i64 lo,.func (.func 44) #[] #[]] w fun e w'=> ∃(i:Nat) (f:Bool),e= .returned (.tuple #[.int .i64 i,.bool f])/\tV l lo i/\Below w.heap.size w w':=by
  rcases h with ⟨rfl,a,c,rfl⟩ | ⟨b,off,c,rfl,h2,h3,h4⟩
  · refine (te a c lo w).mono ?_
    rintro e w' ⟨i,f,rfl,rfl,rfl⟩;exact ⟨0,f,rfl,⟨Nat.le_refl _,fun j s h=>absurd h (Nat.not_lt_zero _),fun j s _ h=>by simp at h⟩,Below.refl _ _⟩
  · refine (qf l lo hlo hl hn asc b off c w h3 (rG h4)).mono ?_
    rintro e w' ⟨i,f,rfl,g1,g2,g3,g4⟩;exact ⟨i,f,rfl,⟨g1,g2,g3⟩,g4⟩
set_option maxHeartbeats 4000000 in
set_option maxRecDepth 100000 in
theorem ee (ad:Addr) (c:Nat) (w:World):Calls Tryz.prog 47 #[.slice (some ad) 0 c] w fun e w'=> ∃v,e= .returned v/\Below w.heap.size w w'/\ ∃a,v= .slice a 0 0:=by
  have hb:=YO (some ad) 0 c;obtain ⟨i0,hi0,hz0,hby,z,hz,hzc⟩:=Li;obtain ⟨W,hW⟩: ∃W,W=w.alloc (.cells #[] 90):=⟨_,rfl⟩
  have bW:Below w.heap.size w W:=by rw [hW];exact (Below.refl _ w).alloc (Nat.le_refl _) _
  have hrun: ∀ty,(Builtin.append_ #[58,58] ty #[.slice (some ⟨w.heap.size,0,none⟩) 0 0,.slice (some ad) 0 c]).run Tryz.prog W= .ok (.slice (some ⟨w.heap.size,0,none⟩) 0 0) W:=fun ty=>by
    rw [Dd (P:=Tryz.prog) (w:=W) (base:=some ⟨w.heap.size,0,none⟩) (sLen:=0) (sCap:=0) (n:=0) (news:=[]) (i:=i0) (t:=58) (u:=58) rfl rfl rfl rfl Tryz.underlying58 Tryz.underlying58 (.inl ⟨_,rfl⟩) hi0 (by simp [Builtin.lenOf])
      (run_firstCells_some (P:=Tryz.prog) W i0.size 0 ad 0 c [] (by simp) fun j v hj=>by simp at hj) (by omega)]
    rfl
  rw [hW] at hrun bW
  go_enter Tryz.func47,Tryz.ntmps47
  go_wp2_with (at_builtin;refine Lib.wpList_append_run _ rfl _ _ _ _ rfl _ _ rfl rfl _ _ (hrun _) ?_)
  go_ret
  exact ⟨_,rfl,bW,_,rfl⟩
theorem kD (l:List (Int×Int)) (hn:l.length<=100000) (v:Value) (w:World) (h:eD l v w):Calls Tryz.prog 47 #[v] w fun e w'=> ∃u,e= .returned u/\Below w.heap.size w w'/\TU w.heap.size l u w':=by
  rcases h with ⟨rfl,a,c,rfl⟩ | ⟨b,off,c,rfl,h2,h3,h4⟩
  · cases a with
    | none=>
      refine (kE c w).mono ?_;rintro e w' ⟨rfl,rfl⟩;exact ⟨_,rfl,Below.refl _ _,.inl ⟨rfl,none,rfl⟩⟩
    | some a=>
      refine (ee a c w).mono ?_;rintro e w' ⟨v,rfl,hb,a,rfl⟩;exact ⟨_,rfl,hb,.inl ⟨rfl,a,rfl⟩⟩
  · refine (ed b off l.length c (flat l) w hn (QW l) h3 h4 (az l)).mono ?_
    rintro e w' ⟨u,rfl,hb,⟨h0,a,rfl⟩ | ⟨cap,rest,bN,rfl,k1,k2,k3,k4,k5⟩⟩
    · exact ⟨_,rfl,hb,.inl ⟨List.eq_nil_of_length_eq_zero h0,a,rfl⟩⟩
    · refine ⟨_,rfl,hb,.inr ⟨bN,0,cap,cap*2,_,90,0,0,rfl,k1,Nat.le_refl _,k4,k5,?_,.inl rfl,?_,k2⟩⟩
      · have:=QW l;simp;omega
      · intro j x hj
        have hlt:j<(flat l).length:=(List.getElem?_eq_some_iff.1 hj).1;rw [Nat.zero_add,CL k5,List.getElem?_toArray,List.getElem?_append_left hlt];exact hj
theorem _root_.Go.Vc.AU.tail {P:Program} {f:FuncId} {args:List AA} {R:AA->AB->Prop} (h:AU P f args [] R) (hc:Cy P f=true) (hd: ¬Dm) {E:Env} {fz g:Nat->Prop} {w W:World} {vals:List Value} (st:St E fz [] w) (hb:Below w.heap.size w W)
    (hg: ∀b,g b->w.heap.size<=b/\b<W.heap.size) (hr:AZ E (fun b=>fz b\/g b) W args vals):
    Calls P f vals.toArray W fun e w'=> ∃r S' v E' fz',e= .returned v/\Ext E fz [] w E' fz' S' w'/\St E' fz' S' w'/\Rel E' fz' w' r v/\R r S':=by
  have stW:St E (fun b=>fz b\/g b) [] W:=⟨fun l o h=>by simp at h,fun l l' b ⟨o,q,_⟩=>by simp at q,fun b hb'=>hb'.elim (fun q=>Nat.lt_of_lt_of_le (st.Fx b q) hb.size) fun q=>(hg b q).2,st.fresh⟩
  refine ((h.out E _ W vals stW hr).calls hc).mono ?_;rintro e w' ⟨r,S',v,E',fz',h1,h2,h3,h4,h5⟩;refine ⟨r,S',v,E',fz',h1,⟨h2.env,fun b q=>h2.WI b (.inl q),fun b q=>?_,fun b q _=>?_,fun b q=>?_,Nat.le_trans hb.size h2.size,h2.os.trans hb.os,h2.output.trans hb.output,⟨h2.tape.1.trans hb.tape,fun d=>absurd d hd⟩⟩,h3,h4,h5⟩
  · rcases h2.Gi b q with (q | q) | q | q
    · exact .inl q
    · exact .inr (.inr (hg b q).1)
    · exact absurd q f_
    · exact .inr (.inr (Nat.le_trans hb.size q))
  · rw [h2.AW b (Nat.lt_of_lt_of_le q hb.size) f_,hb.block b q]
  · rcases h2.own b q with q | q
    · exact absurd q f_
    · exact .inr (Nat.le_trans hb.size q)
theorem kT {E:Env} {fz:Nat->Prop} {w:World} {b off:Nat} {l:List (Int×Int)} (h:P2 w b off (flat l)):CR E fz w b off (l.flatMap fun s:Int×Int=>BQ Gt s):=
  CR.mk fun i x hx=>by
    have e: ∀(l:List (Int×Int)) (i:Nat) (x:AA),(l.flatMap fun s:Int×Int=>BQ Gt s)[i]?=some x-> ∃z:Int,x= .int .i64 z/\(flat l)[i]?=some (.int .i64 z):=by
      intro l
      induction l with
      | nil=>intro i x h;simp at h
      | cons s l ih=>
        intro i x h;rw [HL];rw [List.flatMap_cons] at h
        match i,h with
        | 0,h=>exact ⟨s.1,by simpa [BQ,Gg] using h.symm,rfl⟩
        | 1,h=>exact ⟨s.2,by simpa [BQ,Gg] using h.symm,rfl⟩
        | i+2,h=>simpa using ih i x (by simpa [BQ,Gg] using h)
    obtain ⟨z,rfl,hz⟩:=e l i x hx;exact ⟨_,h i _ hz,rfl,by simp only [Rel]⟩
theorem TU.below {w0:Nat} {l:List (Int×Int)} {v:Value} {w W:World} (h:TU w0 l v w) (hb:Below w.heap.size w W):TU w0 l v W:=by
  rcases h with h | ⟨b,base,c,cap,arr,tt,lo,hi,h1,h2,h3,h4,h5,h6,h7,h8,h9⟩
  · exact .inl h
  · have hlt:b<w.heap.size:=(Array.getElem?_eq_some_iff.1 h5).1
    exact .inr ⟨b,base,c,cap,arr,tt,lo,hi,h1,h2,h3,h4,by rw [hb.block b hlt];exact h5,h6,h7,fun j v hj=>by
      rw [World.cell?_of_block (a:=⟨b,base+j,none⟩) (hb.block b hlt)];exact h8 j v hj,h9⟩
theorem TU.le {w0 w1:Nat} {l:List (Int×Int)} {v:Value} {w:World} (h:TU w1 l v w) (hw:w0<=w1):TU w0 l v w:=by
  rcases h with h | ⟨b,base,c,cap,arr,tt,lo,hi,h1,h2,h3,h4,h5,h6,h7,h8,h9⟩
  · exact .inl h
  · exact .inr ⟨b,base,c,cap,arr,tt,lo,hi,h1,h2,h3,Nat.le_trans hw h4,h5,h6,h7,h8,h9⟩
theorem TU.lt {w0:Nat} {l:List (Int×Int)} {v:Value} {w:World} (h:TU w0 l v w) {b base n c:Nat} (hv:v= .slice (some ⟨b,base,none⟩) n c) (hn:l≠[]):w0<=b/\b<w.heap.size:=by
  rcases h with h | ⟨b',base',c',cap,arr,tt,lo,hi,h1,h2,h3,h4,h5,h6,h7,h8,h9⟩
  · exact absurd h.1 hn
  · rw [hv] at h1
    simp only [Value.slice.injEq,Option.some.injEq,Addr.mk.injEq] at h1;obtain ⟨⟨rfl,_,_⟩,_,_⟩:=h1;exact ⟨h4,(Array.getElem?_eq_some_iff.1 h5).1⟩
def Zv (l:List (Int×Int)) (s:Int×Int) (E:Env) (fz:Nat->Prop) (w:World) (e:Ending) (w':World):Prop:=
  ∃r S' v E' fz',e= .returned v/\Ext E fz [] w E' fz' S' w'/\St E' fz' S' w'/\Rel E' fz' w' r v/\pU C3.res (E8 l s) r S'
def qP (l:List (Int×Int)) (i:Nat) (s:Int×Int) (w0:Nat) (w:World) (e:Ending) (w':World):Prop:=
  ∃bI base c,e= .returned (.slice (some ⟨bI,base,none⟩) (l.length+1) c)/\l.length+1<=c/\w0<=bI/\bI<w'.heap.size/\P2 w' bI base (flat (D0 l i s))/\Below w0 w w'
theorem qU {l:List (Int×Int)} (hl:D1 l): ∀i j:Nat,i<=j-> ∀s t,l[i]?=some s->l[j]?=some t->s.1<=t.1:=fun i j hij s t hs ht=>by
  have pw: ∀ {l:List Span} {a:Int},JW a l->l.Pairwise fun a b=>a.1<=b.1:=by
    intro l
    induction l with
    | nil=>intro a _;exact .nil
    | cons s l ih=>
      intro a h;refine .cons (fun b hb=>?_) (ih h.2.2.2);have:=GL h.2.2.2 b hb;have:=h.2.1;omega
  obtain ⟨h1,e1⟩:=List.getElem?_eq_some_iff.1 hs;obtain ⟨h2,e2⟩:=List.getElem?_eq_some_iff.1 ht;rcases Nat.lt_or_ge i j with h | h
  · have:=List.pairwise_iff_getElem.1 (pw hl.2) i j h1 h2 h
    rw [e1,e2] at this;exact this
  · obtain rfl:i=j:=by omega
    rw [hs] at ht;cases ht;exact Int.le_refl _
set_option maxHeartbeats 8000000 in
set_option maxRecDepth 100000 in
theorem mL (hd: ¬Dm) (hJ:BS Tryz.prog 45 C3) (l:List (Int×Int)) (s:Int×Int) (hl:D1 l) (hs:FI s) (v:Value) {E:Env} {fz:Nat->Prop} (w:World) (st:St E fz [] w) (hv:eD l v w):
    Calls Tryz.prog 25 #[v,.agg #[.int .i64 s.1,.int .i64 s.2]] w (Zv l s E fz w):=by
  have hm: ∀x∈l,FI x:=fun x hx=>by
    have:=GL hl.2 x hx;exact ⟨by omega,by omega,this.2.2⟩
  have hlen:l.length<=100000:=hl.1;have hasc: ∀i j:Nat,i<=j-> ∀s t,l[i]?=some s->l[j]?=some t->s.1<=t.1:=qU hl;have hbs: ∀W,Below w.heap.size w W->Calls Tryz.prog 43 #[v,.int .i64 s.1,.func (.func 44) #[] #[]] W fun e w'=> ∃(i:Nat) (f:Bool),e= .returned (.tuple #[.int .i64 i,.bool f])/\tV l s.1 i/\Below W.heap.size W w':=fun W hb=>
    td l s.1 ⟨by have:=hs.1;omega,by have:=hs.2;omega⟩ (fun x hx=>⟨by have:=(hm x hx).1;omega,by have:=(hm x hx).2;omega⟩) (by omega) hasc v W (hv.below hb)
  have hins: ∀(i:Nat) u W vb,i<=l.length->TU w.heap.size l u W->W.heap[vb]?=some (.cells #[.int .i64 s.1,.int .i64 s.2] 90 (0,0))->w.heap.size<=vb->(l≠[]-> ∀b base n c,u= .slice (some ⟨b,base,none⟩) n c->vb≠b)->
      Calls Tryz.prog 46 #[u,.int .i64 i,.slice (some ⟨vb,0,none⟩) 1 1] W (qP l i s w.heap.size W):=fun i u W vb hi h1 h2 h3 h4=>fO l i s hi hlen u w.heap.size W h1 vb h2 h3 h4
  have htl: ∀(i:Nat) W bI base c,tV l s.1 i->Below w.heap.size w W->l.length+1<=c->w.heap.size<=bI->bI<W.heap.size->P2 W bI base (flat (D0 l i s))->Calls Tryz.prog 45 #[.slice (some ⟨bI,base,none⟩) (l.length+1) c] W (Zv l s E fz w):=fun i W bI base c h0 h1 h2 h3 h4 h5=>by
    have hin:(D0 l i s).length=l.length+1:=by
      have:=h0.1;unfold D0;simp only [List.length_append,List.length_take,List.length_singleton,List.length_drop];omega
    have hok:NB (D0 l i s):=rQ hl hs (by omega) (by have:=h0.1;omega)
      (fun j a b=>h0.2.1 j.toNat _ (by omega) (Ka a (by have:=h0.1;omega)))
      (fun j a b=>h0.2.2 j.toNat _ (by omega) (Ka (by omega) b))
    have hr:=(hJ.2 (D0 l i s) hok).tail hJ.1 hd (g:=fun b=>b=bI) (vals:=[.slice (some ⟨bI,base,none⟩) (l.length+1) c]) st h1 (fun b hb=>by subst hb;exact ⟨h3,h4⟩)
      ⟨_,_,rfl,.inr ⟨bI,base,c,.inr rfl,Nat.le_trans (Nat.le_of_eq hin) h2,congrArg (fun n=>Value.slice (some ⟨bI,base,none⟩) n c) hin.symm,kT h5⟩,rfl⟩
    have e:C3.fn (D0 l i s)=E8 l s:=fN;rw [e] at hr;exact hr
  have hvw:=Lib.hid hv;have hww:w.heap.size<(w.alloc (.cells #[.int .i64 s.1,.int .i64 s.2] 90)).heap.size:=by show w.heap.size<(w.heap.push _).size;rw [Array.size_push];omega
  have bw0:Below w.heap.size w (w.alloc (.cells #[.int .i64 s.1,.int .i64 s.2] 90)):=(Below.refl _ w).alloc (Nat.le_refl _) _;clear hv hm hasc
  go_enter Tryz.func25,Tryz.ntmps25
  go_wp2_with (go_at_call 43;refine (hbs _ bw0).mono ?_;rintro e W1 ⟨i,f,rfl,hi,hb1⟩)
  have bW1:Below w.heap.size w W1:=bw0.trans (hb1.mono (Nat.le_of_lt hww));have gW1:W1.heap[w.heap.size]?=some (.cells #[.int .i64 s.1,.int .i64 s.2] 90 (0,0)):=by
    rw [hb1.block _ hww];show (w.heap.push _)[w.heap.size]?=_;exact Array.getElem?_push_size
  have hc0:W1.cell? ⟨w.heap.size,0,none⟩=some (.int .i64 s.1):=by rw [CL gW1];rfl
  have hc1:W1.cell? ⟨w.heap.size,1,none⟩=some (.int .i64 s.2):=by rw [CL gW1];rfl
  have sW1:w.heap.size<W1.heap.size:=Nat.lt_of_lt_of_le hww hb1.size;have hcl: ∀W,Below W1.heap.size W1 W->Calls Tryz.prog 47 #[v] W fun e w'=> ∃u,e= .returned u/\Below W.heap.size W w'/\TU W.heap.size l u w'/\w'.cell? ⟨w.heap.size,0,none⟩=some (.int .i64 s.1)/\w'.cell? ⟨w.heap.size,1,none⟩=some (.int .i64 s.2):=fun W hb=>by
    refine (kD l hlen v W (hvw.out.below (bW1.trans (hb.mono (Nat.le_of_lt sW1))))).mono ?_;rintro e w' ⟨u,rfl,k1,k2⟩;have kk:=(hb.trans (k1.mono hb.size)).block _ sW1;exact ⟨u,rfl,k1,k2,by rw [World.cell?_of_block (a:=⟨w.heap.size,0,none⟩) kk];exact hc0,by rw [World.cell?_of_block (a:=⟨w.heap.size,1,none⟩) kk];exact hc1⟩
  clear gW1;have sWa:W1.heap.size<(W1.alloc (.cells #[.int .i64 s.1,.int .i64 s.2] 90)).drew.heap.size:=by show W1.heap.size<(W1.heap.push _).size;rw [Array.size_push];omega
  go_region_with (first
    | (go_at_call 47;refine (hcl _ ?_).mono ?_;(first | exact G4 _ W1 | exact ((Below.refl _ W1).alloc (Nat.le_refl _) _).trans (G4 _ _));rintro e W2 ⟨u,rfl,hb2,hr2,q0,q1⟩)
    | (go_at_call 46;refine (hins i u _ _ hi.1 ?_ ?_ ?_ ?_).mono ?_
       (first | exact (hr2.below ((Below.refl _ W2).alloc (Nat.le_refl _) _)).le (Nat.le_of_lt sW1) | exact hr2.le (Nat.le_of_lt (Nat.lt_trans sW1 sWa)))
       (first | exact Array.getElem?_push_size | exact (hb2.block _ sWa).trans Array.getElem?_push_size)
       (first | exact Nat.le_of_lt sW1 | exact Nat.le_trans (Nat.le_of_lt sW1) hb2.size)
       (first | exact fun hn b base n c hu=>Nat.ne_of_gt (hr2.lt hu hn).2 | exact fun hn b base n c hu=>Nat.ne_of_lt (Nat.lt_of_lt_of_le sWa (hr2.lt hu hn).1))
       rintro e W3 ⟨bI,base,c,rfl,k1,k2,k3,k4,k5⟩)
    | (go_at_call 45;refine (htl i _ bI base c hi ?_ k1 k2 k3 k4).mono ?_
       (first | exact (((bW1.trans (G4 _ W1)).trans (hb2.mono (Nat.le_of_lt sW1))).trans ((Below.refl _ W2).alloc (Nat.le_trans (Nat.le_of_lt sW1) hb2.size) _)).trans k5 | exact ((bW1.trans (((Below.refl _ W1).alloc (Nat.le_of_lt sW1) _).trans (G4 _ _))).trans (hb2.mono (Nat.le_of_lt (Nat.lt_trans sW1 sWa)))).trans k5)
       rintro e W4 ⟨r,S',vv,E',fz',rfl,k6⟩))
  all_goals
    go_wp2
    go_ret
    exact ⟨r,S',vv,E',fz',rfl,k6⟩
theorem qI (hd: ¬Dm) (hJ:BS Tryz.prog 45 C3):BS Tryz.prog 25 C1:=by
  have hc:Cy Tryz.prog 25=true:=by kernel_rfl
  refine ⟨hc,fun (x:List (Int×Int)×(Int×Int)) hx=>⟨fun E fz w vals st hrel=>.inl ⟨hc,?_⟩⟩⟩;obtain ⟨v1,_,rfl,h1,v2,_,rfl,⟨vs,rfl,⟨_,_,rfl,rfl,_,_,rfl,rfl,rfl⟩,_⟩,rfl⟩: ∃v1 us,vals=v1::us/\Rel E fz w (DL (.sl Gt) x.1) v1/\ ∃v2 us',us=v2::us'/\(∃vs:List Value,v2= .agg vs.toArray/\(∃a1 us1,vs=a1::us1/\a1= .int .i64 x.2.1/\ ∃a2 us2,us1=a2::us2/\a2= .int .i64 x.2.2/\us2=[])/\ ∀c∈vs,c.oneCell'=true)/\us'=[]:=hrel;have h1:(x.1.length=0/\ ∃a c,v1= .slice a 0 c)\/ ∃b off c,fz b/\x.1.length<=c/\v1= .slice (some ⟨b,off,none⟩) x.1.length c/\CR E fz w b off (x.1.flatMap fun s:Int×Int=>BQ Gt s):=h1;have hv:eD x.1 v1 w:=by
    rcases h1 with ⟨h0,a,c,rfl⟩ | ⟨b,off,c,k1,k2,rfl,k3⟩
    · exact .inl ⟨List.eq_nil_of_length_eq_zero h0,a,c,rfl⟩
    · obtain ⟨vs,r1,r2,r3⟩:=k3.read
      have hfl:=cz x.1 vs r1;subst hfl;exact .inr ⟨b,off,c,rfl,k2,st.Fx b k1,r3⟩
  exact mL hd hJ x.1 x.2 hx.1 hx.2 v1 w st hv
end Go.Proofs
end
section
namespace Go.Vc
abbrev Hp:=List (Nat×Ob)
structure KL (S:AB) (H:Hp):Prop where
 nd:(H.map (·.1)).Nodup
 at_: ∀p∈H,S[p.1]?=some p.2
theorem KL.perm {S:AB} {H H':Hp} (h:KL S H) (hp:H.Perm H'):KL S H':=⟨(hp.map _).nodup_iff.1 h.nd,fun p hm=>h.at_ p (hp.mem_iff.2 hm)⟩
def HM:Type:=Quotient (List.isSetoid (Nat×Ob))
namespace HM
def of (l:Hp):HM:=Quotient.mk _ l
def nil:HM:=of []
def add (a b:HM):HM:=Quotient.liftOn₂ a b (fun x y=>of (x++y)) fun a b c d h1 h2=>Quotient.sound (List.Perm.append h1 h2)
instance:Add HM:=⟨add⟩
theorem o_ (x y:Hp):of x+of y=of (x++y):=rfl
theorem sC {x y:Hp} (h:x.Perm y):of x=of y:=Quotient.sound h
theorem of_eq {x y:Hp} (h:of x=of y):x.Perm y:=Quotient.exact h
theorem ex (a:HM): ∃l,a=of l:=Quotient.inductionOn a fun l=>⟨l,rfl⟩
instance:Std.Associative (α:=HM) (· + ·):=⟨fun a b c=>by
 obtain ⟨x,rfl⟩:=a.ex;obtain ⟨y,rfl⟩:=b.ex;obtain ⟨z,rfl⟩:=c.ex;simp only [o_,List.append_assoc]⟩
instance:Std.Commutative (α:=HM) (· + ·):=⟨fun a b=>by
 obtain ⟨x,rfl⟩:=a.ex;obtain ⟨y,rfl⟩:=b.ex;simp only [o_];exact sC List.perm_append_comm⟩
theorem nil_add (a:HM):nil+a=a:=by obtain ⟨x,rfl⟩:=a.ex;rfl
theorem add_nil (a:HM):a+nil=a:=by obtain ⟨x,rfl⟩:=a.ex;show of (x++[])=_;rw [List.append_nil]
instance:Std.LawfulIdentity (α:=HM) (· + ·) nil:={left_id:=nil_add,right_id:=add_nil}
end HM
open HM
def pt (l:Nat) (o:Ob):HM:=of [(l,o)]
def Has (S:AB) (m:HM):Prop:=Quotient.liftOn m (KL S) fun a b h=>propext ⟨fun q=>q.perm h,fun q=>q.perm h.symm⟩
section
variable {S : AB} {m a b R : HM} {l v k : Nat} {o o' : Ob} {cs : List AA}
theorem Has.nil:Has S HM.nil:=⟨.nil,fun p h=>by simp at h⟩
theorem Has.left (h:Has S (a+b)):Has S a:=by
 obtain ⟨x,rfl⟩:=a.ex;obtain ⟨y,rfl⟩:=b.ex;have h:KL S (x++y):=h;exact ⟨h.nd.sublist ((List.sublist_append_left x y).map _),fun p hp=>h.at_ p (List.mem_append_left _ hp)⟩
theorem Has.comm (h:Has S (a+b)):Has S (b+a):=by rw [show b+a=a+b from Std.Commutative.comm _ _];exact h
theorem Has.right (h:Has S (a+b)):Has S b:=h.comm.left
theorem Has.get (h:Has S (pt l o+R)):S[l]?=some o:=by
 obtain ⟨x,rfl⟩:=R.ex;have h:KL S ((l,o)::x):=h;exact h.at_ (l,o) (List.mem_cons_self ..)
theorem Has.put (h:Has S (pt l o+R)) (o':Ob):Has (S.set l o') (pt l o'+R):=by
 have hl:l<S.length:=(List.getElem?_eq_some_iff.1 h.get).1;obtain ⟨x,rfl⟩:=R.ex;have h:KL S ((l,o)::x):=h;obtain ⟨h1,h2⟩:=List.nodup_cons.1 (by simpa using h.nd:(l::x.map (·.1)).Nodup);refine (⟨by simpa using ⟨fun a q=>h1 (List.mem_map.2 ⟨_,q,rfl⟩),h2⟩,fun p hp=>?_⟩:KL _ ((l,o')::x));rcases List.mem_cons.1 hp with rfl | hp
 ·exact List.getElem?_set_self hl
 ·have hne:l≠p.1:=fun e=>h1 (List.mem_map.2 ⟨p,hp,e.symm⟩);rw [List.getElem?_set_ne hne];exact h.at_ p (List.mem_cons_of_mem _ hp)
theorem Has.more (h:Has S R) (o:Ob):Has (S++[o]) (pt S.length o+R):=by
 obtain ⟨x,rfl⟩:=R.ex;have h:KL S x:=h;have hlt: ∀p∈x,p.1<S.length:=fun p hp=>(List.getElem?_eq_some_iff.1 (h.at_ p hp)).1;refine (⟨?_,fun p hp=>?_⟩:KL _ ((S.length,o)::x))
 ·show (S.length::x.map (·.1)).Nodup;refine List.nodup_cons.2 ⟨fun hm=>?_,h.nd⟩;obtain ⟨p,hp,e⟩:=List.mem_map.1 hm;have:=hlt p hp;omega
 ·rcases List.mem_cons.1 hp with rfl | hp
  ·simp
  ·rw [List.getElem?_append_left (hlt p hp)];exact h.at_ p hp
theorem Has.aP (h:Has S R) (r:Nat):Has (S++List.replicate r .dead) R:=by
 obtain ⟨x,rfl⟩:=R.ex;have h:KL S x:=h;show KL (S++List.replicate r .dead) x;refine ⟨h.nd,fun p hp=>?_⟩;rw [List.getElem?_append_left (List.getElem?_eq_some_iff.1 (h.at_ p hp)).1];exact h.at_ p hp
theorem Has.eq {m':HM} (h:Has S m) (e:m=m'):Has S m':=e▸h
end
class At (m:HM) (l:Nat) (o:outParam Ob) (f:outParam (Ob->HM)):Prop where
 eq:m=f o
 split: ∃R,∀x,f x=pt l x+R
instance At.here {l:Nat} {o:Ob}:At (pt l o) l o (fun x=>pt l x):=⟨rfl,HM.nil,fun x=>(HM.add_nil _).symm⟩
instance At.inl {a b:HM} {l:Nat} {o:Ob} {f:Ob->HM} [h:At a l o f]:At (a+b) l o (fun x=>f x+b):=
 ⟨by rw [<-h.eq],by obtain ⟨R,hR⟩:=h.split;exact ⟨R+b,fun x=>by rw [hR];ac_rfl⟩⟩
instance At.inr {a b:HM} {l:Nat} {o:Ob} {f:Ob->HM} [h:At b l o f]:At (a+b) l o (fun x=>a+f x):=
 ⟨by rw [<-h.eq],by obtain ⟨R,hR⟩:=h.split;exact ⟨a+R,fun x=>by rw [hR];ac_rfl⟩⟩
class Part (m a:HM) (f:outParam (HM->HM)):Prop where
 eq:m=f a
 split: ∃R,∀x,f x=x+R
instance Part.here {a:HM}:Part a a (fun x=>x):=⟨rfl,HM.nil,fun x=>(HM.add_nil _).symm⟩
instance Part.inl {a b c:HM} {f:HM->HM} [h:Part a c f]:Part (a+b) c (fun x=>f x+b):=
 ⟨by rw [<-h.eq],by obtain ⟨R,hR⟩:=h.split;exact ⟨R+b,fun x=>by rw [hR];ac_rfl⟩⟩
instance Part.inr {a b c:HM} {f:HM->HM} [h:Part b c f]:Part (a+b) c (fun x=>a+f x):=
 ⟨by rw [<-h.eq],by obtain ⟨R,hR⟩:=h.split;exact ⟨a+R,fun x=>by rw [hR];ac_rfl⟩⟩
section
variable {S : AB} {m a : HM} {l v k : Nat} {o o' : Ob} {cs : List AA} {f : Ob -> HM} {g : HM -> HM}
theorem Has.here [i:At m l o f] (h:Has S m):S[l]?=some o:=by
 obtain ⟨R,hR⟩:=i.split;have h:=i.eq▸h;rw [hR] at h;exact h.get
theorem Has.row [i:At m l o f] (h:Has S m) {K:Nat->List AA->Prop} (ho:o= .row v k cs) (hk:K k cs):JK S l v K:=AN.2 ⟨k,cs,by rw [h.here (l:=l),ho],hk⟩
theorem Has.sf [i:At m l o f] (h:Has S m) {K:AB->Prop} (hk: ∀S',Has S' (f o')->K S'):LB S l o' K:=by
 have hl:=h.here (l:=l);refine CQ.2 ⟨(List.getElem?_eq_some_iff.1 hl).1,hk _ ?_⟩;obtain ⟨R,hR⟩:=i.split;have h:=i.eq▸h;rw [hR] at h;rw [hR];exact h.put o'
theorem Has.TR (h:Has S m) {K:Nat->AB->Prop} (hk: ∀l S',Has S' (pt l o+m)->K l S'):Hz S o K:=Av.2 (hk _ _ (h.more o))
end
def HC (P:Program) (f:FuncId) (args:List AA) (m:HM) (R:AA->HM->Prop):Prop:=
 ∀S mf,Has S (m+mf)->AU P f args S fun r S'=> ∃m',R r m'/\Has S' (m'+mf)
theorem HC.use {P:Program} {f:FuncId} {args:List AA} {m a:HM} {R:AA->HM->Prop} {g:HM->HM} [i:Part m a g] (hc:HC P f args a R) {S:AB} (h:Has S m) {K:AA->AB->Prop} (hk: ∀r m' S',R r m'->Has S' (g m')->K r S'):AU P f args S K:=by
 obtain ⟨R0,hR⟩:=i.split;have h:=i.eq▸h;rw [hR] at h;exact (hc S R0 h).mono fun r S' ⟨m',h1,h2⟩=>hk r m' S' h1 (by rw [hR];exact h2)
theorem HC.mono {P:Program} {f:FuncId} {args:List AA} {m:HM} {R R':AA->HM->Prop} (h:HC P f args m R) (hr: ∀r m',R r m'->R' r m'):HC P f args m R':=
 fun S mf hS=>(h S mf hS).mono fun r S' ⟨m',h1,h2⟩=>⟨m',hr _ _ h1,h2⟩
theorem BS.plain {P:Program} {f:FuncId} {ct:Ct} (h:BS P f ct) (x:Ts ct.args) (hx:ct.pre x) (hv:Ku ct.res=true) {S:AB} {K:AA->AB->Prop} (hk:K (Lg (Oy ct.res (ct.fn x))) S):AU P f (Ff ct.args x) S K:=by
 refine AU.use (Q:=fun r=>r=Lg (Oy ct.res (ct.fn x))) ((h.2 x hx).mono fun r S' ⟨ys,h1,h2⟩=>?_) fun r e=>e▸hk;obtain ⟨e1,e2⟩:=Zl _ _ _ hv h1;rw [h2,e1]
end Go.Vc
end
section
namespace Go.Vc
open HM
def L_:AA->Option (List AA)
 | .agg cs=>some cs
 | .DG _=>none
 | .Ci=>none
 | .Zs _=>none
 | x=>some [x]
def qL (ag:Bool) (xs:List AA):Option AA:=match ag with | true=>some (.agg xs) | false=>(match xs with | [x]=>some x | _=>none)
def oQ {α:Type}:List α->Nat->Bool
 | [],0=>true
 | _::l,n+1=>oQ l n
 | _,_=>false
def vn {α:Type}:Nat->List α->Bool
 | 0,_=>true
 | n+1,_::l=>vn n l
 | _+1,[]=>false
theorem bf {α:Type}: ∀ {l:List α} {n:Nat},oQ l n=true->l.length=n
 | [],0,_=>rfl
 | _::l,n+1,h=>by simp [bf (l:=l) (n:=n) h]
 | [],_+1,h=>by simp [oQ] at h
 | _::_,0,h=>by simp [oQ] at h
theorem iz {α:Type}: ∀ {n:Nat} {l:List α},vn n l=true->n<=l.length
 | 0,_,_=>Nat.zero_le _
 | n+1,_::l,h=>by have:=iz (n:=n) (l:=l) h;simp;omega
 | _+1,[],h=>by simp [vn] at h
def Se (F:Frame) (cs:List AA):List (Nat×Nat×AL)->Option (List AA)
 | []=>some cs
 | (off,n,x)::rest=>match L_ (rd F x) with
  | some ys=>(match oQ ys n,vn (off+n) cs with | true,true=>Se F (setCells cs off ys) rest | _,_=>none)
  | none=>none
def SR (k:IntKind) (n:Int):Prop×AA:=match k with | .i64=>(AH n,.int .i64 n) | k=>(True,.int k (k.wrap n))
def rR (op:BinOp) (k:IntKind) (a b:Int):Option (Prop×AA):=
 match op with
 | .add=>some (SR k (a+b))
 | .sub=>some (SR k (a-b))
 | .mul=>some (SR k (a*b))
 | .quo=>some (b≠0/\(SR k (a.tdiv b)).1,(SR k (a.tdiv b)).2)
 | .rem=>some (b≠0,.int k (a.tmod b))
 | .eql=>some (True,.bool (decide (a=b)))
 | .neq=>some (True,.bool (!decide (a=b)))
 | .lss=>some (True,.bool (decide (a<b)))
 | .leq=>some (True,.bool (decide (a<=b)))
 | .gtr=>some (True,.bool (decide (b<a)))
 | .geq=>some (True,.bool (decide (b<=a)))
 | _=>none
def uX (op:BinOp) (a b:List UInt8):Option (Prop×AA):=
 match op with
 | .add=>some (AH (a.length+b.length),.str (a++b))
 | .eql=>some (True,.bool (decide (a=b)))
 | .neq=>some (True,.bool (!decide (a=b)))
 | .lss=>some (True,.bool (Op.bytesLess a b))
 | .leq=>some (True,.bool (Op.bytesLess a b || decide (a=b)))
 | .gtr=>some (True,.bool (!(Op.bytesLess a b || decide (a=b))))
 | .geq=>some (True,.bool (!Op.bytesLess a b))
 | _=>none
def sm (op:BinOp) (r:Bool):Option (Prop×AA):=match op with | .eql=>some (True,.bool r) | .neq=>some (True,.bool (!r)) | _=>none
def kB:IntKind->IntKind->Bool
 | .i8,.i8 | .u8,.u8 | .i16,.i16 | .u16,.u16 | .i32,.i32 | .u32,.u32 | .i64,.i64 | .u64,.u64=>true
 | _,_=>false
theorem uA {a b:IntKind} (h:kB a b=true):a=b:=by cases a<;>cases b<;>simp_all [kB]
def tZ (q:jm) (op:BinOp) (x y:AA):Option (Prop×AA):=
 match x,y with
 | .int k a,.int k' b=>(match op with
  | .shl=>none
  | .shr=>none
  | op=>(match kB k k' with | true=>rR op k a b | false=>none))
 | .str a,.str b=>uX op a b
 | .bool a,.bool b=>(match q with | .bool=>sm op (decide (a=b)) | _=>none)
 | .Bp,.Bp=>(match q with | .ptr=>sm op true | _=>none)
 | .ptr _ _ _,.Bp=>(match q with | .ptr=>sm op false | _=>none)
 | .Bp,.ptr _ _ _=>(match q with | .ptr=>sm op false | _=>none)
 | .Fm _,.Bp=>(match q with | .ptr=>sm op false | _=>none)
 | .Bp,.Fm _=>(match q with | .ptr=>sm op false | _=>none)
 | _,_=>none
section
variable {P : Program} {F : Frame} {S : AB} {K : AA -> AB -> Prop}
theorem UF {k:IntKind} {n:Int} {K:AA->Prop} (hp:(SR k n).1) (h:K (SR k n).2):dx k n K:=by
 cases k<;>first | exact h | exact ⟨hp,h⟩
theorem rS {op:BinOp} {k:IntKind} {a b:Int} {p:Prop} {r:AA} {K:AA->Prop} (hb:rR op k a b=some (p,r)) (hp:p) (h:K r):IJ op k a b K:=by
 cases op<;>simp only [rR] at hb<;>first | cases hb | skip
 all_goals (try (simp only [Option.some.injEq,Prod.mk.injEq] at hb;obtain ⟨rfl,rfl⟩:=hb))
 all_goals first
  | exact h
  | exact ⟨hp,h⟩
  | (simp only [Option.some.injEq] at hb;rw [Prod.ext_iff] at hb;obtain ⟨e1,e2⟩:=hb;simp only at e1 e2;subst e1 e2;exact UF hp h)
  | exact ⟨hp.1,UF hp.2 h⟩
theorem sQ {op:BinOp} {a b:List UInt8} {p:Prop} {r:AA} {K:AA->Prop} (hb:uX op a b=some (p,r)) (hp:p) (h:K r):Me op a b K:=by
 cases op<;>simp only [uX,Option.some.injEq,Prod.mk.injEq] at hb<;>first | cases hb;done | skip
 all_goals (obtain ⟨rfl,rfl⟩:=hb;first | exact h | exact ⟨hp,h⟩)
theorem nX {op:BinOp} {b:Bool} {p:Prop} {r:AA} {K:AA->Prop} (hb:sm op b=some (p,r)) (hp:p) (h:K r):W6 op b K:=by
 cases op<;>simp only [sm,Option.some.injEq,Prod.mk.injEq] at hb<;>first | cases hb;done | skip
 all_goals (obtain ⟨rfl,rfl⟩:=hb;exact h)
theorem qZ {q:jm} {op:BinOp} {x y:AA} {p:Prop} {r:AA} {K:AA->Prop} (hb:tZ q op x y=some (p,r)) (hp:p) (h:K r):GS q op x y K:=by
 unfold tZ at hb;split at hb
 ·rename_i k a k' b;have: ∀o:BinOp,o≠ .shl->o≠ .shr->(match kB k k' with | true=>rR o k a b | false=>none)=some (p,r)->k=k'/\IJ o k a b K:=fun o h1 h2 hb=>by
   cases hk:kB k k' with
   | false=>rw [hk] at hb;cases hb
   | true=>rw [hk] at hb;exact ⟨uA hk,rS hb hp h⟩
  cases op<;>first | (cases hb;done) | exact this _ (by simp) (by simp) hb
 ·exact sQ hb hp h
 ·rename_i a b;cases q<;>first | (cases hb;done) | exact nX hb hp h
 all_goals (cases q<;>first | (cases hb;done) | exact nX hb hp h)
theorem RP {x:AA} {ys:List AA} {K:List AA->Prop} (h:L_ x=some ys) (hk:K ys):Gc x K:=by
 cases x<;>simp only [L_,Option.some.injEq] at h<;>first | (cases h;done) | (subst h;exact hk)
theorem QT {K:List AA->Prop}: ∀ {ps:List (Nat×Nat×AL)} {cs cs':List AA},Se F cs ps=some cs'->K cs'->JO F cs K ps
 | [],cs,cs',h,hk=>by simp only [Se] at h;cases h;exact hk
 | (off,n,x)::rest,cs,cs',h,hk=>by
  simp only [Se] at h;split at h
  ·rename_i ys hy;split at h
   ·rename_i h1 h2;simp only [JO,AD];exact RP hy ⟨bf h1,iz h2,FV.2 (QT h hk)⟩
   ·cases h
  ·cases h
theorem K4 {ag:Bool} {xs:List AA} {x:AA} {K:AA->Prop} (h:qL ag xs=some x) (hk:K x):K5 ag xs K:=by
 cases ag
 ·simp only [qL] at h;split at h
  ·cases h;exact hk
  ·cases h
 ·cases h;exact hk
variable {m : HM} {l v k off n : Nat} {o : Ob} {f : Ob -> HM} {cs xs ys : List AA} {x y z : AL} {r : AA} {ag : Bool} {d : Option Nat} {Kx : List (Nat × Nat × Bool × AL)}
theorem BZ (h:K (rd F x) S):AF P F S K (.C8 x):=AD.2 h
theorem o7 (hS:Has S m) (h: ∀v l S',Has S' (pt l (.row v k [])+m)->K (.sl l v 0 0) S'):AF P F S K (.DU k):=fun v=>hS.TR fun l S'=>h v l S'
theorem re {z:List AA} (hS:Has S m) (h: ∀v l S',Has S' (pt l (.row v k z)+m)->K (.ptr l v 0) S'):AF P F S K (.alloc k z):=fun v=>hS.TR fun l S'=>h v l S'
theorem vF (hS:Has S m) (hc:L_ (rd F x)=some ys) (h: ∀v l S',Has S' (pt l (.row v k ys)+m)->K (.ptr l v 0) S'):AF P F S K (.box k x):=AD.2 (RP hc fun v=>hS.TR fun l S'=>h v l S')
theorem rn {z:List AA} {ps:List (Nat×Nat×AL)} (hf:Se F z ps=some ys) (h:K (.agg ys) S):AF P F S K (.build z ps):=QT hf h
theorem lK {len:Nat} {z:List AA} {ps:List (Nat×Nat×AL)} (hf:Se F z ps=some ys) (h:K (.Em len ys) S):AF P F S K (.A7 true len k z ps):=QT hf h
theorem lL {len:Nat} {z:List AA} {ps:List (Nat×Nat×AL)} (hS:Has S m) (hf:Se F z ps=some ys) (h: ∀v l S',Has S' (pt l (.row v k ys)+m)->K (.sl l v 0 len) S'):AF P F S K (.A7 false len k z ps):=QT hf fun v=>hS.TR fun l S'=>h v l S'
theorem MP (hS:Has S m) (hx:rd F x= .ptr l v off) [i:At m l o f] (ho:o= .row v k cs) (ht:takeN n (cs.drop off)=some xs) (hm:qL ag xs=some r) (h:K r S):AF P F S K (.load n ag x):=by
 refine AD.2 ?_;rw [hx];refine hS.row ho ?_;cases k with
 | zero=>exact CT.2 (DW.2 ⟨xs,ht,K4 hm h⟩)
 | succ k=>exact ⟨xs,ht,K4 hm h⟩
theorem jE (hx:rd F x= .Fm cs) (ht:takeN n cs=some xs) (hm:qL ag xs=some r) (h:K r S):AF P F S K (.load n ag x):=by
 refine AD.2 ?_;rw [hx];exact DW.2 ⟨xs,ht,K4 hm h⟩
theorem JU (hS:Has S m) (hx:rd F x= .ptr l v off) [i:At m l o f] (ho:o= .row v k cs) (hc:L_ (rd F y)=some ys) (hn:ys.length=n) (hle:off+n<=cs.length) (h: ∀S',Has S' (f (.row v k (setCells cs off ys)))->K .Ci S'):AF P F S K (.store n x y):=by
 refine AD.2 ?_;rw [hx];refine hS.row ho (AD.2 (RP hc ⟨hn,hle,FA.2 (hS.sf fun S' hS'=>h S' hS')⟩))
theorem cJ (hx:rd F x= .ptr l v off) (h:K (.ptr l v off) S):AF P F S K (.E5 x):=by refine AD.2 ?_;rw [hx];exact h
theorem lQ (hx:rd F x= .Fm cs) (h:K (.Fm cs) S):AF P F S K (.E5 x):=by refine AD.2 ?_;rw [hx];exact h
theorem lO {g:FuncId} {a b:List AA} (hx:rd F x= .fn (.func g) a b) (h:K (.fn (.func g) a b) S):AF P F S K (.E5 x):=by refine AD.2 ?_;rw [hx];exact h
theorem lP (hx:rd F x= .map l v) (h:K (.map l v) S):AF P F S K (.E5 x):=by refine AD.2 ?_;rw [hx];exact h
theorem tF {q:jm} {op:BinOp} {p:Prop} (hb:tZ q op (rd F x) (rd F y)=some (p,r)) (hp:p) (h:K r S):AF P F S K (.bin q op x y):=AD.2 (AD.2 (qZ hb hp h))
theorem vK {b:Bool} (hx:rd F x= .bool b) (h:K (.bool (!b)) S):AF P F S K (.not x):=by refine AD.2 ?_;rw [hx];exact h
theorem sA {s:List UInt8} (hx:rd F x= .str s) (h:K (.str s) S):AF P F S K (.N1 x):=by refine AD.2 ?_;rw [hx];exact h
theorem vJ {ik:IntKind} {a:Int} (hx:rd F x= .int ik a) (hp:(SR ik (0-a)).1) (h:K (SR ik (0-a)).2 S):AF P F S K (.neg x):=by refine AD.2 ?_;rw [hx];exact UF (K:=fun r=>K r S) hp h
theorem uF {ik jk:IntKind} {a:Int} (hx:rd F x= .int ik a) (hp:(SR jk a).1) (h:K (SR jk a).2 S):AF P F S K (.conv jk x):=by refine AD.2 ?_;rw [hx];exact UF (K:=fun r=>K r S) hp h
theorem lN {b:Nat} {z:List AA} {ik:IntKind} (hS:Has S m) (hx:rd F x= .int ik (n:Int)) (hy:rd F y=rd F x) (hb:b*n<=140737488355328) (h: ∀v l S',Has S' (pt l (.row v k (List.replicate n z).flatten)+m)->K (.sl l v 0 n) S'):AF P F S K (.Gy k b z x y):=by
 refine AD.2 (AD.2 ?_);rw [hy,hx];exact ⟨n,rfl,.inl rfl,hb,fun v=>hS.TR fun l S'=>h v l S'⟩
def qR (F:Frame):Option AL->Nat->Prop
 | none,j=>j=0
 | some r,j=> ∃k,rd F r= .int k (j:Int)
def qQ (F:Frame) (n:Nat):Option AL->Nat->Prop
 | none,j=>j=n
 | some r,j=> ∃k,rd F r= .int k (j:Int)
theorem qF {lo:Option AL} {j:Nat} {K:Nat->Prop} (h:qR F lo j) (hk:K j):Wk F lo K:=by
 cases lo with
 | none=>simp only [qR] at h;subst h;exact hk
 | some r=>obtain ⟨k,h⟩:=h;refine AD.2 ?_;rw [h];exact ⟨j,rfl,hk⟩
theorem qE {hi:Option AL} {n j:Nat} {K:Nat->Prop} (h:qQ F n hi j) (hk:K j):X9 F n hi K:=by
 cases hi with
 | none=>simp only [qQ] at h;subst h;exact hk
 | some r=>obtain ⟨k,h⟩:=h;refine AD.2 ?_;rw [h];exact ⟨j,rfl,hk⟩
variable {lo hi : Option AL} {j h' : Nat}
theorem VP {s:List UInt8} (hx:rd F x= .str s) (hh:qQ F s.length hi h') (hl:qR F lo j) (h1:j<=h') (h2:h'<=s.length) (h:K (.str ((s.take h').drop j)) S):AF P F S K (.slice 0 x lo hi):=by
 refine AD.2 ?_;rw [hx];exact qE hh (qF hl ⟨h1,h2,h⟩)
theorem jF (hS:Has S m) (hx:rd F x= .sl l v off n) [i:At m l o f] (ho:o= .row v (k+1) cs) (hh:qQ F n hi h') (hl:qR F lo j) (h1:j<=h') (h2:h'<=n) (h:K (.sl l v (off+j*(k+1)) (h'-j)) S):AF P F S K (.slice (k+1) x lo hi):=by
 refine AD.2 ?_;rw [hx];exact qE hh (qF hl ⟨h1,h2,hS.row ho ⟨rfl,h⟩⟩)
theorem jD (hx:rd F x= .ptr l v n) (h:K (.ptr l v (n+off)) S):AF P F S K (.DJ off x):=by refine AD.2 ?_;rw [hx];exact h
theorem om (hx:rd F x= .Fm cs) (h:K (.Fm (cs.drop off)) S):AF P F S K (.DJ off x):=by refine AD.2 ?_;rw [hx];exact CT.2 h
theorem rq (hx:rd F x= .agg cs) (ht:takeN n (cs.drop off)=some xs) (hm:qL ag xs=some r) (h:K r S):AF P F S K (.field off n ag x):=by
 refine AD.2 ?_;rw [hx];exact CT.2 (DW.2 ⟨xs,ht,K4 hm h⟩)
theorem ZI {ik:IntKind} (hS:Has S m) (hx:rd F x= .sl l v off n) (hy:rd F y= .int ik (j:Int)) [i:At m l o f] (ho:o= .row v k cs) (hj:j<n) (h:K (.ptr l v (off+j*k)) S):AF P F S K (.D_ k none x y):=by
 refine AD.2 (AD.2 ?_);rw [hx,hy];exact ⟨j,rfl,hj,hS.row ho ⟨.inl rfl,h⟩⟩
theorem oo {ik:IntKind} (hS:Has S m) (hx:rd F x= .sl l v off n) (hy:rd F y= .int ik (j:Int)) [i:At m l o f] (ho:o= .row v 0 cs) (hj:j<n) (h:K (.ptr l v (off+j*k)) S):AF P F S K (.D_ k none x y):=by
 refine AD.2 (AD.2 ?_);rw [hx,hy];exact ⟨j,rfl,hj,hS.row ho ⟨.inr rfl,h⟩⟩
theorem VO (hS:Has S m) (hx:rd F x= .ptr l v off) [i:At m l o f] (ho:o= .row v 0 cs) (hj:off+n<=cs.length) (h:K (.sl l v off n) S):AF P F S K (.L8 n x):=by
 refine AD.2 ?_;rw [hx];exact hS.row ho ⟨rfl,hj,h⟩
theorem LZ {ik:IntKind} (hx:rd F x= .Em n cs) (hy:rd F y= .int ik (j:Int)) (hj:j<n) (ht:takeN k (cs.drop (j*k))=some xs) (h:K (.Fm xs) S):AF P F S K (.D_ k none x y):=by
 refine AD.2 (AD.2 ?_);rw [hx,hy];exact ⟨j,rfl,hj,xs,ht,h⟩
theorem oq {ik:IntKind} (hx:rd F x= .ptr l v off) (hy:rd F y= .int ik (j:Int)) (hj:j<n) (h:K (.ptr l v (off+j*k)) S):AF P F S K (.D_ k (some n) x y):=by
 refine AD.2 (AD.2 ?_);rw [hx,hy];exact ⟨j,rfl,hj,h⟩
theorem lM {ik:IntKind} (hx:rd F x= .Fm cs) (hy:rd F y= .int ik (j:Int)) (hj:j<n) (h:K (.Fm (cs.drop (j*k))) S):AF P F S K (.D_ k (some n) x y):=by
 refine AD.2 (AD.2 ?_);rw [hx,hy];exact ⟨j,rfl,hj,h⟩
theorem ou {s:List UInt8} {c:UInt8} {ik:IntKind} (hx:rd F x= .str s) (hy:rd F y= .int ik (j:Int)) (hj:s[j]?=some c) (h:K (.int .u8 (c.toNat:Int)) S):AF P F S K (.index k none ag x y):=by
 refine AD.2 (AD.2 ?_);rw [hx,hy];exact ⟨j,rfl,c,hj,h⟩
theorem ot {ik:IntKind} (hx:rd F x= .agg cs) (hy:rd F y= .int ik (j:Int)) (hj:j<n) (ht:takeN k (cs.drop (j*k))=some xs) (hm:qL ag xs=some r) (h:K r S):AF P F S K (.index k (some n) ag x y):=by
 refine AD.2 (AD.2 ?_);rw [hx,hy];exact ⟨j,rfl,hj,xs,ht,K4 hm h⟩
def bg:Bool->AA->Option Nat
 | true,.str s=>some s.length
 | false,.Em n _=>some n
 | false,.sl _ _ _ n=>some n
 | false,.AM=>some 0
 | _,_=>none
theorem Qt {b:Bool} (hx:bg b (rd F x)=some n) (h:K (.int .i64 (n:Int)) S):AF P F S K (.len b x):=by
 refine AD.2 ?_;generalize rd F x=X at*;cases b<;>cases X<;>simp only [bg,Option.some.injEq] at hx<;>first | (cases hx;done) | (subst hx;exact h)
def Dx (m:HM) (k:Nat) (x:AA) (n:Nat) (ys:List AA):Prop:=
 match x with
 | .AM=>n=0/\ys=[]
 | .Em n' cs=>n=n'/\n*k<=cs.length/\ys=cs.take (n*k)
 | .sl l v off n'=>n=n'/\ ∃cs f o,At m l o f/\o= .row v k cs/\off+n*k<=cs.length/\ys=BL cs off (n*k)
 | .str s=>k=1/\n=s.length/\ys=s.map fun c=>.int .u8 c.toNat
 | _=>False
theorem Dx.ok {X:AA} (hS:Has S m) {K:Nat->List AA->Prop} (h:Dx m k X n ys) (hk:K n ys):M5 S k X K:=by
 cases X<;>simp only [Dx] at h<;>first | exact h.elim | skip
 ·obtain ⟨h1,rfl,rfl⟩:=h;exact ⟨h1,hk⟩
 ·obtain ⟨rfl,rfl⟩:=h;exact hk
 ·obtain ⟨rfl,cs,f,o,hi,ho,h1,rfl⟩:=h;exact hS.row ho ⟨h1,hk⟩
 ·obtain ⟨rfl,h1,rfl⟩:=h;exact ⟨h1,hk⟩
theorem R4 {b:Nat} (hS:Has S m) (hx:rd F x= .AM) (hy:Dx m k (rd F y) n ys) (hb:n*b<=140737488355328) (h: ∀v l S',Has S' (pt l (.row v k ys)+m)->K (.sl l v 0 n) S'):AF P F S K (.append k b x y):=by
 refine AD.2 (AD.2 (hy.ok hS ?_));rw [hx];exact ⟨hb,fun v=>hS.TR fun l S'=>h v l S'⟩
theorem Qs {b len:Nat} (hS:Has S m) (hx:rd F x= .sl l v off len) (hy:Dx m k (rd F y) n ys) [i:At m l o f] (ho:o= .row v k cs) (hle:off+len*k<=cs.length) (hb:(len+n)*b<=140737488355328) (h: ∀v' S',Has S' (f (.row v' k (BL cs off (len*k)++ys)))->K (.sl l v' 0 (len+n)) S'):AF P F S K (.append k b x y):=by
 refine AD.2 (AD.2 (hy.ok hS ?_));rw [hx];exact hS.row ho ⟨rfl,hle,hb,fun v'=>hS.sf fun S'=>h v' S'⟩
theorem MU {xs:List AL} {K:List AA->Prop} (h:K (xs.map (rd F))):M4 F xs K:=Ap.2 h
theorem oz {g:Fn} {a b:List AL} (h:K (.fn g (a.map (rd F)) (b.map (rd F))) S):AF P F S K (.GV g a b):=MU (MU h)
theorem Xe (hx:rd F x= .DG xs) (hj:xs.drop j=r::ys) (h:K r S):AF P F S K (.extract x j):=by
 refine AD.2 ?_;rw [hx];refine CT.2 ?_;rw [hj];exact h
theorem uE {g:FuncId} {xP:List AL} (h:AU P g (xP.map (rd F)) S K):AF P F S K (.call g xP):=MU h
theorem ZH {g:FuncId} {xP:List AL} {cap:List AA} (hx:rd F x= .fn (.func g) [] cap) (h:AU P g (xP.map (rd F)++cap) S K):AF P F S K (.Fo x xP):=by
 refine AD.2 ?_;rw [hx];exact ⟨trivial,MU h⟩
theorem ov {neg:Bool} (hx:rd F x= .AM) (h:K (.bool (!neg)) S):AF P F S K (.GO neg x):=by refine AD.2 ?_;rw [hx];exact h
theorem ru {neg:Bool} (hx:rd F x= .sl l v off n) (h: ∀b:Bool,(b=true->n=0)->K (.bool (b != neg)) S):AF P F S K (.GO neg x):=by refine AD.2 ?_;rw [hx];exact h
end
section
variable {P : Program} {F : Frame} {S : AB} {K : Frame -> AB -> Prop} {d : Option Nat} {op : Dw} {g : Bool} {Kx : List (Nat × Nat × Bool × AL)} {rest : List Cs} {gd j : Nat} {w : Bool} {xs : List AA}
theorem tJ (h:K F S):BC P K [] F S:=h
theorem Ar (h:AF P F S (fun x S'=>Al g x fun x=>BC P K rest (AK F d x) S') op):BC P K (⟨d,op,none,g,Kx⟩::rest) F S:=h
theorem uP (hg:F.get gd= .tt) (h:AF P F S (fun x S'=>Al g x fun x=>BC P K rest (AK F d x) S') op):BC P K (⟨d,op,some (gd,true),g,Kx⟩::rest) F S:=by
 refine Bc.2 ?_;rw [hg];exact h
theorem pM (hg:F.get gd= .ff) (h:AF P F S (fun x S'=>Al g x fun x=>BC P K rest (AK F d x) S') op):BC P K (⟨d,op,some (gd,false),g,Kx⟩::rest) F S:=by
 refine Bc.2 ?_;rw [hg];exact h
theorem wb (hg:F.get gd= .ff) (h:BC P K rest (AK F d (.DG [])) S):BC P K (⟨d,op,some (gd,true),g,Kx⟩::rest) F S:=by
 refine Bc.2 ?_;rw [hg];exact h
theorem wa (hg:F.get gd= .tt) (h:BC P K rest (AK F d (.DG [])) S):BC P K (⟨d,op,some (gd,false),g,Kx⟩::rest) F S:=by
 refine Bc.2 ?_;rw [hg];exact h
theorem wc (hg:F.get gd= .DG xs) (h:BC P K rest (AK F d (.DG [])) S):BC P K (⟨d,op,some (gd,w),g,Kx⟩::rest) F S:=by
 refine Bc.2 ?_;rw [hg];exact h
theorem tj {l:List Cs} (h:BC P K l F S):Ah P K 0 l F S:=h
theorem u4 (h:K F S):Ah P K (j+1) [] F S:=h
theorem nI (h:C2 P F S (fun x S'=>Al g x fun x=>Ah P K j rest (AK F d x) S') op):Ah P K (j+1) (⟨d,op,none,g,Kx⟩::rest) F S:=h
theorem wJ (hg:F.get gd= .tt) (h:C2 P F S (fun x S'=>Al g x fun x=>Ah P K j rest (AK F d x) S') op):Ah P K (j+1) (⟨d,op,some (gd,true),g,Kx⟩::rest) F S:=by
 refine Bc.2 ?_;rw [hg];exact h
theorem wF (hg:F.get gd= .ff) (h:C2 P F S (fun x S'=>Al g x fun x=>Ah P K j rest (AK F d x) S') op):Ah P K (j+1) (⟨d,op,some (gd,false),g,Kx⟩::rest) F S:=by
 refine Bc.2 ?_;rw [hg];exact h
theorem wH (hg:F.get gd= .ff) (h:Ah P K j rest (AK F d (.DG [])) S):Ah P K (j+1) (⟨d,op,some (gd,true),g,Kx⟩::rest) F S:=by
 refine Bc.2 ?_;rw [hg];exact h
theorem wG (hg:F.get gd= .tt) (h:Ah P K j rest (AK F d (.DG [])) S):Ah P K (j+1) (⟨d,op,some (gd,false),g,Kx⟩::rest) F S:=by
 refine Bc.2 ?_;rw [hg];exact h
theorem wI (hg:F.get gd= .DG xs) (h:Ah P K j rest (AK F d (.DG [])) S):Ah P K (j+1) (⟨d,op,some (gd,w),g,Kx⟩::rest) F S:=by
 refine Bc.2 ?_;rw [hg];exact h
theorem Dn {x:AA} {K:AA->Prop} (h:K x):Al false x K:=h
theorem Cn {p:Prop} [Decidable p] {K:AA->Prop} (ht:p->K .tt) (hf: ¬p->K .ff):Al true (.bool (decide p)) K:=⟨fun h=>ht (of_decide_eq_true h),fun h=>hf (of_decide_eq_false h)⟩
theorem MX {p:Prop} [Decidable p] {K:AA->Prop} (ht: ¬p->K .tt) (hf:p->K .ff):Al true (.bool (!decide p)) K:=⟨fun h=>ht (by simpa using h),fun h=>hf (by simpa using h)⟩
theorem Pl {b:Bool} {K:AA->Prop} (ht:b=true->K .tt) (hf:b=false->K .ff):Al true (.bool b) K:=⟨ht,hf⟩
end
section
variable {P : Program} {F : Frame} {S : AB} {K : AA -> AB -> Prop}
theorem pL {so:Dw} (hq:so.DD=false) (h:AF P F S K so):C2 P F S K so:=by rw [Lw hq];exact h
theorem pK {g:FuncId} {xP:List AL} (r0:AA) (h:AU P g (xP.map (rd F)) S (fun r S'=>r=r0/\S'=S)) (hk:K r0 S):C2 P F S K (.call g xP):=Ap.2 ⟨r0,h,hk⟩
end
section
variable {P : Program} {F : Frame} {S : AB} {Q : BU -> Frame -> AB -> Prop} {a b : Ak} {x : AL} {AW W : List Nat} {n id : Nat} {l : List Cs}
theorem uw {ks:List Nat} (h:BC P (fun F' S'=>J0 ks F' fun F''=>Q .normal F'' S') l F S):vc P (.ops l none ks) Q F S:=h
theorem eP {d:Nat×Nat×List Nat} {ks:List Nat} (h:Ah P (fun F' S'=>J0 ks F' fun F''=>Q .normal F'' S') d.1 l F (S++List.replicate d.2.1 .dead)):vc P (.ops l (some d) ks) Q F S:=h
theorem CY {m:HM} {j:Nat} {π ks:List Nat} (hS:Has S m) (h: ∀S',Has S' m->Ah P (fun F' S'=>J0 ks F' fun F''=>Q .normal F'' S') j l F S'):vc P (.ops l (some (j,0,π)) ks) Q F S:=eP (h _ (hS.aP _))
theorem uy (h:vc P a (BU.Dj (vc P b Q) Q) F S):vc P (.seq a b) Q F S:=h
theorem tg (h:Q .normal F S):vc P .skip Q F S:=h
theorem ux (h:Q .ret F S):vc P .ret Q F S:=h
theorem tf (h:Q (.exit id) F S):vc P (.exit id) Q F S:=h
theorem qi (h:vc P a (BU.Gz id Q) F S):vc P (.block id a) Q F S:=h
theorem Be {p:Prop} [Decidable p] (hx:rd F x= .bool (decide p)) (ht:p->vc P a Q F S) (hf: ¬p->vc P b Q F S):vc P (.cond x a b) Q F S:=by
 refine AD.2 ?_;rw [hx];exact ⟨fun h=>ht (of_decide_eq_true h),fun h=>hf (of_decide_eq_false h)⟩
theorem YP {p:Prop} [Decidable p] (hx:rd F x= .bool (!decide p)) (ht: ¬p->vc P a Q F S) (hf:p->vc P b Q F S):vc P (.cond x a b) Q F S:=by
 refine AD.2 ?_;rw [hx];exact ⟨fun h=>ht (by simpa using h),fun h=>hf (by simpa using h)⟩
theorem Ce {c:Bool} (hx:rd F x= .bool c) (ht:c=true->vc P a Q F S) (hf:c=false->vc P b Q F S):vc P (.cond x a b) Q F S:=by
 refine AD.2 ?_;rw [hx];exact ⟨ht,hf⟩
theorem eN {ks:List Nat} {K:Frame->Prop} (h:K (ks.map fun t=>(t,F.get t))):J0 ks F K:=E6.2 h
theorem He (h: ∀K:List AA->AB->Prop,(∀xs os,xs.length=W.length->vc P b Q (Ei W xs (AW.map fun t=>(t,F.get t))) os->K xs os)->vc P a (BU.Dj (fun F' S'=>K (W.map F'.get) S') Q) F S):vc P (.join AW W n a b) Q F S:=by
 intro K hK;have hK':=E6.1 hK;have:=h K fun xs os hl hv=>(Jo.1 hK') xs hl os hv;have e:(fun F' S'=>Sj W F' fun xs=>K xs S')=fun F' S'=>K (W.map F'.get) S':=by funext F' S';exact propext Ex
 rw [e];exact this
theorem GU (I:Nat->List AA->AB->Prop) (k:Nat) (h0:I k (W.map F.get) S) (h: ∀k xs os,xs.length=W.length->I k xs os->vc P a (BU.Dj (fun F' S'=> ∃k',k'<k/\I k' (W.map F'.get) S') Q) (Ei W xs (AW.map fun t=>(t,F.get t))) os):vc P (.loop AW W n a) Q F S:=by
 refine ⟨I,Ex.2 ⟨k,h0⟩,E6.2 (Jo.2 fun xs hl k os hI=>?_)⟩;have:=h k xs os hl hI;have e:(fun F' S'=>Sj W F' fun ys=> ∃k',k'<k/\I k' ys S')=fun F' S'=> ∃k',k'<k/\I k' (W.map F'.get) S':=by funext F' S';exact propext Ex
 rw [e];exact this
theorem wX {N:Frame->AB->Prop} (h:N F S):BU.Dj N Q .normal F S:=h
theorem wY {N:Frame->AB->Prop} (h:Q .ret F S):BU.Dj N Q .ret F S:=h
theorem wW {N:Frame->AB->Prop} (h:Q (.exit id) F S):BU.Dj N Q (.exit id) F S:=h
theorem wQ (h:Q .normal F S):BU.Gz id Q .normal F S:=h
theorem wR (h:Q .ret F S):BU.Gz id Q .ret F S:=h
theorem wP (h:Q .normal F S):BU.Gz id Q (.exit id) F S:=by simp only [BU.Gz,Nat.beq_refl];exact h
theorem wS {j:Nat} (hn:Nat.beq j id=false) (h:Q (.exit j) F S):BU.Gz id Q (.exit j) F S:=by simp only [BU.Gz,hn];exact h
end
theorem va {F:Frame} {S:AB} {K:List AA->Prop} (h:K []):I5 F S K []:=h
theorem vd {F:Frame} {S:AB} {K:List AA->Prop} {t:Nat} {rs:List Kk} (h:I5 F S (fun xs=>K (F.get t::xs)) rs):I5 F S K (.tmp t::rs):=Bc.2 h
theorem uf {F:Frame} {S:AB} {K:List AA->Prop} {t n:Nat} {ag:Bool} {rs:List Kk} {m:HM} {l v off k:Nat} {o:Ob} {f:Ob->HM} {cs xs:List AA} {r:AA} (hS:Has S m) (hx:F.get t= .ptr l v off) [i:At m l o f] (ho:o= .row v k cs) (ht:takeN n (cs.drop off)=some xs) (hm:qL ag xs=some r) (h:I5 F S (fun xs=>K (r::xs)) rs):I5 F S K (.cell t n ag::rs):=by
 refine Bc.2 ?_;rw [hx];refine hS.row ho ?_;cases k with
 | zero=>exact CT.2 (DW.2 ⟨xs,ht,K4 hm h⟩)
 | succ k=>exact ⟨xs,ht,K4 hm h⟩
end Go.Vc
end
section
namespace Go.Vc
open HM
theorem Has.vp {S:AB} {a b c:HM} (h:Has S (a+(b+c))):Has S (a+c):=(h.eq (m':=b+(a+c)) (by ac_rfl)).right
def EP (k:Nat) (x:AA) (cells:List AA) (n:Nat) (m:HM):Prop:=
 (x= .AM/\n=0/\cells=[]/\m=HM.nil)\/ ∃p v off cs,x= .sl p v off n/\m=pt p (.row v k cs)/\off+n*k<=cs.length/\cells=BL cs off (n*k)
section
variable {k n : Nat} {x : AA} {cells cs ys : List AA} {m : HM}
theorem EP.nil:EP k .AM [] 0 HM.nil:= .inl ⟨rfl,rfl,rfl,rfl⟩
theorem EP.mk {p v off:Nat} (h:off+n*k<=cs.length):EP k (.sl p v off n) (BL cs off (n*k)) n (pt p (.row v k cs)):= .inr ⟨p,v,off,cs,rfl,rfl,h,rfl⟩
theorem EP.whole {p v:Nat} (h:cs.length=n*k):EP k (.sl p v 0 n) cs n (pt p (.row v k cs)):=
 .inr ⟨p,v,0,cs,rfl,rfl,by omega,by unfold BL;rw [List.drop_zero,List.take_of_length_le (by omega)]⟩
theorem EP.len (h:EP k x cells n m):bg false x=some n:=by
 rcases h with ⟨rfl,rfl,_,_⟩ | ⟨p,v,off,cs,rfl,_,_,_⟩<;>rfl
theorem EP.cl (h:EP k x cells n m):L_ x=some [x]:=by
 rcases h with ⟨rfl,rfl,_,_⟩ | ⟨p,v,off,cs,rfl,_,_,_⟩<;>rfl
theorem EP.YR (h:EP k x cells n m):cells.length=n*k:=by
 rcases h with ⟨rfl,rfl,rfl,_⟩ | ⟨p,v,off,cs,rfl,_,h1,rfl⟩
 ·simp
 ·simp [BL];omega
theorem EP.pos (h:EP k x cells n m) (hn:0<n): ∃p v off cs,x= .sl p v off n/\m=pt p (.row v k cs)/\off+n*k<=cs.length/\cells=BL cs off (n*k):=by
 rcases h with ⟨rfl,rfl,rfl,_⟩ | h
 ·omega
 ·exact h
theorem X0 {cs:List AA} {off a b:Nat}:(BL cs off a).drop b=BL cs (off+b) (a-b):=by simp [BL,List.drop_take,List.drop_drop]
theorem EP.tail {p v off:Nat} (h:EP k (.sl p v off n) cells n m) {j:Nat} (hj:j<=n):EP k (.sl p v (off+j*k) (n-j)) (cells.drop (j*k)) (n-j) m:=by
 rcases h with ⟨h,_⟩ | ⟨p',v',off',cs,e,rfl,h1,rfl⟩
 ·cases h
 ·cases e;have:=Nat.mul_le_mul_right k hj;refine .inr ⟨p,v,off+j*k,cs,rfl,rfl,by rw [Nat.sub_mul];omega,?_⟩;rw [X0,Nat.sub_mul]
theorem EP.elem {p v off:Nat} (h:EP k (.sl p v off n) cells n (pt p (.row v k cs))):True:=trivial
theorem KF {off j k n:Nat} (h:off+n*k<=cs.length) (hj:j<n):takeN k (cs.drop (off+j*k))=some ((BL cs off (n*k)).drop (j*k) |>.take k):=by
 have h1:j*k+k<=n*k:=by have:=Nat.mul_le_mul_right k (show j+1<=n by omega);rw [Nat.add_mul] at this;omega
 rw [FB _ _ (by rw [List.length_drop];omega),X0];unfold BL;rw [List.take_take,Nat.min_eq_left (by omega)]
end
theorem rM {S:AB} {p q:Nat} {o o':Ob} {X:HM} (h:Has S (pt p o+(pt q o'+X))):Sub (fun i=>if i=0 then p else q) [o,o'] S:=by
 have hpq:p≠q:=by
  obtain ⟨x,rfl⟩:=X.ex;have h:KL S ((p,o)::(q,o')::x):=h;intro e;have:=(List.nodup_cons.1 h.nd).1;exact this (by simp [e])
 refine ⟨fun l l' h1 h2 e=>?_,fun l o'' hl=>?_⟩
 ·simp only [List.length_cons,List.length_nil] at h1 h2;rcases l with _ | _ | l<;>rcases l' with _ | _ | l'<;>first | rfl | (simp at e;exact absurd e hpq) | (simp at e;exact absurd e.symm hpq) | omega
 ·rcases l with _ | _ | l
  ·simp at hl;subst hl;exact ⟨_,h.get,.refl _⟩
  ·simp at hl;subst hl;exact ⟨_,h.right.get,.refl _⟩
  ·simp at hl
theorem Uq {S:AB}:Sub id [] S:=⟨fun l l' h=>by simp at h,fun l o h=>by simp at h⟩
theorem HC.sF {P:Program} {f:FuncId} {args:List AA} {R:AA->HM->Prop} {K:AA->AB->Prop} (h:HC P f args HM.nil R) (hR: ∀r m' S',R r m'->Has S' m'-> ∃r' φ S'',PM r r'/\Sub φ S'' S'/\K r' S''):AU P f args [] K:=
 (h [] HM.nil (by rw [HM.add_nil];exact ⟨.nil,fun p h=>by simp at h⟩)).Zm fun r S' ⟨m',h1,h2⟩=>hR r m' S' h1 h2.left
section
variable {P : Program} {F : Frame} {S : AB} {K : AA -> AB -> Prop} {m a : HM} {g : HM -> HM} {x y : AL} {X : AA} {cells ys : List AA} {k n n' b : Nat}
theorem Dx.one (h:ys.length=k):Dx m k (.Em 1 ys) 1 ys:=⟨rfl,by omega,by rw [List.take_of_length_le (by omega)]⟩
theorem Dx.own {p v off:Nat} {cs:List AA} {o:Ob} {f:Ob->HM} [i:At m p o f] (ho:o= .row v k cs) (hle:off+n*k<=cs.length):Dx m k (.sl p v off n) n (BL cs off (n*k)):=⟨rfl,cs,f,o,i,ho,hle,rfl⟩
theorem GJ (hS:Has S m) (hx:rd F x=X) (hs:EP k X cells n a) [i:Part m a g] (hy:Dx m k (rd F y) n' ys) (hl:ys.length=n'*k) (hb:(n+n')*b<=140737488355328) (h: ∀X' a' S',EP k X' (cells++ys) (n+n') a'->Has S' (g a')->K X' S'):AF P F S K (.append k b x y):=by
 obtain ⟨R,hR⟩:=i.split;have hS':Has S (a+R):=by have:=i.eq▸hS;rwa [hR] at this
 rcases hs with ⟨rfl,rfl,rfl,rfl⟩ | ⟨p,v,off,cs,rfl,rfl,h1,rfl⟩
 ·refine R4 hS hx hy (by simpa using hb) fun v l S' hS'=>?_;have hE:m=R:=by rw [i.eq,hR];exact HM.nil_add _
  have:=h (.sl l v 0 n') (pt l (.row v k ys)) S' (by rw [List.nil_append,Nat.zero_add];exact EP.whole hl) (by rw [hR,<-hE];exact hS');exact this
 ·have hy':Dx (pt p (.row v k cs)+R) k (rd F y) n' ys:=by
   have e:m=pt p (.row v k cs)+R:=by rw [i.eq,hR]
   rw [<-e];exact hy
  refine Qs hS' hx hy' (i:=inferInstance) rfl h1 hb fun v' S'' hS''=>?_;refine h (.sl p v' 0 (n+n')) (pt p (.row v' k (BL cs off (n*k)++ys))) S'' ?_ (by rw [hR];exact hS'');have hc:(BL cs off (n*k)).length=n*k:=by simp [BL];omega
  exact EP.whole (by rw [List.length_append,hc,hl,Nat.add_mul])
theorem Jd {p v:Nat} {f:Ob->HM} {o:Ob} {cs:List AA} (hS:Has S m) (hx:rd F x= .sl p v 0 n) (hy:Dx m k (rd F y) n' ys) [i:At m p o f] (ho:o= .row v k cs) (hl:cs.length=n*k) (hb:(n+n')*b<=140737488355328) (h: ∀v' S',Has S' (f (.row v' k (cs++ys)))->K (.sl p v' 0 (n+n')) S'):AF P F S K (.append k b x y):=by
 refine Qs hS hx hy ho (by omega) hb fun v' S' hS'=>h v' S' ?_;have e:BL cs 0 (n*k)=cs:=by unfold BL;rw [List.drop_zero,List.take_of_length_le (by omega)]
 rw [e] at hS';exact hS'
theorem r9 {c:AL} (hc:rd F c= .tt) (h:K (rd F x) S):AF P F S K (.pick c x y):=by refine AD.2 ?_;rw [hc];exact AD.2 h
theorem r8 {c:AL} (hc:rd F c= .ff) (h:K (rd F y) S):AF P F S K (.pick c x y):=by refine AD.2 ?_;rw [hc];exact AD.2 h
end
end Go.Vc
end
section
namespace Go.Vc
open HM
def RC (P:Program) (f:FuncId) (args:List AA) (r0:AA):Prop:=AU P f args [] fun r _=>r=r0
section
variable {P : Program} {f : FuncId} {args : List AA} {r0 : AA} {S : AB} {m a : HM} {K : AA -> AB -> Prop} {R : AA -> HM -> Prop}
theorem RC.use (h:RC P f args r0) (hk:K r0 S):AU P f args S K:=AU.use (Q:=fun r=>r=r0) h fun r e=>e▸hk
theorem RC.of (n:Nat) (h:HC P f args HM.nil R) (hR: ∀r m' S',R r m'->Has S' m'->deref S' n r=r0):RC P f args r0:=
 AU.freeze n ((h [] HM.nil (by rw [HM.add_nil];exact Has.nil)).mono fun r S' ⟨m',h1,h2⟩=>hR r m' S' h1 h2.left)
theorem RC.val (h:HC P f args HM.nil fun r _=>r=r0):RC P f args r0:=RC.of 0 h fun r m' S' e _=>e
theorem Has.rest (h:Has S m): ∃mf,Has S (m+mf)/\ ∀S',Has S' (m+mf)-> ∀(l:Nat) o,S[l]?=some o->S'[l]?=some o:=by
 obtain ⟨H,rfl⟩:=m.ex;have h:KL S H:=h
 let G:Hp:=((List.range S.length).filter fun l=> !(H.map (·.1)).contains l).map fun l=>(l,S.getD l .dead)
 have gk:G.map (·.1)=(List.range S.length).filter fun l=> !(H.map (·.1)).contains l:=by
  simp only [G,List.map_map];exact List.map_id' _
 have hG:KL S (H++G):=by
  refine ⟨?_,fun p hp=>?_⟩
  ·rw [List.map_append,gk];refine List.nodup_append.2 ⟨h.nd,(List.nodup_range).sublist (List.filter_sublist),fun x hx y hy=>?_⟩;rintro rfl;have:=(List.mem_filter.1 hy).2;simp only [Bool.not_eq_true',List.contains_eq_mem,decide_eq_false_iff_not] at this;exact this hx
  ·rcases List.mem_append.1 hp with hp | hp
   ·exact h.at_ p hp
   ·obtain ⟨l,hl,rfl⟩:=List.mem_map.1 hp;have:=List.mem_range.1 (List.mem_filter.1 hl).1;simp [List.getD,List.getElem?_eq_getElem this]
 refine ⟨of G,hG,fun S' h' l o hl=>?_⟩;have h':KL S' (H++G):=h';by_cases c:l∈H.map (·.1)
 ·obtain ⟨p,hp,e⟩:=List.mem_map.1 c;have h1:=h.at_ p hp;have h2:=h'.at_ p (List.mem_append_left _ hp);rw [e] at h1 h2;rw [h2,<-h1,hl]
 ·have hlt:=(List.getElem?_eq_some_iff.1 hl).1;have:=h'.at_ (l,S.getD l .dead) (List.mem_append_right _ (List.mem_map.2 ⟨l,List.mem_filter.2 ⟨List.mem_range.2 hlt,by simpa using c⟩,rfl⟩));rw [show S.getD l .dead=o by simp [List.getD,hl]] at this;exact this
theorem HC.quiet {g:HM->HM} [i:Part m a g] (hc:HC P f args a R) (hR: ∀r m',R r m'->r=r0/\ ∃X,m'=a+X) (h:Has S m) (hk:K r0 S):AU P f args S K:=by
 obtain ⟨R0,hm⟩:=i.split;have h:=i.eq▸h;rw [hm] at h;obtain ⟨mf,h1,h2⟩:=h.rest;refine (hc S (R0+mf) (h1.eq (by ac_rfl))).Zm fun r S' ⟨m',g1,g2⟩=>?_;obtain ⟨rfl,X,rfl⟩:=hR r m' g1;have g3:=(g2.eq (m':=(a+R0+mf)+X) (by ac_rfl)).left;exact ⟨_,id,S,PM.refl _,⟨fun l l' _ _ e=>e,fun l o hl=>⟨o,h2 S' g3 l o hl,.refl o⟩⟩,hk⟩
theorem vH {F:Frame} {x y:AL} {ik:IntKind} {a b:Int} (hx:rd F x= .int ik a) (hy:rd F y= .int ik b) (h:K (.int ik (max a b)) S):AF P F S K (.max [x,y]):=by
 refine MU ?_;simp only [List.map_cons,List.map_nil,hx,hy];exact ⟨rfl,h⟩
end
end Go.Vc
end
section
namespace Go.Vc
open HM
def BP (S:AB):Nat->AA->AA
 | 0,x=>x
 | n+1,.sl l v off len=>match S[l]? with
  | some (.row v' k cs)=>if v'=v then .Em len (((cs.drop off).take (len*k)).map (BP S n)) else .sl l v off len
  | _=>.sl l v off len
 | n+1,.ptr l v off=>match S[l]? with
  | some (.row v' _ cs)=>if v'=v then .Fm ((cs.drop off).map (BP S n)) else .ptr l v off
  | _=>.ptr l v off
 | n+1,.agg cs=>.agg (cs.map (BP S n))
 | n+1,.DG cs=>.DG (cs.map (BP S n))
 | _+1,.AM=>.Em 0 []
 | _+1,x=>x
theorem PW {E:Env} {fz:Nat->Prop} {S:AB} {w:World} (st:St E fz S w): ∀(n:Nat) (x:AA) (v:Value),Rel E fz w x v->Rel E (frozen E fz S) w (BP S n x) v:=by
 have up: ∀(x:AA) (v:Value),Rel E fz w x v->Rel E (frozen E fz S) w x v:=fun x v h=>Rel.mono (fun _ _ h=>h) (fun _ h=>.inl h) (fun _ _=>rfl) x h;intro n
 induction n with
 | zero=>intro x v h;exact up x v h
 | succ n ih=>
  intro x v h;have row: ∀ {l ver k:Nat} {cs:List AA} {b base cap k0:Nat},S[l]?=some (.row ver k cs)->E ver=some (.real b base cap k0)->frozen E fz S b/\CR E fz w b base cs:=fun {l ver k cs b base cap k0} hl hv=>by
   rcases st.ok l _ hl with ⟨h1,_⟩ | ⟨b',base',cap',arr,T,lo,hi,h1,_,_,_,_,h6,_⟩
   ·rw [h1] at hv;cases hv
   ·rw [h1] at hv;cases hv;exact ⟨.inr ⟨l,_,hl,by simp [AR,h1]⟩,h6⟩
  cases x
  case sl l ver off len=>
   simp only [BP];split
   ·rename_i v' k cs hl;split
    ·rename_i he;subst he;simp only [Rel] at h |-;rcases h with ⟨h1,a,h2⟩ | ⟨b,base,cap,k0,c,h1,h2,h3,h4⟩
     ·exact .inl ⟨h1,a,0,h2⟩
     ·obtain ⟨g1,g2⟩:=row hl h1;exact .inr ⟨b,base+off,c,g1,h2,h4,Ni ih _ _ ((g2.drop off).take _)⟩
    ·exact up _ _ h
   ·exact up _ _ h
  case ptr l ver off=>
   simp only [BP];split
   ·rename_i v' k cs hl;split
    ·rename_i he;subst he;simp only [Rel] at h |-;obtain ⟨b,base,cap,k0,h1,h2⟩:=h;obtain ⟨g1,g2⟩:=row hl h1;exact ⟨b,base+off,g1,h2,Ni ih _ _ (g2.drop off)⟩
    ·exact up _ _ h
   ·exact up _ _ h
  case agg cs=>
   simp only [BP,Rel] at h |-;obtain ⟨vs,h1,h2,h3⟩:=h;exact ⟨vs,h1,Le ih cs vs h2,h3⟩
  case DG cs=>
   simp only [BP,Rel] at h |-;obtain ⟨vs,h1,h2⟩:=h;exact ⟨vs,h1,Le ih cs vs h2⟩
  case AM=>
   simp only [BP,Rel] at h |-;exact .inl ⟨by simp,none,0,h⟩
  all_goals exact up _ _ h
theorem AU.iu {P:Program} {f:FuncId} {args:List AA} {R:AA->AB->Prop} (n:Nat) (h:AU P f args [] (fun r S'=>R (BP S' n r) [])):AU P f args [] R:=
 ⟨fun E fz w vals st hrel=>(h.out E fz w vals st hrel).mono fun e w' ⟨r,S',v,E',fz',h1,h2,h3,h4,h5⟩=>
  ⟨_,[],v,E',frozen E' fz' S',h1,⟨h2.env,fun b hb=>.inl (h2.WI b hb),fun b hb=>hb.elim (h2.Gi b) fun ho=>.inr (h2.own b ho),h2.AW,fun b ⟨l,o,hl,_⟩=>by simp at hl,h2.size,h2.os,h2.output,h2.tape⟩,
   h3.freeze,PW h3 n r v h4,h5⟩⟩
section
variable {P : Program} {f : FuncId} {args : List AA} {r0 : AA} {S : AB} {m mf : HM} {R : AA -> HM -> Prop} {k n : Nat} {x : AA} {cells : List AA}
theorem RC.xN (n:Nat) (h:HC P f args HM.nil R) (hR: ∀r m' S',R r m'->Has S' m'->BP S' n r=r0):RC P f args r0:=
 AU.iu n ((h [] HM.nil (by rw [HM.add_nil];exact Has.nil)).mono fun r S' ⟨m',h1,h2⟩=>hR r m' S' h1 h2.left)
theorem Jt {p v off len k:Nat} {cs:List AA} (hS:Has S (pt p (.row v k cs)+m)) (d:Nat):BP S (d+1) (.sl p v off len)= .Em len ((BL cs off (len*k)).map (BP S d)):=by
 simp only [BP];rw [hS.get];simp [BL]
theorem EP.BP (h:EP k x cells n m) (hS:Has S (m+mf)) (d:Nat):Go.Vc.BP S (d+1) x= .Em n (cells.map (Go.Vc.BP S d)):=by
 rcases h with ⟨rfl,rfl,rfl,rfl⟩ | ⟨p,v,off,cs,rfl,rfl,h1,rfl⟩
 ·rfl
 ·exact Jt hS d
theorem KY (h: ∀c∈cells,Go.Vc.BP S n c=c):cells.map (Go.Vc.BP S n)=cells:=(List.map_congr_left h).trans (List.map_id' _)
theorem e_ (s:List UInt8):BP S n (.str s)= .str s:=by cases n<;>rfl
theorem jC {F:Frame} {K:AA->AB->Prop} {t l v k n off:Nat} {ag:Bool} {x:AL} {o:Ob} {g:Ob->HM} {cs xs:List AA} {r:AA} (hS:Has S m) (hx:rd F x= .ptr l v off) [i:At m l o g] (ho:o= .row v k cs) (ht:takeN n (cs.drop off)=some xs) (hm:qL ag xs=some r) (hr:rd F (.t t)=r) (h:K .Ci S):AF P F S K (.again t n ag x):=by
 refine AD.2 (AD.2 ?_);rw [hx,hr];refine hS.row ho ?_;cases k with
 | zero=>exact CT.2 (DW.2 ⟨xs,ht,K4 hm ⟨rfl,h⟩⟩)
 | succ k=>exact ⟨xs,ht,K4 hm ⟨rfl,h⟩⟩
theorem cI {F:Frame} {K:AA->AB->Prop} {t n:Nat} {ag:Bool} {x:AL} {cs xs:List AA} {r:AA} (hx:rd F x= .Fm cs) (ht:takeN n cs=some xs) (hm:qL ag xs=some r) (hr:rd F (.t t)=r) (h:K .Ci S):AF P F S K (.again t n ag x):=by
 refine AD.2 (AD.2 ?_);rw [hx,hr];exact DW.2 ⟨xs,ht,K4 hm ⟨rfl,h⟩⟩
theorem vI {F:Frame} {K:AA->AB->Prop} {x y:AL} {ik:IntKind} {a b:Int} (hx:rd F x= .int ik a) (hy:rd F y= .int ik b) (h:K (.int ik (min a b)) S):AF P F S K (.min [x,y]):=by
 refine MU ?_;simp only [List.map_cons,List.map_nil,hx,hy];exact ⟨rfl,h⟩
theorem Dx.Em {cs:List AA} (h:cs.length=n*k):Dx m k (.Em n cs) n cs:=⟨rfl,by omega,(List.take_of_length_le (by omega)).symm⟩
end
end Go.Vc
end
section
namespace Go.Vc
section
variable {P : Program} {E : Env} {fz : Nat -> Prop} {S : AB} {w : World} {N : Nat}
def jO (F:Frame):List Nat->List AA->Frame
 | p::ps,x::xs=>jO ((p,x)::F) ps xs
 | _,_=>F
structure wC (P:Program) (N:Nat) (L:Loop) (ps:List Nat) (sa sb:Ak):Prop where
 Ej:L.params.toList=ps
 ready:L.state= .ready
 vM:L.pending=none
 size:L.tmps.size=N
 lt: ∀p∈ps,p<N
 ca: ∃h,comp P N L.assign h=some sa
 cb: ∃h,comp P N L.body h=some sb
theorem Xp: ∀(ps:List Nat) (xs:List AA) (vs:List Value) {F:Frame} {t:Array Value},B3 E fz w F t->AZ E fz w xs vs->t.size=N->(∀p∈ps,p<N)->xs.length=ps.length->
  B3 E fz w (jO F ps xs) ((ps.zip vs).foldl (fun t (x:Nat×Value)=>t.setIfInBounds x.1 x.2) t)/\((ps.zip vs).foldl (fun t (x:Nat×Value)=>t.setIfInBounds x.1 x.2) t).size=N
 | [],[],vs,F,t,hF,hr,hN,hp,hl=>by
  simp only [AZ] at hr;subst hr;exact ⟨hF,hN⟩
 | p::ps,x::xs,vs,F,t,hF,hr,hN,hp,hl=>by
  simp only [AZ] at hr;obtain ⟨v,us,rfl,h1,h2⟩:=hr;have h3:=Vg (d:=some p) (a:=({tmps:=t,defers:=[]}:Act)) hF h1 (by simp [aa,hN,hp p (List.mem_cons_self ..)]);exact Xp ps xs us h3 h2 (by simp [Act.put,hN]) (fun q hq=>hp q (List.mem_cons_of_mem _ hq)) (by simpa using hl)
 | [],x::xs,_,_,_,_,_,_,_,hl=>by simp at hl
 | p::ps,[],_,_,_,_,_,_,_,hl=>by simp at hl
theorem St.aside (st:St E fz S w) {b:Nat} {o:Obj} (hno: ¬Own E S b) (hfz: ¬fz b):St E fz S (w.putObj b o):=by
 have hk: ∀k,k≠b->(w.putObj b o).heap[k]?=w.heap[k]?:=fun k h=>World.putObj_heap_other h;refine ⟨fun l o' hl=>(st.ok l o' hl).mono (fun _ _ h=>h) (fun _ h=>h) (fun k hk'=>hk k fun e=>hfz (e▸hk')) fun k hk'=>⟨hk k fun e=>hno ⟨l,o',hl,e▸hk'⟩,(st.EU ⟨o',hl,hk'⟩).2⟩,st.sep,fun k h=>by rw [World.putObj_size];exact st.Fx k h,st.fresh⟩
theorem ZL {p b:Nat} {ob:Ob} (st:St E fz S w) (hp:S[p]?=some ob) (hb:AR E ob=some b): ¬Own E (S.set p .dead) b:=by
 rintro ⟨l,o,h1,h2⟩;by_cases e:l=p
 ·subst e;rw [List.getElem?_set_self (List.getElem?_eq_some_iff.1 hp).1] at h1;cases h1;simp [AR] at h2
 ·rw [List.getElem?_set_ne (Ne.symm e)] at h1;exact e (st.sep _ _ _ ⟨o,h1,h2⟩ ⟨ob,hp,hb⟩)
theorem St.kill (st:St E fz S w) {p b:Nat} {ob:Ob} {o:Obj} (hp:S[p]?=some ob) (hb:AR E ob=some b):St E fz (S.set p .dead) (w.putObj b o)/\Ext E fz S w E fz (S.set p .dead) (w.putObj b o):=
 st.dv p .dead (fun _ _ h=>h) st.fresh (fun l' hl'=>by rw [List.getElem?_set_ne (Ne.symm hl')]) (List.getElem?_set_self (List.getElem?_eq_some_iff.1 hp).1) (by rw [World.putObj_size];exact Nat.le_refl _)
  (fun k _ hn=>World.putObj_heap_other fun e=>hn ⟨ob,hp,e▸hb⟩) (fun k hk=>by simp [AR] at hk) trivial rfl rfl (Tp.of rfl (Nat.le_refl _))
theorem St.uS (st:St E fz S w) {p b:Nat} {ob:Ob} {o:Obj} (hp:S[p]?=some .dead) (hno: ¬Own E S b) (hfz: ¬fz b) (hob:AR E ob=some b) (hok:P5 E fz (w.putObj b o) ob):St E fz (S.set p ob) (w.putObj b o):=by
 have ha:=st.aside (o:=o) hno hfz;have hlt:=(List.getElem?_eq_some_iff.1 hp).1;have back: ∀l k,l≠p->DH E (S.set p ob) l k->DH E S l k:=fun l k e ⟨o',h1,h2⟩=>by
  rw [List.getElem?_set_ne (Ne.symm e)] at h1;exact ⟨o',h1,h2⟩
 have at_p: ∀k,DH E (S.set p ob) p k->k=b:=fun k ⟨o',h1,h2⟩=>by
  rw [List.getElem?_set_self hlt] at h1;cases h1;rw [hob] at h2;cases h2;rfl
 refine ⟨fun l o' hl=>?_,fun l l' k h1 h2=>?_,ha.Fx,ha.fresh⟩
 ·by_cases e:l=p
  ·subst e;rw [List.getElem?_set_self hlt] at hl;cases hl;exact hok
  ·rw [List.getElem?_set_ne (Ne.symm e)] at hl;exact ha.ok l o' hl
 ·by_cases e1:l=p<;>by_cases e2:l'=p
  ·rw [e1,e2]
  ·subst e1;have:=at_p k h1;subst this;exact absurd ⟨l',back _ _ e2 h2⟩ hno
  ·subst e2;have:=at_p k h2;subst this;exact absurd ⟨l,back _ _ e1 h1⟩ hno
  ·exact st.sep _ _ _ (back _ _ e1 h1) (back _ _ e2 h2)
theorem Kn.of (hD:N9 P N) {L:Loop} {ps:List Nat} {sa sb:Ak} {b p:Nat} {F:Frame} {args:List AA} {K:AA->AB->Prop} (hL:wC P N L ps sa sb) (hp:S[p]?=some (.GP b L F)) (hl:args.length=ps.length)
  {Q1 Q2:BU->Frame->AB->Prop} (h:vc P sa Q1 (jO F ps args) S) (h1: ∀e F1 S1,Q1 e F1 S1->e= .normal/\S1[p]?=some (.GP b L F)/\vc P sb Q2 F1 (S1.set p .dead)) (h2: ∀e F2 S2,Q2 e F2 S2->e= .normal/\S2[p]?=some .dead/\K (.bool true) (S2.set p (.GP b L F))):Kn P b args S K:=by
 refine ⟨fun E fz w vals st hrel=>?_⟩;obtain ⟨k1,k2,k3,k4,k5⟩:=st.ok p _ hp;obtain ⟨ha,hca⟩:=hL.ca;obtain ⟨hb,hcb⟩:=hL.cb;have hvl:=hrel.length;have Ej:=hL.Ej;have hz:(L.params.zip vals.toArray).foldl (fun (tmps:Array Value) (x:Nat×Value)=>tmps.setIfInBounds x.1 x.2) L.tmps=((ps.zip vals).foldl (fun t (x:Nat×Value)=>t.setIfInBounds x.1 x.2) L.tmps):=by
  rw [<-Array.foldl_toList,Array.toList_zip,Ej]
 obtain ⟨hF1,hN1⟩:=Xp ps args vals (F:=F) (t:=L.tmps) k4 hrel hL.size hL.lt hl;refine ⟨L.fn,_,L.assign,L.body,run_yield k1 (by rw [<-Array.length_toList,<-Array.length_toList,Ej];simp only;omega),roundIn_of_wpIn trivial ?_⟩;have hz':(Array.foldl (fun tmps x=>match x with | (t,a)=>tmps.setIfInBounds t a) L.tmps (L.params.zip vals.toArray))=((ps.zip vals).foldl (fun t (x:Nat×Value)=>t.setIfInBounds x.1 x.2) L.tmps):=hz;rw [hz'];refine wpIn_mono (EB (rr:=some b) hD L.assign _ sa hca (a:={tmps:=_,defers:=[]}) st hF1 hN1 h) ?_;rintro e a1 w1 hq;cases e<;>simp only [P4] at hq<;>first | exact hq.elim | (obtain ⟨F1,S1,E1,fz1,h0,_⟩:=hq;cases (h1 _ _ _ h0).1;done) | skip
 obtain ⟨F1,S1,E1,fz1,hq1,x1,st1,r1,n1,d1,_⟩:=hq;obtain ⟨_,hp1,hb1⟩:=h1 _ _ _ hq1;obtain ⟨m1,m2,m3,m4,m5⟩:=st1.ok p _ hp1;refine ⟨_,run_beginRound m1 m2,?_⟩;obtain ⟨st2,x2⟩:=st1.kill (o:= .loop {L with state:= .busy}) hp1 (show AR E1 (.GP b L F)=some b from rfl);refine wpIn_mono (EB (rr:=some b) hD L.body _ sb hcb st2 (B3.mono st1 x2 r1) n1 hb1) ?_;rintro e a2 w3 hq;cases e<;>simp only [P4] at hq<;>first | exact hq.elim | (obtain ⟨F1,S1,E1,fz1,h0,_⟩:=hq;cases (h2 _ _ _ h0).1;done) | skip
 obtain ⟨F3,S3,E3,fz3,hq2,x3,st3,r3,n3,d3,_⟩:=hq;obtain ⟨_,hp3,hk⟩:=h2 _ _ _ hq2;have hlt1:b<w1.heap.size:=(Array.getElem?_eq_some_iff.1 m1).1;have no2:=ZL st1 hp1 (show AR E1 (.GP b L F)=some b from rfl);have h3:w3.heap[b]?=some (.loop {L with state:= .busy}):=by
  rw [x3.AW b (by rw [World.putObj_size];exact hlt1) no2];exact World.putObj_heap_same hlt1
 have hlt3:b<w3.heap.size:=(Array.getElem?_eq_some_iff.1 h3).1;have no3: ¬Own E3 S3 b:=fun q=>(x3.own b q).elim no2 fun q=>by rw [World.putObj_size] at q;omega
 have nf3: ¬fz3 b:=fun q=>(x3.Gi b q).elim m5 fun q=>q.elim no2 fun q=>by rw [World.putObj_size] at q;omega
 have hLe:({({L with state:= .busy}:Loop) with state:=if (none:Option Code).isNone then .ready else .done,pending:=none}:Loop)=L:=by
  have a1:=hL.ready;have a2:=hL.vM;cases L;simp only at a1 a2;subst a1 a2;rfl
 have hre:=run_endRound (P:=P) none h3;rw [hLe] at hre;have xx:=(x1.trans x2).trans x3;have st4:St E3 fz3 (S3.set p (.GP b L F)) (w3.putObj b (.loop L)):=by
  refine st3.uS hp3 no3 nf3 rfl ⟨World.putObj_heap_same hlt3,hL.ready,hL.vM,fun n=>?_,nf3⟩;have:=st.rel xx (k4 n);exact Rel.mono (fun _ _ h=>h) (fun _ h=>h) (fun k hk'=>World.putObj_heap_other (r:=b) fun e=>nf3 (by subst e;exact hk')) _ this
 have ob:Own E S b:=⟨p,_,hp,rfl⟩
 have x4:Ext E fz S w E3 fz3 (S3.set p (.GP b L F)) (w3.putObj b (.loop L)):=by
  refine ⟨xx.env,xx.WI,xx.Gi,fun k hk' hn=>?_,fun k ⟨l,o,q1,q2⟩=>?_,by rw [World.putObj_size];exact xx.size,xx.os,xx.output,xx.tape⟩
  ·rw [World.putObj_heap_other (r:=b) fun e=>hn (by subst e;exact ob)];exact xx.AW k hk' hn
  ·by_cases e:l=p
   ·subst e;rw [List.getElem?_set_self (List.getElem?_eq_some_iff.1 hp3).1] at q1;cases q1;simp [AR] at q2;subst q2;exact .inl ob
   ·rw [List.getElem?_set_ne (Ne.symm e)] at q1;exact xx.own k ⟨l,o,q1,q2⟩
 exact ⟨_,_,hre,.bool true,_,_,E3,fz3,rfl,x4,st4,by simp [Rel],hk⟩
inductive Wq where
 | wj (x:Wq) (y:Ak)
 | wk (x:Ak) (y:Wq)
 | block (id:Nat) (x:Wq)
 | wg (g:AL) (ps:List Nat) (sa sb:Ak)
 deriving Inhabited
def w4:Option Nat->List Deferred
 | none=>[]
 | some D=>[{target:= .collected D,args:= #[]}]
def Ly (N:Nat) (E:Env) (fz:Nat->Prop) (S:AB) (w:World) (a:Act) (K:Frame->AB->Prop) (a':Act) (w':World):Prop:=
 ∃F' S' E' fz' mk,K F' S'/\Ext E fz S w E' fz' S' w'/\St E' fz' S' w'/\B3 E' fz' w' F' a'.tmps/\a'.tmps.size=N/\a'.defers=w4 mk++a.defers/\
  ∀D,mk=some D->w.heap.size<=D/\w'.heap[D]?=some (.deferred (some []))/\ ¬Own E' S' D/\ ¬fz' D
def vw (P:Program) (N:Nat):Wq->(BU->Frame->AB->Prop)->Frame->AB->Prop
 | .wj x y,Q,F,S=>vw P N x (BU.Dj (vc P y Q) Q) F S
 | .wk x y,Q,F,S=>vc P x (BU.Dj (vw P N y Q) Q) F S
 | .block id x,Q,F,S=>vw P N x (BU.Gz id Q) F S
 | .wg g ps sa sb,Q,F,S=> ∃gf cap,rd F g= .fn (.func gf) [] cap/\Cy P gf=true/\ ∀b L,wC P N L ps sa sb->
   AU P gf (.fn (.yield b) [] []::cap) (S++[.GP b L F]) (fun r S'=>S'[S.length]?=some (.GP b L F)/\Q .normal F (S'.set S.length .dead))
theorem Ha.m {a a':Act} {W:List Nat} {K:Frame->AB->Prop} {w':World} (h:Ha N E fz S w a W K a' w'):Ly N E fz S w a K a' w':=by
 obtain ⟨F',S',E',fz',q1,q2,q3,q4,q5,q6,_⟩:=h;exact ⟨F',S',E',fz',none,q1,q2,q3,q4,q5,q6,fun D h=>by cases h⟩
theorem Ly.step {a a1 a':Act} {K':Frame->AB->Prop} {w1 w':World} {W:List Nat} {S1:AB} {E1:Env} {fz1:Nat->Prop} {mk:Option Nat} (q2:Ext E fz S w E1 fz1 S1 w1) (q6:a1.defers=w4 mk++a.defers)
  (q7: ∀D,mk=some D->w.heap.size<=D/\w1.heap[D]?=some (.deferred (some []))/\ ¬Own E1 S1 D/\ ¬fz1 D) (h:Ha N E1 fz1 S1 w1 a1 W K' a' w'):Ly N E fz S w a K' a' w':=by
 obtain ⟨F2,S2,E2,fz2,p1,p2,p3,p4,p5,p6,_⟩:=h;refine ⟨F2,S2,E2,fz2,mk,p1,q2.trans p2,p3,p4,p5,by rw [p6,q6],fun D hD=>?_⟩;obtain ⟨d1,d2,d3,d4⟩:=q7 D hD;have hlt:=(Array.getElem?_eq_some_iff.1 d2).1;exact ⟨d1,by rw [p2.AW D hlt d3];exact d2,fun q=>(p2.own D q).elim d3 fun q=>by omega,fun q=>(p2.Gi D q).elim d4 fun q=>q.elim d3 fun q=>by omega⟩
theorem Ly.pre {a a1 a':Act} {K':Frame->AB->Prop} {w1 w':World} {S1:AB} {E1:Env} {fz1:Nat->Prop} (q2:Ext E fz S w E1 fz1 S1 w1) (q6:a1.defers=a.defers) (h:Ly N E1 fz1 S1 w1 a1 K' a' w'):Ly N E fz S w a K' a' w':=by
 obtain ⟨F2,S2,E2,fz2,mk,p1,p2,p3,p4,p5,p6,p7⟩:=h;exact ⟨F2,S2,E2,fz2,mk,p1,q2.trans p2,p3,p4,p5,by rw [p6,q6],fun D hD=>by obtain ⟨d1,d⟩:=p7 D hD;exact ⟨Nat.le_trans q2.size d1,d⟩⟩
theorem Ly.mono {a a':Act} {K K':Frame->AB->Prop} {w':World} (h:Ly N E fz S w a K a' w') (hk: ∀F S,K F S->K' F S):Ly N E fz S w a K' a' w':=by
 obtain ⟨F2,S2,E2,fz2,mk,p1,p⟩:=h;exact ⟨F2,S2,E2,fz2,mk,hk _ _ p1,p⟩
def ue (P:Program) (N:Nat) (c:Wq) (res:List Kk) (args:List AA) (S:AB) (R:AA->AB->Prop):Prop:=
 vw P N c (fun e F' S'=>match e with
  | .normal=>I5 F' S' (fun xs=>R9 xs fun r=>R r S') res
  | .ret=>I5 F' S' (fun xs=>R9 xs fun r=>R r S') res
  | _=>False) (TY 0 args) S
structure w_ (P:Program) (f:FuncId) (N:Nat) (c:Wq) (r:List Kk):Prop where
 I_:Cy P f=true
 out: ∀ {args:List AA} {S:AB} {R:AA->AB->Prop},args.length<=N->ue P N c r args S R->AU P f args S R
end
end Go.Vc
end
section
namespace Go.Vc
open HM
def HY (P:Program) (b:Nat) (args:List AA) (m:HM) (R:AA->HM->Prop):Prop:=
 ∀S mf,Has S (m+mf)->Kn P b args S fun r S'=> ∃m',R r m'/\Has S' (m'+mf)
theorem HY.use {P:Program} {b:Nat} {args:List AA} {m a:HM} {R:AA->HM->Prop} {g:HM->HM} [i:Part m a g] (hc:HY P b args a R) {S:AB} (h:Has S m) {K:AA->AB->Prop} (hk: ∀r m' S',R r m'->Has S' (g m')->K r S'):Kn P b args S K:=by
 obtain ⟨R0,hR⟩:=i.split;have h:=i.eq▸h;rw [hR] at h;exact (hc S R0 h).mono fun r S' ⟨m',h1,h2⟩=>hk r m' S' h1 (by rw [hR];exact h2)
theorem HC.more {P:Program} {f:FuncId} {args:List AA} {R:AA->HM->Prop} (h:HC P f args HM.nil R) {S:AB} {m:HM} (hS:Has S m) {K:AA->AB->Prop} (hk: ∀r m' S',R r m'->Has S' (m'+m)->K r S'):AU P f args S K:=
 (h S m (by rw [HM.nil_add];exact hS)).mono fun r S' ⟨m',h1,h2⟩=>hk r m' S' h1 h2
def sg (k:Nat) (x:AA) (cells:List AA) (n:Nat) (m:HM):Prop:=(x= .AM/\n=0/\cells=[]/\m=HM.nil)\/ ∃p v,x= .sl p v 0 n/\m=pt p (.row v k cells)/\cells.length=n*k
theorem sg.r {k:Nat} {x:AA} {cells:List AA} {n:Nat} {m:HM} (h:sg k x cells n m):EP k x cells n m:=by
 rcases h with ⟨rfl,rfl,rfl,rfl⟩ | ⟨p,v,rfl,rfl,h⟩
 ·exact .nil
 ·exact EP.whole h
theorem sg.len {k n:Nat} {x:AA} {cells:List AA} {m:HM} (h:sg k x cells n m):bg false x=some n:=h.r.len
theorem sg.cl {k n:Nat} {x:AA} {cells:List AA} {m:HM} (h:sg k x cells n m):L_ x=some [x]:=h.r.cl
theorem sg.nil {k:Nat}:sg k .AM [] 0 HM.nil:= .inl ⟨rfl,rfl,rfl,rfl⟩
section
variable {P : Program} {N : Nat} {F : Frame} {S : AB} {Q : BU -> Frame -> AB -> Prop}
def u9:d_->List AA->Option AA
 | .nw,[.str s,.int .u8 c]=>some (.int .i64 (Lib.indexByte s c.toNat.toUInt8))
 | _,_=>none
theorem vG {K:AA->AB->Prop} {k:d_} {xP:List AL} {r:AA} (hx:u9 k (xP.map (rd F))=some r) (h:K r S):AF P F S K (.ext k xP):=by
 refine MU ?_;generalize xP.map (rd F)=xs at*;unfold u9 at hx;split at hx
 ·cases hx;exact h
 ·cases hx
theorem HY.round {L:Loop} {ps:List Nat} {sa sb:Ak} {b p:Nat} {args:List AA} {C:HM} {C':HM->Prop} {G:Frame->Prop} (hL:wC P N L ps sa sb) (hl:args.length=ps.length)
  (ha: ∀S,vc P sa (fun e F1 S1=>e= .normal/\S1=S/\G F1) (jO F ps args) S)
  (hb: ∀F1 S mf,G F1->Has S (C+mf)->vc P sb (fun e F2 S2=>e= .normal/\ ∃m',C' m'/\Has S2 (m'+mf)) F1 S):
  HY P b args (pt p (.GP b L F)+C) fun r m'=>r= .bool true/\ ∃c,C' c/\m'=pt p (.GP b L F)+c:=by
 intro S mf hS;have hS1:Has S (pt p (.GP b L F)+(C+mf)):=hS.eq (by ac_rfl);have hd:Has (S.set p .dead) (C+(pt p .dead+mf)):=(hS1.put .dead).eq (by ac_rfl);refine Kn.of (PX P N) hL hS1.get hl (ha S) (Q2:=fun e F2 S2=>e= .normal/\ ∃m',C' m'/\Has S2 (m'+(pt p .dead+mf))) ?_ ?_
 ·rintro e F1 S1 ⟨rfl,rfl,hG⟩;exact ⟨rfl,hS1.get,hb F1 _ _ hG hd⟩
 ·rintro e F2 S2 ⟨rfl,m',h1,h2⟩;have h3:Has S2 (pt p .dead+(m'+mf)):=h2.eq (by ac_rfl);exact ⟨rfl,h3.get,_,⟨rfl,m',h1,rfl⟩,(h3.put _).eq (by ac_rfl)⟩
end
end Go.Vc
end
section
namespace Go.Vc
open HM
theorem Has.map {l v:Nat} {S:AB} {m:HM} {o:Ob} {f:Ob->HM} {es:List (AA×AA)} [i:At m l o f] (h:Has S m) {K:List (AA×AA)->Prop} (ho:o= .Cw v es) (hk:K es):dh S l v K:=Co.2 ⟨es,by rw [h.here (l:=l),ho],hk⟩
def Keys (q:M6) (es:List (AA×AA)):Prop:= ∀e∈es,IA q e.1=true
theorem Keys.nil {q:M6}:Keys q []:=fun _ h=>by cases h
theorem Keys.put {q:M6} {es:List (AA×AA)} {y x:AA} (h:Keys q es) (hy:IA q y=true):Keys q (HA y x es):=fun e he=>by
 unfold HA at he;split at he
 ·rcases List.mem_or_eq_of_mem_set he with he | he
  ·exact h e he
  ·rw [he];exact hy
 ·rcases List.mem_append.1 he with he | he
  ·exact h e he
  ·simp only [List.mem_singleton] at he;rw [he];exact hy
def XX (ok:Bool) (d y:AA) (es:List (AA×AA)):AA:=match HN y es with | some (_,u)=>S4 ok u true | none=>S4 ok d false
theorem fg {ok:Bool} {d y u:AA} {es:List (AA×AA)} {j:Nat} (h:HN y es=some (j,u)):XX ok d y es=S4 ok u true:=by unfold XX;rw [h]
theorem fe {ok:Bool} {d y:AA} {es:List (AA×AA)} (h:HN y es=none):XX ok d y es=S4 ok d false:=by unfold XX;rw [h]
theorem Sw {y x u:AA} {es:List (AA×AA)} {j:Nat} (h:HN y es=some (j,u)):HA y x es=es.set j (y,x):=by unfold HA;rw [h]
theorem bX {y x:AA} {es:List (AA×AA)} (h:HN y es=none):HA y x es=es++[(y,x)]:=by unfold HA;rw [h]
section
variable {P : Program} {F : Frame} {S : AB} {K : AA -> AB -> Prop} {m : HM} {x y z : AL} {l v : Nat} {o : Ob} {f : Ob -> HM} {es : List (AA × AA)} {q : M6}
theorem vL {k k':IntKind} {a b:Int} {eq:jm} (hx:rd F x= .int k a) (hy:rd F y= .int k' b) (hb:0<=b) (h:K (.int k (a.fdiv (2 ^ (min b.toNat k.bits)))) S):AF P F S K (.bin eq .shr x y):=by
 refine AD.2 (AD.2 ?_);rw [hx,hy];exact ⟨hb,h⟩
theorem rz (hS:Has S m) (h: ∀v l S',Has S' (pt l (.Cw v [])+m)->K (.map l v) S'):AF P F S K .Mq:=fun v=>hS.TR fun l S'=>h v l S'
theorem ZJ {ok:Bool} {d:AA} (hS:Has S m) (hx:rd F x= .map l v) (hq:IA q (rd F y)=true) [i:At m l o f] (ho:o= .Cw v es) (hk:Keys q es) (h:K (XX ok d (rd F y) es) S):AF P F S K (.Ke q ok d x y):=by
 refine AD.2 (AD.2 ⟨hq,?_⟩);rw [hx];exact hS.map ho ⟨hk,h⟩
theorem o6 (hS:Has S m) (hx:rd F x= .map l v) (hq:IA q (rd F y)=true) [i:At m l o f] (ho:o= .Cw v es) (hk:Keys q es) (h: ∀S',Has S' (f (.Cw v (HA (rd F y) (rd F z) es)))->K .Ci S'):AF P F S K (.ZD q x y z):=by
 refine AD.2 (AD.2 (AD.2 ⟨hq,?_⟩));rw [hx];exact hS.map ho ⟨hk,hS.sf fun S'=>h S'⟩
end
end Go.Vc
end
