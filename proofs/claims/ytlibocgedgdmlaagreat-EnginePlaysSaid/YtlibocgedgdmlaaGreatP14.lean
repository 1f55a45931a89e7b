/- Part of the proof of enginePlays_holds: the whole is true of every input. Conditions: none. -/
import Derived.Test.YtlibocgedgdmlaaGreatP13
set_option linter.all false
section
namespace Go.Proofs
open Go.RowKit Go.Shelf Go.Vc
theorem MJ: ∃i0,Tryz.prog.info? 127=some i0/\i0.size=2/\i0.bytes=16/\ ∃z,i0.zero=some z/\z.cells.size=2/\ ∀v∈z.cells.toList,v.oneCell'=true:=
 ⟨(Tryz.prog.info? 127).get (by kernel_rfl),by kernel_rfl,by kernel_rfl,by kernel_rfl,.agg #[.int .i64 0,.bool false],by kernel_rfl,rfl,by decide⟩
set_option maxHeartbeats 4000000 in
set_option maxRecDepth 100000 in
theorem vU (b off n c i j m vb voff vc:Nat) (cs vs:List Value) (w:World) (hij:i<j) (hj:j<n) (hnc:n<=c) (hm0:1<=m) (hup:j<i+m) (hroom:i+m+(n-j)<=c) (hn6:n<=1000000) (hm6:m<=1000000) (hvb:vb≠b)
  (hcl:cs.length=n*2) (hvl:vs.length=m*2)
  (hcs: ∀k v,cs[k]?=some v->w.cell? ⟨b,off+k,none⟩=some v) (hsp: ∀k,k<(i+m+(n-j))*2->(w.cell? ⟨b,off+k,none⟩).isSome=true) (hfz: ∀k,k<(i+m+(n-j))*2->w.frozen? ⟨b,off+k,none⟩=false)
  (hvs: ∀k v,vs[k]?=some v->w.cell? ⟨vb,voff+k,none⟩=some v) (h1c: ∀v∈cs,v.oneCell'=true) (h1v: ∀v∈vs,v.oneCell'=true)
  (tA tB:TypeId) (kA kB:Nat) (hsa:w.shape? vb=some (tA,kA)) (hsb:w.shape? b=some (tB,kB)) (hkB:kB≠0) (hfa:w.frozen? ⟨vb,voff,none⟩=false) (hfe:w.frozen? ⟨vb,kA,none⟩=false) (hfb:w.frozen? ⟨b,off+(i+m)*2,none⟩=false) (hfb':w.frozen? ⟨b,kB,none⟩=false) (hkA:kA≠0):
  Calls Tryz.prog 72 #[.slice (some ⟨b,off,none⟩) n c,.int .i64 i,.int .i64 j,.slice (some ⟨vb,voff,none⟩) m vc] w fun e w'=>
   e= .returned (.slice (some ⟨b,off,none⟩) (i+m+(n-j)) c)/\w'=((w.drew.drew.setCells b (off+(i+m)*2) (cs.drop (j*2))).setCells b (off+i*2) vs):=by
 obtain ⟨i0,hi0,hz0,_⟩:=MJ;have hov: ∀lb cb,(callFunc 92 #[.slice (some ⟨b,off+(i+m)*2,none⟩) lb cb,.slice (some ⟨vb,voff,none⟩) m vc]).run Tryz.prog w.drew= .ok (.value (.bool false)) w.drew:=fun lb cb=>by
  rw [run_callFunc_extern Tryz.func92 (by kernel_rfl) (by kernel_rfl) (by kernel_rfl) (e:=Extern.SlicesOverlaps.overlaps #[59,59] #[4]) (by kernel_rfl),
   Lib.run_overlaps_apart w.drew 59 4 127 Tryz.underlying59 2 Tryz.sizeOf127 ⟨b,off+(i+m)*2,none⟩ ⟨vb,voff,none⟩ lb cb m vc (Ne.symm hvb) tB tA kB kA hsb hsa hkA hfb hfb']
  rfl
 have hdl:(cs.drop (j*2)).length=(n-j)*2:=by rw [List.length_drop,hcl];omega
 have hmin:Nat.min (n-j) (n-j)=n-j:=by simp only [Nat.min_def];split<;>omega
 have hmin2:Nat.min m (m+(n-j))=m:=by simp only [Nat.min_def];split<;>omega
 have hcp1: ∀ty dc sc,(Builtin.copy_ #[59,59] ty #[.slice (some ⟨b,off+(i+m)*2,none⟩) (n-j) dc,.slice (some ⟨b,off+j*2,none⟩) (n-j) sc]).run Tryz.prog w.drew.drew= .ok (goInt ((n-j:Nat):Int)) (w.drew.drew.setCells b (off+(i+m)*2) (cs.drop (j*2))):=fun ty dc sc=>by
  rw [EK (P:=Tryz.prog) w.drew.drew 59 59 ty 127 i0 b (off+(i+m)*2) (n-j) dc ⟨b,off+j*2,none⟩ (n-j) sc (cs.drop (j*2)) Tryz.underlying59 hi0 (by rw [hdl,hmin,hz0])
   (fun k v hk=>by rw [Addr.add_lit,Nat.add_assoc];exact hcs (j*2+k) v (by rwa [List.getElem?_drop] at hk))
   (fun k hk=>by rw [Nat.add_assoc];exact hsp _ (by omega)) (fun k hk=>by rw [Nat.add_assoc];exact hfz _ (by omega)) (fun v hv=>h1c v (List.mem_of_mem_drop hv)),hmin]
 obtain ⟨W1,hW1⟩: ∃W1,W1=w.drew.drew.setCells b (off+(i+m)*2) (cs.drop (j*2)):=⟨_,rfl⟩
 have hsp1: ∀k,k<(i+m+(n-j))*2->(W1.cell? ⟨b,off+k,none⟩).isSome=true:=fun k hk=>by
  rw [hW1];exact isSome_setCells b _ _ _ (fun k' hk'=>by rw [Nat.add_assoc];exact hsp _ (by omega)) _ (hsp k hk)
 have hcp2: ∀(W:World),(∀x,W.cell? x=W1.cell? x)->(∀x,W.frozen? x=W1.frozen? x)-> ∀ty dc,(Builtin.copy_ #[59,59] ty #[.slice (some ⟨b,off+i*2,none⟩) (m+(n-j)) dc,.slice (some ⟨vb,voff,none⟩) m vc]).run Tryz.prog W= .ok (goInt ((m:Nat):Int)) (W.setCells b (off+i*2) vs):=fun W hWc hWf ty dc=>by
  rw [EK (P:=Tryz.prog) W 59 59 ty 127 i0 b (off+i*2) (m+(n-j)) dc ⟨vb,voff,none⟩ m vc vs Tryz.underlying59 hi0 (by rw [hvl,hz0,hmin2])
   (fun k v hk=>by
    rw [Addr.add_lit,hWc,hW1,World.cell?_setCells_out b _ _ _ _ (fun h _=>absurd h hvb)];exact hvs k v hk)
   (fun k hk=>by rw [hWc,Nat.add_assoc];exact hsp1 _ (by omega)) (fun k hk=>by rw [hWf,hW1,World.frozen?_setCells,Nat.add_assoc];exact hfz _ (by omega)) h1v,hmin2]
 rw [<-hW1] at hcp1;have mixed:Tryz.prog.follows .mixedOrders=true:=by kernel_rfl
 have u22:=run_underlying Tryz.underlying59;have z24:=Tryz.sizeOf127;have hb1:(i:Int)<=(j:Int):=by omega
 have hb2:(j:Int)<=(n:Int):=by omega
 have hb2':(j:Int)<=(c:Int):=by omega
 have hb3: ¬((i:Int)=(j:Int)):=by omega
 have hb4: ¬((j:Int)=(n:Int)):=by omega
 have hb5: ¬(c=j):=by omega
 have hb6: ¬(c=i):=by omega
 have hb7: ¬(c=i+m):=by omega
 have hw1:IntKind.i64.wrap ((i:Int)+(m:Int))=((i+m:Nat):Int):=by rw [IntKind.wrap_i64];omega
 have hw2:IntKind.i64.wrap (((i+m:Nat):Int)+((n-j:Nat):Int))=((i+m+(n-j):Nat):Int):=by rw [IntKind.wrap_i64];omega
 have hb8: ¬((c:Int)<((i+m+(n-j):Nat):Int)):=by omega
 have hb9:((i+m+(n-j):Nat):Int)<=(c:Int):=by omega
 have hb10: ¬(((i+m:Nat):Int)<=(j:Int)):=by omega
 have hb11:((i+m:Nat):Int)<=((i+m+(n-j):Nat):Int):=by omega
 have hb12:(i:Int)<=((i+m+(n-j):Nat):Int):=by omega
 have hs1:i+m+(n-j)-(i+m)=n-j:=by omega
 have hs2:i+m+(n-j)-i=m+(n-j):=by omega
 have hn1:i<=c:=by omega
 have hn2:j<=c:=by omega
 have hn3:i<=n:=by omega
 have hn4:j<=n:=by omega
 have hn5:i<=j:=by omega
 have hn7:i+m<=i+m+(n-j):=by omega
 have hn8:i+m<=c:=by omega
 have hn9:i<=i+m+(n-j):=by omega
 have hq1:(0:Int)<=(i:Int)+(m:Int):=by omega
 have hq2:(i:Int)+(m:Int)<=(i:Int)+(m:Int)+((n-j:Nat):Int):=by omega
 have hq3:((i:Int)+(m:Int)).toNat=i+m:=by omega
 go_enter Tryz.func72,Tryz.ntmps72
 go_wp2_with (simp only [hov])
 go_region_law_o fail
 all_goals (go_wp2_with (simp only [hov]))
 all_goals (go_region_law_o (refine step_copy_runI rfl _ _ 59 59 rfl (.slice (some ⟨b,off+(i+m)*2,none⟩) (n-j) (c-(i+m))) (.slice (some ⟨b,off+j*2,none⟩) (n-j) (c-j)) (by simp [Act.eval,Act.put];try omega) (by simp [Act.eval,Act.put]) (hcp1 _ _ _) ?_))
 all_goals (go_wp2_with (at_builtin;refine wpList_copy_runI _ rfl _ _ 59 59 rfl _ _ rfl rfl (hcp2 _ (fun _=>rfl) (fun _=>rfl) _ _) ?_))
 all_goals (go_ret)
 all_goals (first | exact ⟨rfl,rfl⟩ | exact ⟨rfl,by rw [hW1]⟩)
end Go.Proofs
end
section
namespace Go.Proofs
open Go.RowKit Go.Shelf Go.Vc
set_option maxHeartbeats 4000000 in
set_option maxRecDepth 100000 in
theorem qt (b off n c i j m t vb voff vc:Nat) (cs vs:List Value) (w:World) (hij:i<j) (hj:j<n) (hnc:n<=c) (hm0:1<=m) (hdn:i+m<=j) (ht:t=i+m+(n-j)) (hct:t=c->n=t) (hn6:n<=1000000) (hm6:m<=1000000) (hvb:vb≠b)
  (hcl:cs.length=n*2) (hvl:vs.length=m*2)
  (hcs: ∀k v,cs[k]?=some v->w.cell? ⟨b,off+k,none⟩=some v) (hsp: ∀k,k<n*2->(w.cell? ⟨b,off+k,none⟩).isSome=true) (hfz: ∀k,k<n*2->w.frozen? ⟨b,off+k,none⟩=false)
  (hvs: ∀k v,vs[k]?=some v->w.cell? ⟨vb,voff+k,none⟩=some v) (h1c: ∀v∈cs,v.oneCell'=true) (h1v: ∀v∈vs,v.oneCell'=true):
  Calls Tryz.prog 72 #[.slice (some ⟨b,off,none⟩) n c,.int .i64 i,.int .i64 j,.slice (some ⟨vb,voff,none⟩) m vc] w fun e w'=>
   e= .returned (.slice (some ⟨b,off,none⟩) t c)/\ ∃us:List Value,w'=((w.drew.setCells b (off+i*2) vs).drew.setCells b (off+(i+m)*2) (cs.drop (j*2))).setCells b (off+t*2) us:=by
 obtain ⟨i0,hi0,hz0,_,z,hzz,hzs,hz1⟩:=MJ;have htn:t<=n:=by omega
 have hdl:(cs.drop (j*2)).length=(n-j)*2:=by rw [List.length_drop,hcl];omega
 have hmin:Nat.min (n-j) (n-j)=n-j:=by simp only [Nat.min_def];split<;>omega
 have hmin2:Nat.min m (t-i)=m:=by simp only [Nat.min_def];split<;>omega
 have hcp1: ∀ty dc,(Builtin.copy_ #[59,59] ty #[.slice (some ⟨b,off+i*2,none⟩) (t-i) dc,.slice (some ⟨vb,voff,none⟩) m vc]).run Tryz.prog w.drew= .ok (goInt ((m:Nat):Int)) (w.drew.setCells b (off+i*2) vs):=fun ty dc=>by
  rw [EK (P:=Tryz.prog) w.drew 59 59 ty 127 i0 b (off+i*2) (t-i) dc ⟨vb,voff,none⟩ m vc vs Tryz.underlying59 hi0 (by rw [hvl,hz0,hmin2])
   (fun k v hk=>by rw [Addr.add_lit];exact hvs k v hk)
   (fun k hk=>by rw [Nat.add_assoc];exact hsp _ (by omega)) (fun k hk=>by rw [Nat.add_assoc];exact hfz _ (by omega)) h1v,hmin2]
 obtain ⟨W1,hW1⟩: ∃W1,W1=w.drew.setCells b (off+i*2) vs:=⟨_,rfl⟩
 have hsp1: ∀k,k<n*2->(W1.cell? ⟨b,off+k,none⟩).isSome=true:=fun k hk=>by
  rw [hW1];exact isSome_setCells b _ _ _ (fun k' hk'=>by rw [Nat.add_assoc];exact hsp _ (by omega)) _ (hsp k hk)
 have hcp2: ∀ty dc sc,(Builtin.copy_ #[59,59] ty #[.slice (some ⟨b,off+(i+m)*2,none⟩) (n-j) dc,.slice (some ⟨b,off+j*2,none⟩) (n-j) sc]).run Tryz.prog W1.drew= .ok (goInt ((n-j:Nat):Int)) (W1.drew.setCells b (off+(i+m)*2) (cs.drop (j*2))):=fun ty dc sc=>by
  rw [EK (P:=Tryz.prog) W1.drew 59 59 ty 127 i0 b (off+(i+m)*2) (n-j) dc ⟨b,off+j*2,none⟩ (n-j) sc (cs.drop (j*2)) Tryz.underlying59 hi0 (by rw [hdl,hmin,hz0])
   (fun k v hk=>by
    show W1.cell? _=_;rw [Addr.add_lit,hW1,World.cell?_setCells_out b _ _ _ _ (fun _ _=>.inr (by rw [hvl];show off+i*2+m*2<=off+j*2+k;omega)),Nat.add_assoc];exact hcs (j*2+k) v (by rwa [List.getElem?_drop] at hk))
   (fun k hk=>by rw [Nat.add_assoc];exact hsp1 _ (by omega)) (fun k hk=>by show W1.frozen? _=_;rw [hW1,World.frozen?_setCells,Nat.add_assoc];exact hfz _ (by omega)) (fun v hv=>h1c v (List.mem_of_mem_drop hv)),hmin]
 rw [<-hW1] at hcp1;obtain ⟨W2,hW2⟩: ∃W2,W2=W1.drew.setCells b (off+(i+m)*2) (cs.drop (j*2)):=⟨_,rfl⟩
 have hsp2: ∀k,k<n*2->(W2.cell? ⟨b,off+k,none⟩).isSome=true:=fun k hk=>by
  rw [hW2];exact isSome_setCells b _ _ _ (fun k' hk'=>by rw [Nat.add_assoc];exact hsp1 _ (by omega)) _ (hsp1 k hk)
 have hclr: ∃us:List Value,∀ty bo,(bo=off+t*2\/t=n)->(Builtin.clear_ #[59] ty #[.slice (some ⟨b,bo,none⟩) (n-t) (c-t)]).run Tryz.prog W2= .ok (.tuple #[]) (W2.setCells b (off+t*2) us):=by
  by_cases h:t=n
  ·exact ⟨[],fun ty bo _=>by rw [h,Nat.sub_self];simp [Builtin.clear_,run_underlying Tryz.underlying59,World.setCells]⟩
  ·have hzv: ∀w,(zeroValue 127).run Tryz.prog w= .ok z w:=fun w=>by simp [zeroValue,typeInfo,hi0,hzz]
   obtain ⟨us,_,_,h3⟩:=UW (P:=Tryz.prog) W2 59 127 0 z Tryz.underlying59 hzv b (off+t*2) (n-t) (c-t) 2 hzs hz1 (fun k hk=>by rw [Nat.add_assoc];exact hsp2 _ (by omega)) (fun k hk=>by
    rw [hW2,World.frozen?_setCells];show W1.frozen? _=_;rw [hW1,World.frozen?_setCells,Nat.add_assoc];exact hfz _ (by omega))
   refine ⟨us,fun ty bo hb=>?_⟩;rcases hb with rfl | hb
   ·exact h3
   ·exact absurd hb h
 obtain ⟨us,hclr⟩:=hclr;rw [<-hW2] at hcp2;have mixed:Tryz.prog.follows .mixedOrders=true:=by kernel_rfl
 have u22:=run_underlying Tryz.underlying59;have z24:=Tryz.sizeOf127;have hb1:(i:Int)<=(j:Int):=by omega
 have hb2:(j:Int)<=(n:Int):=by omega
 have hb2':(j:Int)<=(c:Int):=by omega
 have hb3: ¬((i:Int)=(j:Int)):=by omega
 have hb4: ¬((j:Int)=(n:Int)):=by omega
 have hb5: ¬(c=j):=by omega
 have hb6: ¬(c=i):=by omega
 have hb7: ¬(c=i+m):=by omega
 have hw1:IntKind.i64.wrap ((i:Int)+(m:Int))=(i:Int)+(m:Int):=by rw [IntKind.wrap_i64];omega
 have hw2:IntKind.i64.wrap ((i:Int)+(m:Int)+((n-j:Nat):Int))=(t:Int):=by rw [IntKind.wrap_i64];omega
 have hb8: ¬((c:Int)<(t:Int)):=by omega
 have hb9:(t:Int)<=(c:Int):=by omega
 have hb10:((i:Int)+(m:Int)<=(j:Int)):=by omega
 have hb11:(i:Int)+(m:Int)<=(t:Int):=by omega
 have hb12:(i:Int)<=(t:Int):=by omega
 have hb13:(t:Int)<=(n:Int):=by omega
 have hs1:t-(i+m)=n-j:=by omega
 have hn1:i<=c:=by omega
 have hn2:j<=c:=by omega
 have hn3:i<=n:=by omega
 have hn4:j<=n:=by omega
 have hn5:i<=j:=by omega
 have hn8:i+m<=c:=by omega
 have hn9:i<=t:=by omega
 have hn10:t<=c:=by omega
 have hn11:i+m<=t:=by omega
 have hq1:(0:Int)<=(i:Int)+(m:Int):=by omega
 have hq3:((i:Int)+(m:Int)).toNat=i+m:=by omega
 have hfin: ∀ {e:Ending} {w':World},e= .returned (.slice (some ⟨b,off,none⟩) t c)/\w'=W2.setCells b (off+t*2) us->e= .returned (.slice (some ⟨b,off,none⟩) t c)/\ ∃us:List Value,w'=((w.drew.setCells b (off+i*2) vs).drew.setCells b (off+(i+m)*2) (cs.drop (j*2))).setCells b (off+t*2) us:=fun {e w'} h=>⟨h.1,us,by rw [h.2,hW2,hW1]⟩
 refine Calls.mono ?_ (fun e w' h=>hfin h);clear hfin;by_cases hct':c=t
 ·have hnt:=hct hct'.symm;subst hct';have hclr': ∀ty bo,(Builtin.clear_ #[59] ty #[.slice (some ⟨b,bo,none⟩) 0 0]).run Tryz.prog W2= .ok (.tuple #[]) (W2.setCells b (off+c*2) us):=fun ty bo=>by
   have h:=hclr ty bo (.inr hnt.symm);rwa [show n-c=0 by omega,Nat.sub_self] at h
  clear hnt hclr;clear ht hdn hW2 hW1 hsp2 hsp1 hsp hfz hcs hvs hct
  go_enter Tryz.func72,Tryz.ntmps72
  go_wp2
  go_region_law_o fail
  all_goals (go_wp2_with (at_builtin;refine wpList_copy_runI _ rfl _ _ 59 59 rfl _ _ rfl rfl (hcp1 _ _) ?_))
  all_goals (go_region_law_o (refine step_copy_runI rfl _ _ 59 59 rfl (.slice (some ⟨b,off+(i+m)*2,none⟩) (n-j) (c-(i+m))) (.slice (some ⟨b,off+j*2,none⟩) (n-j) (c-j)) (by simp [Act.eval,Act.put];try omega) (by simp [Act.eval,Act.put]) (hcp2 _ _ _) ?_))
  all_goals (go_wp2_with (at_builtin;refine JP _ rfl _ 59 rfl _ rfl (hclr' _ _) ?_))
  all_goals (go_ret)
  all_goals (exact ⟨rfl,rfl⟩)
 ·clear ht hdn hW2 hW1 hsp2 hsp1 hsp hfz hcs hvs hct
  go_enter Tryz.func72,Tryz.ntmps72
  go_wp2
  go_region_law_o fail
  all_goals (go_wp2_with (at_builtin;refine wpList_copy_runI _ rfl _ _ 59 59 rfl _ _ rfl rfl (hcp1 _ _) ?_))
  all_goals (go_region_law_o (refine step_copy_runI rfl _ _ 59 59 rfl (.slice (some ⟨b,off+(i+m)*2,none⟩) (n-j) (c-(i+m))) (.slice (some ⟨b,off+j*2,none⟩) (n-j) (c-j)) (by simp [Act.eval,Act.put];try omega) (by simp [Act.eval,Act.put]) (hcp2 _ _ _) ?_))
  all_goals (go_wp2_with (at_builtin;refine JP _ rfl _ 59 rfl _ rfl (hclr _ _ (.inl rfl)) ?_))
  all_goals (go_ret)
  all_goals (exact ⟨rfl,rfl⟩)
set_option maxHeartbeats 4000000 in
set_option maxRecDepth 100000 in
theorem tv (b off n c i m vb voff vc:Nat) (cs vs:List Value) (w:World) (hij:i<n) (hnc:n<=c) (hm0:1<=m) (hroom:i+m<=c) (hn6:n<=1000000) (hm6:m<=1000000)
  (hvl:vs.length=m*2)
  (hsp: ∀k,k<c*2->(w.cell? ⟨b,off+k,none⟩).isSome=true) (hfz: ∀k,k<c*2->w.frozen? ⟨b,off+k,none⟩=false)
  (hvs: ∀k v,vs[k]?=some v->w.cell? ⟨vb,voff+k,none⟩=some v) (h1v: ∀v∈vs,v.oneCell'=true):
  Calls Tryz.prog 72 #[.slice (some ⟨b,off,none⟩) n c,.int .i64 i,.int .i64 n,.slice (some ⟨vb,voff,none⟩) m vc] w fun e w'=>
   e= .returned (.slice (some ⟨b,off,none⟩) (i+m) c)/\ ∃us:List Value,w'=(w.setCells b (off+i*2) vs).setCells b (off+(i+m)*2) us:=by
 obtain ⟨i0,hi0,hz0,_,z,hzz,hzs,hz1⟩:=MJ;have hst:=run_storeCells_cells (P:=Tryz.prog) b (off+i*2) vs 0 w (fun k hk=>by rw [Nat.add_zero,Nat.add_assoc];exact hsp _ (by omega)) (fun k hk=>by rw [Nat.add_zero,Nat.add_assoc];exact hfz _ (by omega)) h1v;simp only [Nat.add_zero] at hst;obtain ⟨W1,hW1⟩: ∃W1,W1=w.setCells b (off+i*2) vs:=⟨_,rfl⟩
 have hrun: ∀ty,(Builtin.append_ #[59,59] ty #[.slice (some ⟨b,off,none⟩) i c,.slice (some ⟨vb,voff,none⟩) m vc]).run Tryz.prog w= .ok (.slice (some ⟨b,off,none⟩) (i+m) c) W1:=fun ty=>by
  rw [D6 (P:=Tryz.prog) (w:=w) (base:=some ⟨b,off,none⟩) (sLen:=i) (sCap:=c) (n:=m) (news:=vs) (i:=i0) (t:=59) (u:=59) rfl rfl rfl rfl Tryz.underlying59 Tryz.underlying59 (.inl ⟨_,rfl⟩) hi0 (by simp [Builtin.lenOf])
   (run_firstCells_some (P:=Tryz.prog) w i0.size m ⟨vb,voff,none⟩ m vc vs (by rw [hvl,hz0]) fun k v hk=>by rw [Addr.add_lit];exact hvs k v hk) hroom]
  simp only [Addr.add_lit,hz0];rw [hst,hW1];rfl
 have hclr:i+m<n-> ∃us:List Value,∀ty,(Builtin.clear_ #[59] ty #[.slice (some ⟨b,off+(i+m)*2,none⟩) (n-(i+m)) (c-(i+m))]).run Tryz.prog W1= .ok (.tuple #[]) (W1.setCells b (off+(i+m)*2) us):=fun h=>by
  have hzv: ∀w,(zeroValue 127).run Tryz.prog w= .ok z w:=fun w=>by simp [zeroValue,typeInfo,hi0,hzz]
  obtain ⟨us,_,_,h3⟩:=UW (P:=Tryz.prog) W1 59 127 0 z Tryz.underlying59 hzv b (off+(i+m)*2) (n-(i+m)) (c-(i+m)) 2 hzs hz1 (fun k hk=>by rw [hW1];exact isSome_setCells b _ _ _ (fun k' hk'=>by rw [Nat.add_assoc];exact hsp _ (by omega)) _ (by rw [Nat.add_assoc];exact hsp _ (by omega))) (fun k hk=>by
   rw [hW1,World.frozen?_setCells,Nat.add_assoc];exact hfz _ (by omega))
  exact ⟨us,fun ty=>h3⟩
 have u22:=run_underlying Tryz.underlying59;have z24:=Tryz.sizeOf127;have hb1:(i:Int)<=(n:Int):=by omega
 have hb2':(n:Int)<=(c:Int):=by omega
 have hb3: ¬((i:Int)=(n:Int)):=by omega
 have hb6: ¬(c=i):=by omega
 have hn1:i<=c:=by omega
 have hn3:i<=n:=by omega
 by_cases hlt:i+m<n
 ·obtain ⟨us,hclr⟩:=hclr hlt;refine (show Calls Tryz.prog 72 _ w fun e w'=>e= .returned (.slice (some ⟨b,off,none⟩) (i+m) c)/\w'=W1.setCells b (off+(i+m)*2) us from ?_).mono (fun e w' h=>⟨h.1,us,by rw [h.2,hW1]⟩);have hb7: ¬(c=i+m):=by omega
  have hb8:(i:Int)+(m:Int)<(n:Int):=by omega
  have hb9:(i:Int)+(m:Int)<=(n:Int):=by omega
  have hq1:(0:Int)<=(i:Int)+(m:Int):=by omega
  have hq3:((i:Int)+(m:Int)).toNat=i+m:=by omega
  have hn4:i+m<=n:=by omega
  clear hW1 hst hsp hfz hvs
  go_enter Tryz.func72,Tryz.ntmps72
  go_wp2_with (first
   | (at_builtin;refine Lib.wpList_append_run _ rfl _ _ _ _ rfl _ _ rfl rfl _ _ (hrun _) ?_)
   | (at_builtin;refine JP _ rfl _ 59 rfl _ rfl (hclr _) ?_))
  go_ret
  exact ⟨rfl,rfl⟩
 ·refine (show Calls Tryz.prog 72 _ w fun e w'=>e= .returned (.slice (some ⟨b,off,none⟩) (i+m) c)/\w'=W1 from ?_).mono (fun e w' h=>⟨h.1,[],by rw [h.2,hW1];rfl⟩);have hb8: ¬((i:Int)+(m:Int)<(n:Int)):=by omega
  clear hW1 hst hsp hfz hvs hclr
  go_enter Tryz.func72,Tryz.ntmps72
  go_wp2_with (at_builtin;refine Lib.wpList_append_run _ rfl _ _ _ _ rfl _ _ rfl rfl _ _ (hrun _) ?_)
  go_ret
  exact ⟨rfl,rfl⟩
end Go.Proofs
end
section
namespace Go.Proofs
open Go.RowKit Go.Shelf Go.Vc
set_option maxHeartbeats 4000000 in
set_option maxRecDepth 100000 in
theorem bE (b off n c i m vb voff vc:Nat) (cs vs:List Value) (w:World) (hij:i<n) (hnc:n<=c) (hroom:c<i+m) (hn6:n<=1000000) (hm6:m<=1000000) (hcl:cs.length=n*2) (hvl:vs.length=m*2)
  (hcs: ∀k v,cs[k]?=some v->w.cell? ⟨b,off+k,none⟩=some v) (hvs: ∀k v,vs[k]?=some v->w.cell? ⟨vb,voff+k,none⟩=some v):
  Calls Tryz.prog 72 #[.slice (some ⟨b,off,none⟩) n c,.int .i64 i,.int .i64 n,.slice (some ⟨vb,voff,none⟩) m vc] w fun e w'=>
   ∃(cap:Nat) (rest:List Value),e= .returned (.slice (some ⟨w.heap.size,0,none⟩) (i+m) cap)/\i+m<=cap/\rest.length=(cap-(i+m))*2/\w'.heap=w.heap.push (.cells (cs.take (i*2)++vs++rest).toArray 127 (0,0))/\w'.os=w.os/\w'.output=w.output/\Tp w w':=by
 obtain ⟨i0,hi0,hz0,hby,z,hz,hzc,_⟩:=MJ;have htl:(cs.take (i*2)).length=i*2:=by rw [List.length_take];omega
 have hcell: ∀w':World,w'.heap=w.heap-> ∀a:Addr,w'.cell? a=w.cell? a:=fun w' hw a=>by unfold World.cell?;rw [hw]
 obtain ⟨w1,rest,cap,k1,k2,k3,k4,k5,k6,k7⟩:=EB (P:=Tryz.prog) (w:=w) (ats:= #[59,59]) (ty:=59) (args:= #[.slice (some ⟨b,off,none⟩) i c,.slice (some ⟨vb,voff,none⟩) m vc]) (base:=some ⟨b,off,none⟩) (sLen:=i) (sCap:=c) (n:=m) (olds:=cs.take (i*2)) (news:=vs) (i:=i0) (z:=z) (t:=59) (u:=59) rfl rfl rfl rfl Tryz.underlying59 Tryz.underlying59 (.inl ⟨_,rfl⟩) hi0 hz (by rw [hby];decide)
  (fun w'=>by simp [Builtin.lenOf]) (fun w' hw=>run_firstCells_some (P:=Tryz.prog) w' i0.size m ⟨vb,voff,none⟩ m vc vs (by rw [hvl,hz0]) fun k v hk=>by rw [Addr.add_lit,hcell w' hw];exact hvs k v hk)
  (fun w' hw=>run_firstCells_some (P:=Tryz.prog) w' i0.size i ⟨b,off,none⟩ i c (cs.take (i*2)) (by rw [htl,hz0]) fun k v hk=>by
   rw [Addr.add_lit,hcell w' hw];rw [List.getElem?_take] at hk;split at hk
   ·exact hcs k v hk
   ·cases hk) hroom (by rw [hby];omega)
 have u22:=run_underlying Tryz.underlying59;have z24:=Tryz.sizeOf127;have hb1:(i:Int)<=(n:Int):=by omega
 have hb3: ¬((i:Int)=(n:Int)):=by omega
 have hb6: ¬(c=i):=by omega
 have hn1:i<=c:=by omega
 have hn3:i<=n:=by omega
 have hb8: ¬((i:Int)+(m:Int)<(n:Int)):=by omega
 refine (show Calls Tryz.prog 72 _ w fun e w'=>e= .returned (.slice (some ⟨w.heap.size,0,none⟩) (i+m) cap)/\w'=w1 from ?_).mono (fun e w' h=>⟨cap,rest,h.1,k1,by rw [k2,hzc],by rw [h.2];exact k4,by rw [h.2];exact k5,by rw [h.2];exact k6,by rw [h.2];exact k7⟩);clear k4 k5 k6 k7 k2 k1 hcell hcs hvs
 go_enter Tryz.func72,Tryz.ntmps72
 go_wp2_with (at_builtin;refine Lib.wpList_append_run _ rfl _ _ _ _ rfl _ _ rfl rfl _ _ k3 ?_)
 all_goals (go_ret)
 all_goals (exact ⟨rfl,rfl⟩)
set_option maxHeartbeats 4000000 in
set_option maxRecDepth 100000 in
theorem qv (b off n c i j m t vb voff vc:Nat) (cs vs:List Value) (w:World) (hij:i<j) (hj:j<n) (hm0:1<=m) (ht:t=i+m+(n-j)) (hroom:c<t) (hnc:n<=c) (hn6:n<=1000000) (hm6:m<=1000000) (hcl:cs.length=n*2) (hvl:vs.length=m*2) (hb:b<w.heap.size) (hvb:vb<w.heap.size)
  (hcs: ∀k v,cs[k]?=some v->w.cell? ⟨b,off+k,none⟩=some v) (hvs: ∀k v,vs[k]?=some v->w.cell? ⟨vb,voff+k,none⟩=some v) (h1c: ∀v∈cs,v.oneCell'=true) (h1v: ∀v∈vs,v.oneCell'=true):
  Calls Tryz.prog 72 #[.slice (some ⟨b,off,none⟩) n c,.int .i64 i,.int .i64 j,.slice (some ⟨vb,voff,none⟩) m vc] w fun e w'=>
   ∃(cap:Nat) (row:Array Value),e= .returned (.slice (some ⟨w.heap.size,0,none⟩) t cap)/\t<=cap/\row.size=cap*2/\w'=(((w.drew.drew.alloc (.cells row 127)).setCells w.heap.size (i*2) vs).drew).setCells w.heap.size ((i+m)*2) (cs.drop (j*2))/\row.toList.take (i*2)=cs.take (i*2):=by
 obtain ⟨i0,hi0,hz0,hby,z,hz,hzc,_⟩:=MJ;have htl:(cs.take (i*2)).length=i*2:=by rw [List.length_take];omega
 have hap:=Lib.run_append_grow_zeros (P:=Tryz.prog) w.drew 59 3 59 127 i0 z .i64 .i64 Tryz.underlying59 Tryz.underlying3 hi0 hz (some ⟨b,off,none⟩) i c (cs.take (i*2))
  (run_firstCells_some (P:=Tryz.prog) w.drew.drew i0.size i ⟨b,off,none⟩ i c (cs.take (i*2)) (by rw [htl,hz0]) fun k v hk=>by
   rw [Addr.add_lit];rw [List.getElem?_take] at hk;split at hk
   ·exact hcs k v hk
   ·cases hk)
  (t-i) (by omega) (by rw [hz0];decide) (by omega) (by omega) (by rw [hby];omega) (by rw [hby];have:=growslice_fits (bytes:=16) (show c<i+(t-i) by omega) (by omega);omega)
 rw [show i+(t-i)=t by omega] at hap;generalize hcap:grownCap w.drew t c 127=cap at hap;have hcg:t<=cap:=by rw [<-hcap];exact grownCap_ge _ _ _ _
 generalize hrow:(cs.take (i*2)).toArray++Builtin.zeroCells z.cells (t-i)++Builtin.zeroCells z.cells (cap-t)=row at hap;have hrs:row.size=cap*2:=by
  rw [<-hrow];simp only [Array.size_append,List.size_toArray,htl,size_zeroCells,hzc];omega
 have hrt:row.toList.take (i*2)=cs.take (i*2):=by
  rw [<-hrow];simp only [Array.toList_append,List.append_assoc];rw [List.take_append_of_le_length (by rw [htl];exact Nat.le_refl _),List.take_of_length_le (by rw [htl];exact Nat.le_refl _)]
 have hdl:(cs.drop (j*2)).length=(n-j)*2:=by rw [List.length_drop,hcl];omega
 have hmin1:Nat.min m (t-i)=m:=by simp only [Nat.min_def];split<;>omega
 have hmin2:Nat.min (n-j) (n-j)=n-j:=by simp only [Nat.min_def];split<;>omega
 obtain ⟨G,hGe⟩: ∃G,G=w.heap.size:=⟨_,rfl⟩
 obtain ⟨W1,hW1⟩: ∃W1,W1=w.drew.drew.alloc (.cells row 127):=⟨_,rfl⟩
 have hG:W1.heap[G]?=some (.cells row 127 (0,0)):=by
  rw [hW1,hGe];simp only [World.alloc];exact Array.getElem?_push_size
 have hcl1: ∀a:Addr,a.block<G->W1.cell? a=w.cell? a:=fun a ha=>by
  rw [hW1];exact World.cell?_of_block (Below.heap_alloc w.drew.drew _ a.block (by rw [hGe] at ha;exact ha))
 have hsp1: ∀k,k<cap*2->(W1.cell? ⟨G,k,none⟩).isSome=true:=fun k hk=>by
  rw [Lib.cell_of_heap hG];simp [hrs,hk]
 have hfz1: ∀k,W1.frozen? ⟨G,k,none⟩=false:=fun k=>Lib.frozen_of_heap hG k;have hcpA: ∀ty dc,(Builtin.copy_ #[59,59] ty #[.slice (some ⟨G,i*2,none⟩) (t-i) dc,.slice (some ⟨vb,voff,none⟩) m vc]).run Tryz.prog W1= .ok (goInt ((m:Nat):Int)) (W1.setCells G (i*2) vs):=fun ty dc=>by
  rw [EK (P:=Tryz.prog) W1 59 59 ty 127 i0 G (i*2) (t-i) dc ⟨vb,voff,none⟩ m vc vs Tryz.underlying59 hi0 (by rw [hvl,hz0,hmin1])
   (fun k v hk=>by rw [Addr.add_lit,hcl1 _ (by rw [hGe];exact hvb)];exact hvs k v hk)
   (fun k hk=>hsp1 _ (by omega)) (fun k hk=>hfz1 _) h1v,hmin1]
 obtain ⟨W2,hW2⟩: ∃W2,W2=W1.setCells G (i*2) vs:=⟨_,rfl⟩
 have hsp2: ∀k,k<cap*2->(W2.cell? ⟨G,k,none⟩).isSome=true:=fun k hk=>by
  rw [hW2];exact isSome_setCells G _ _ _ (fun k' hk'=>hsp1 _ (by omega)) _ (hsp1 k hk)
 have hcpB: ∀ty dc sc,(Builtin.copy_ #[59,59] ty #[.slice (some ⟨G,(i+m)*2,none⟩) (n-j) dc,.slice (some ⟨b,off+j*2,none⟩) (n-j) sc]).run Tryz.prog W2.drew= .ok (goInt ((n-j:Nat):Int)) (W2.drew.setCells G ((i+m)*2) (cs.drop (j*2))):=fun ty dc sc=>by
  rw [EK (P:=Tryz.prog) W2.drew 59 59 ty 127 i0 G ((i+m)*2) (n-j) dc ⟨b,off+j*2,none⟩ (n-j) sc (cs.drop (j*2)) Tryz.underlying59 hi0 (by rw [hdl,hmin2,hz0])
   (fun k v hk=>by
    show W2.cell? _=_;rw [Addr.add_lit,hW2,World.cell?_setCells_out G _ _ _ _ (fun h _=>absurd h (by show b≠G;omega)),hcl1 _ (by rw [hGe];exact hb),Nat.add_assoc];exact hcs (j*2+k) v (by rwa [List.getElem?_drop] at hk))
   (fun k hk=>by exact hsp2 _ (by omega)) (fun k hk=>by show W2.frozen? _=_;rw [hW2,World.frozen?_setCells];exact hfz1 _) (fun v hv=>h1c v (List.mem_of_mem_drop hv)),hmin2]
 rw [show w.drew.heap.size=w.heap.size from rfl,<-hW1,<-hGe] at hap;rw [<-hW2] at hcpA;have mixed:Tryz.prog.follows .mixedOrders=true:=by kernel_rfl
 have u22:=run_underlying Tryz.underlying59;have z24:=Tryz.sizeOf127;have hb1:(i:Int)<=(j:Int):=by omega
 have hb2:(j:Int)<=(n:Int):=by omega
 have hb2':(j:Int)<=(c:Int):=by omega
 have hb3: ¬((i:Int)=(j:Int)):=by omega
 have hb4: ¬((j:Int)=(n:Int)):=by omega
 have hb5: ¬(c=j):=by omega
 have hb6: ¬(c=i):=by omega
 have hw1:IntKind.i64.wrap ((i:Int)+(m:Int))=(i:Int)+(m:Int):=by rw [IntKind.wrap_i64];omega
 have hw2:IntKind.i64.wrap ((i:Int)+(m:Int)+((n-j:Nat):Int))=(t:Int):=by rw [IntKind.wrap_i64];omega
 have hw3:IntKind.i64.wrap ((t:Int)-(i:Int))=((t-i:Nat):Int):=by rw [IntKind.wrap_i64];omega
 have hb8:(c:Int)<(t:Int):=by omega
 have hs1:t-(i+m)=n-j:=by omega
 have hn1:i<=c:=by omega
 have hn2:j<=c:=by omega
 have hn3:i<=n:=by omega
 have hn4:j<=n:=by omega
 have hn5:i<=j:=by omega
 have hn9:i<=t:=by omega
 have hn11:i+m<=t:=by omega
 have hb11:(i:Int)+(m:Int)<=(t:Int):=by omega
 have hb12:(i:Int)<=(t:Int):=by omega
 have hq1:(0:Int)<=(i:Int)+(m:Int):=by omega
 have hq3:((i:Int)+(m:Int)).toNat=i+m:=by omega
 have hb13: ¬(cap=i):=by omega
 have hb14: ¬(cap=i+m):=by omega
 refine (show Calls Tryz.prog 72 #[.slice (some ⟨b,off,none⟩) n c,.int .i64 i,.int .i64 j,.slice (some ⟨vb,voff,none⟩) m vc] w fun e w'=>e= .returned (.slice (some ⟨G,0,none⟩) t cap)/\w'=W2.drew.setCells G ((i+m)*2) (cs.drop (j*2)) from ?_).mono ?_;rotate_left
 ·rintro e w' ⟨rfl,rfl⟩;exact ⟨cap,row,by rw [hGe],hcg,hrs,by rw [hW2,hW1,hGe],hrt⟩
 clear hGe hW1 hW2 hrow hcap hG ht hcl1 hsp1 hfz1 hsp2 hcs hvs
 go_enter Tryz.func72,Tryz.ntmps72
 go_wp2
 go_region_law_o fail
 all_goals (go_wp2_with (first
  | (at_builtin;refine Lib.wpList_append_run _ rfl _ _ _ _ rfl _ _ rfl rfl _ _ hap ?_)
  | (at_builtin;refine wpList_copy_runI _ rfl _ _ 59 59 rfl _ _ rfl rfl (hcpA _ _) ?_)))
 all_goals (go_region_law_o (refine step_copy_runI rfl _ _ 59 59 rfl (.slice (some ⟨G,(i+m)*2,none⟩) (n-j) (cap-(i+m))) (.slice (some ⟨b,off+j*2,none⟩) (n-j) (c-j)) (by simp [Act.eval,Act.put];try omega) (by simp [Act.eval,Act.put]) (hcpB _ _ _) ?_))
 all_goals go_wp2
 all_goals go_ret
 all_goals (exact ⟨rfl,rfl⟩)
end Go.Proofs
end
section
namespace Go.Proofs
open Go.RowKit Go.Shelf Go.Vc
theorem bF {α:Type} {A B:List α} {n m i j t:Nat} (h1:A.length=n*2) (h2:B.length=m*2) (hij:i<j) (hj:j<=n) (ht:t=i+m+(n-j)):(A.take (i*2)++B++A.drop (j*2)).length=t*2:=by
 simp only [List.length_append,List.length_take,List.length_drop];omega
theorem VT {α:Type} {A B:List α} {n m i j k:Nat} {v:α} (h1:A.length=n*2) (h2:B.length=m*2) (hij:i<j) (hj:j<=n) (h:(A.take (i*2)++B++A.drop (j*2))[k]?=some v):
  (k<i*2/\A[k]?=some v)\/(i*2<=k/\k<(i+m)*2/\B[k-i*2]?=some v)\/((i+m)*2<=k/\k<(i+m+(n-j))*2/\(A.drop (j*2))[k-(i+m)*2]?=some v):=by
 have hl:(A.take (i*2)).length=i*2:=by rw [List.length_take];omega
 have hk:k<(A.take (i*2)++B++A.drop (j*2)).length:=by
  rcases Nat.lt_or_ge k (A.take (i*2)++B++A.drop (j*2)).length with h' | h'
  ·exact h'
  ·rw [List.getElem?_eq_none h'] at h;cases h
 rw [bF h1 h2 hij hj rfl] at hk;rw [List.append_assoc] at h;by_cases c:k<i*2
 ·rw [List.getElem?_append_left (by omega),List.getElem?_take,if_pos c] at h;exact .inl ⟨c,h⟩
 ·rw [List.getElem?_append_right (by omega),hl] at h;by_cases d:k<(i+m)*2
  ·rw [List.getElem?_append_left (by omega)] at h;exact .inr (.inl ⟨by omega,d,h⟩)
  ·rw [List.getElem?_append_right (by omega),h2,show k-i*2-m*2=k-(i+m)*2 by omega] at h;exact .inr (.inr ⟨by omega,hk,h⟩)
set_option maxHeartbeats 1000000 in
theorem Xy {S:AB} {p ver off q vq vo n i j m:Nat} {cs ds:List AA} (hp:S[p]?=some (.row ver 2 cs)) (hfit:off+n*2<=cs.length) (hq:S[q]?=some (.row vq 2 ds)) (hqf:vo+m*2<=ds.length) (hpq:p≠q) (hij:i<j) (hj:j<=n) (hm:1<=m) (hn6:n<=1000000) (hm6:m<=1000000):
  AV Tryz.prog 72 [.sl p ver off n,.int .i64 (i:Int),.int .i64 (j:Int),.sl q vq vo m] S (gF S (.sl p ver off n) 2 (i+m+(n-j)) ((A6 cs off (n*2)).take (i*2)++A6 ds vo (m*2)++(A6 cs off (n*2)).drop (j*2))):=by
 refine ⟨fun E fz w vals st hrel=>?_⟩;simp only [AZ] at hrel;obtain ⟨v1,_,rfl,r1,v2,_,rfl,r2,v3,_,rfl,r3,v4,_,rfl,r4,rfl⟩:=hrel;simp only [Rel] at r1 r2 r3 r4;subst r2;subst r3;rcases r1 with ⟨h0,_⟩ | ⟨b,base,cap,k,c,hE,hle,hcap,rfl⟩
 ·omega
 rcases r4 with ⟨h0,_⟩ | ⟨vb,qbase,qcap,qk,vc,q1,q2,q3,rfl⟩
 ·omega
 rcases st.ok p _ hp with ⟨e1,_⟩ | ⟨b',base',cap',arr,T,lo,hi',e1,e2,e3,e4,e5,e6,e7⟩
 ·rw [hE] at e1;cases e1
 rw [hE] at e1;cases e1;have e5:lo=hi':=e5.resolve_right (by simp);subst e5;rcases st.ok q _ hq with ⟨g1,_⟩ | ⟨vb',qbase',qcap',qarr,qT,qlo,qhi,g1,g2,g3,g4,g5,g6,g7⟩
 ·rw [q1] at g1;cases g1
 rw [q1] at g1;cases g1;have g5:qlo=qhi:=g5.resolve_right (by simp);subst g5;have hvb:vb≠b:=fun e=>by
  subst e;exact hpq (st.sep p q vb ⟨_,hp,by simp [AU,hE]⟩ ⟨_,hq,by simp [AU,q1]⟩)
 have hbl:b<w.heap.size:=(Array.getElem?_eq_some_iff.1 e2).1;have hvbl:vb<w.heap.size:=(Array.getElem?_eq_some_iff.1 g2).1;obtain ⟨us,u1,u2,u3⟩:=((e6.drop off).take (n*2)).read;obtain ⟨vs,s1,s2,s3⟩:=((g6.drop vo).take (m*2)).read;have hul:us.length=n*2:=by rw [u1.length,List.length_take,List.length_drop];omega
 have hvl:vs.length=m*2:=by rw [s1.length,List.length_take,List.length_drop];omega
 have hfz: ∀o,w.frozen? ⟨b,o,none⟩=false:=fun o=>by rw [Gz e2];by_cases c:lo<=o<;>simp [c]<;>omega
 have hfv: ∀o,w.frozen? ⟨vb,o,none⟩=false:=fun o=>by rw [Gz g2];by_cases c:qlo<=o<;>simp [c]<;>omega
 have hsp: ∀k',k'<c*2->(w.cell? ⟨b,base+off+k',none⟩).isSome=true:=fun k' hk=>by
  rw [Ce e2,Array.getElem?_eq_getElem (by omega)];rfl
 have hsb:w.shape? b=some (T,arr.size):=by unfold World.shape?;rw [e2]
 have hsa:w.shape? vb=some (qT,qarr.size):=by unfold World.shape?;rw [g2]
 obtain ⟨t,ht⟩: ∃t,t=i+m+(n-j):=⟨_,rfl⟩
 rw [<-ht];have hrel:AZ E fz w ((A6 cs off (n*2)).take (i*2)++A6 ds vo (m*2)++(A6 cs off (n*2)).drop (j*2)) (us.take (i*2)++vs++us.drop (j*2)):=((u1.take (i*2)).append s1).append (u1.drop (j*2));have hrl:=bF hul hvl hij hj ht;have hone: ∀v∈us.take (i*2)++vs++us.drop (j*2),v.oneCell'=true:=fun v hv=>by
  simp only [List.mem_append] at hv;rcases hv with (hv | hv) | hv
  ·exact u2 v (List.mem_of_mem_take hv)
  ·exact s2 v hv
  ·exact u2 v (List.mem_of_mem_drop hv)
 have fin: ∀ {e:Ending} {w':World} {row:Array Value} {T:TypeId} {c':Nat},e= .returned (.slice (some ⟨w.heap.size,0,none⟩) t c')->t<=c'->c'*2<=row.size->w'.heap[w.heap.size]?=some (.cells row T (0,0))->w'.heap.size=w.heap.size+1->(∀b:Nat,b<w.heap.size->w'.heap[b]?=w.heap[b]?)->
   (∀(k:Nat) v,(us.take (i*2)++vs++us.drop (j*2))[k]?=some v->row[k]?=some v)->w'.os=w.os->w'.output=w.output->Tp w w'->
   ∃r S' v E' fz',e= .returned v/\Ext E fz S w E' fz' S' w'/\St E' fz' S' w'/\Rel E' fz' w' r v/\gF S (.sl p ver off n) 2 t ((A6 cs off (n*2)).take (i*2)++A6 ds vo (m*2)++(A6 cs off (n*2)).drop (j*2)) r S':=fun {e w' row T c'} he hc1 hc2 k1 k2 k3 k4 o1 o2 o3=>by
  obtain ⟨ver',E',p1,p2,p3⟩:=st.qC (k:=2) k1 k2 k3 k4 hrel hone o1 o2 o3;exact ⟨.sl S.length ver' 0 t,_,_,E',fz,he,p3,p2,by
   simp only [Rel];exact .inr ⟨_,_,_,_,c',p1,hc1,by omega,rfl⟩,.inl ⟨ver',rfl,rfl⟩⟩
 have hmk: ∀ {e:Ending} {w':World} {arr':Array Value},e= .returned (.slice (some ⟨b,base+off,none⟩) t c)->t<=c->w'.heap[b]?=some (.cells arr' T (lo,lo))->arr'.size=arr.size->(∀b':Nat,b'≠b->w'.heap[b']?=w.heap[b']?)->w'.heap.size=w.heap.size->(∀t,t<base+off->arr'[t]?=arr[t]?)->
   (∀(k:Nat) v,(us.take (i*2)++vs++us.drop (j*2))[k]?=some v->arr'[base+off+k]?=some v)->w'.os=w.os->w'.output=w.output->Tp w w'->
   ∃r S' v E' fz',e= .returned v/\Ext E fz S w E' fz' S' w'/\St E' fz' S' w'/\Rel E' fz' w' r v/\gF S (.sl p ver off n) 2 t ((A6 cs off (n*2)).take (i*2)++A6 ds vo (m*2)++(A6 cs off (n*2)).drop (j*2)) r S':=fun {e w' arr'} he hc k1 k2 k3 k4 k5 k6 o1 o2 o3=>by
  have hl:=hrel.length;obtain ⟨p1,p2⟩:=st.rewrite hp hE e2 k1 k2 k3 k4 (off:=off) (by omega) (by rw [<-hl,hrl];omega) (fun t ht=>k5 _ (by omega)) k6 hrel hone o1 o2 o3;exact ⟨.sl p ver off t,_,_,E,fz,he,p2,p1,by
   simp only [Rel];exact .inr ⟨b,base,cap,2,c,hE,hc,hcap,rfl⟩,.inr ⟨p,ver,off,_,cs,rfl,hp,by omega,rfl,rfl⟩⟩
 have hcell: ∀(k:Nat) v,us[k]?=some v->arr[base+off+k]?=some v:=fun k v hk=>by
  have:=u3 k v hk;rwa [Ce e2] at this
 by_cases hjn:j=n
 ·subst hjn;have hdn:us.drop (j*2)=[]:=List.drop_of_length_le (by omega);by_cases hroom:i+m<=c
  ·refine .inl ⟨by kernel_rfl,(tv b (base+off) j c i m vb (qbase+vo) vc us vs w hij hle hm hroom hn6 hm6 hvl hsp (fun k' _=>hfz _) s3 s2).mono ?_⟩;rintro e w' ⟨rfl,xs,rfl⟩;obtain ⟨a1,a2,a3,a4,a5,a6⟩:=B2 b vs (base+off+i*2) w;obtain ⟨arr1,k1,k2,k3⟩:=Ay b vs (base+off+i*2) w e2;obtain ⟨b1,b2,b3,b4,b5,b6⟩:=B2 b xs (base+off+(i+m)*2) (w.setCells b (base+off+i*2) vs);obtain ⟨arr2,m1,m2,m3⟩:=Ay b xs (base+off+(i+m)*2) _ k1;refine hmk (by rw [ht,Nat.sub_self];rfl) (by omega) m1 (by rw [m2,k2]) (fun b' hb=>(b6 b' hb).trans (a6 b' hb)) (b5.trans a5) (fun t' ht'=>by rw [m3,if_neg (by omega),k3,if_neg (by omega)]) (fun k v hk=>?_) (b1.trans a1) (b2.trans a2) (Tp.of (b3.trans a3) (by rw [b4,a4];exact Nat.le_refl _));rcases VT hul hvl hij (Nat.le_refl _) hk with ⟨h1,h2⟩ | ⟨h1,h2,h3⟩ | ⟨h1,h2,_⟩
   ·rw [m3,if_neg (by omega),k3,if_neg (by omega)];exact hcell k v h2
   ·rw [m3,if_neg (by omega),k3,if_pos ⟨by omega,by omega,by omega⟩,show base+off+k-(base+off+i*2)=k-i*2 by omega];exact h3
   ·omega
  ·refine .inl ⟨by kernel_rfl,(bE b (base+off) j c i m vb (qbase+vo) vc us vs w hij hle (by omega) hn6 hm6 hul hvl u3 s3).mono ?_⟩;rintro e w' ⟨gcap,rest,rfl,h2,h3,h4,h5,h6,h7⟩;refine fin (c':=gcap) (row:=(us.take (i*2)++vs++rest).toArray) (T:=127) (by rw [ht,Nat.sub_self];rfl) (by omega) (by simp only [List.size_toArray,List.length_append,List.length_take,h3,hvl,hul];omega) (by rw [h4];exact Array.getElem?_push_size) (by rw [h4,Array.size_push]) (fun b' hb=>by rw [h4,Array.getElem?_push,if_neg (by omega)]) (fun k v hk=>?_) h5 h6 h7;rw [hdn,List.append_nil] at hk;rw [List.getElem?_toArray,List.getElem?_append_left]
   ·exact hk
   ·rcases Nat.lt_or_ge k (us.take (i*2)++vs).length with h' | h'
    ·exact h'
    ·rw [List.getElem?_eq_none h'] at hk;cases hk
 have hjn:j<n:=by omega
 by_cases hroom:t<=c
 ·by_cases hup:j<i+m
  ·refine .inl ⟨by kernel_rfl,(vU b (base+off) n c i j m vb (qbase+vo) vc us vs w hij hjn hle hm hup (by omega) hn6 hm6 hvb hul hvl u3 (fun k' hk=>hsp k' (by omega)) (fun k' _=>hfz _) s3 u2 s2 qT T qarr.size arr.size hsa hsb (by omega) (hfv _) (hfv _) (hfz _) (hfz _) (by omega)).mono ?_⟩;rintro e w' ⟨rfl,rfl⟩;obtain ⟨a1,a2,a3,a4,a5,a6⟩:=B2 b (us.drop (j*2)) (base+off+(i+m)*2) w.drew.drew;obtain ⟨arr1,k1,k2,k3⟩:=Ay b (us.drop (j*2)) (base+off+(i+m)*2) w.drew.drew (arr:=arr) (T:=T) (m:=(lo,lo)) e2;obtain ⟨b1,b2,b3,b4,b5,b6⟩:=B2 b vs (base+off+i*2) (w.drew.drew.setCells b (base+off+(i+m)*2) (us.drop (j*2)));obtain ⟨arr2,m1,m2,m3⟩:=Ay b vs (base+off+i*2) _ k1;have hdl:(us.drop (j*2)).length=(n-j)*2:=by rw [List.length_drop,hul];omega
   refine hmk (by rw [ht]) hroom m1 (by rw [m2,k2]) (fun b' hb=>(b6 b' hb).trans (a6 b' hb)) (b5.trans a5) (fun t' ht'=>by rw [m3,if_neg (by omega),k3,if_neg (by omega)]) (fun k v hk=>?_) (b1.trans a1) (b2.trans a2) (Tp.of (b3.trans a3) (by rw [b4,a4];show w.drawn<=w.drawn+1+1;omega));rcases VT hul hvl hij hj hk with ⟨h1,h2⟩ | ⟨h1,h2,h3⟩ | ⟨h1,h2,h3⟩
   ·rw [m3,if_neg (by omega),k3,if_neg (by omega)];exact hcell k v h2
   ·rw [m3,if_pos ⟨by omega,by omega,by omega⟩,show base+off+k-(base+off+i*2)=k-i*2 by omega];exact h3
   ·rw [m3,if_neg (by omega),k3,if_pos ⟨by omega,by omega,by omega⟩,show base+off+k-(base+off+(i+m)*2)=k-(i+m)*2 by omega];exact h3
  ·refine .inl ⟨by kernel_rfl,(qt b (base+off) n c i j m t vb (qbase+vo) vc us vs w hij hjn hle hm (by omega) ht (by omega) hn6 hm6 hvb hul hvl u3 (fun k' hk=>hsp k' (by omega)) (fun k' _=>hfz _) s3 u2 s2).mono ?_⟩;rintro e w' ⟨rfl,xs,rfl⟩;obtain ⟨a1,a2,a3,a4,a5,a6⟩:=B2 b vs (base+off+i*2) w.drew;obtain ⟨arr1,k1,k2,k3⟩:=Ay b vs (base+off+i*2) w.drew (arr:=arr) (T:=T) (m:=(lo,lo)) e2;obtain ⟨b1,b2,b3,b4,b5,b6⟩:=B2 b (us.drop (j*2)) (base+off+(i+m)*2) (w.drew.setCells b (base+off+i*2) vs).drew;obtain ⟨arr2,m1,m2,m3⟩:=Ay b (us.drop (j*2)) (base+off+(i+m)*2) (w.drew.setCells b (base+off+i*2) vs).drew (arr:=arr1) (T:=T) (m:=(lo,lo)) k1;obtain ⟨c1,c2,c3,c4,c5,c6⟩:=B2 b xs (base+off+t*2) ((w.drew.setCells b (base+off+i*2) vs).drew.setCells b (base+off+(i+m)*2) (us.drop (j*2)));obtain ⟨arr3,n1,n2,n3⟩:=Ay b xs (base+off+t*2) _ m1;have hdl:(us.drop (j*2)).length=(n-j)*2:=by rw [List.length_drop,hul];omega
   refine hmk rfl hroom n1 (by rw [n2,m2,k2]) (fun b' hb=>(c6 b' hb).trans ((b6 b' hb).trans (a6 b' hb))) (c5.trans (b5.trans a5)) (fun t' ht'=>by rw [n3,if_neg (by omega),m3,if_neg (by omega),k3,if_neg (by omega)]) (fun k v hk=>?_) (c1.trans (b1.trans a1)) (c2.trans (b2.trans a2)) (Tp.of (c3.trans (b3.trans a3)) (by rw [c4,b4];show w.drawn<=(World.setCells _ _ _ _).drawn+1;rw [a4];show w.drawn<=w.drawn+1+1;omega));rcases VT hul hvl hij hj hk with ⟨h1,h2⟩ | ⟨h1,h2,h3⟩ | ⟨h1,h2,h3⟩
   ·rw [n3,if_neg (by omega),m3,if_neg (by omega),k3,if_neg (by omega)];exact hcell k v h2
   ·rw [n3,if_neg (by omega),m3,if_neg (by omega),k3,if_pos ⟨by omega,by omega,by omega⟩,show base+off+k-(base+off+i*2)=k-i*2 by omega];exact h3
   ·rw [n3,if_neg (by omega),m3,if_pos ⟨by omega,by omega,by omega⟩,show base+off+k-(base+off+(i+m)*2)=k-(i+m)*2 by omega];exact h3
 ·refine .inl ⟨by kernel_rfl,(qv b (base+off) n c i j m t vb (qbase+vo) vc us vs w hij hjn hm ht (by omega) hle hn6 hm6 hul hvl hbl hvbl u3 s3 u2 s2).mono ?_⟩;rintro e w' ⟨gcap,row,rfl,h2,h3,rfl,h5⟩;have hA:(w.drew.drew.alloc (.cells row 127)).heap[w.heap.size]?=some (.cells row 127 (0,0)):=Zb _ _;obtain ⟨a1,a2,a3,a4,a5,a6⟩:=B2 w.heap.size vs (i*2) (w.drew.drew.alloc (.cells row 127));obtain ⟨arr1,k1,k2,k3⟩:=Ay w.heap.size vs (i*2) _ hA;obtain ⟨b1,b2,b3,b4,b5,b6⟩:=B2 w.heap.size (us.drop (j*2)) ((i+m)*2) ((w.drew.drew.alloc (.cells row 127)).setCells w.heap.size (i*2) vs).drew;obtain ⟨arr2,m1,m2,m3⟩:=Ay w.heap.size (us.drop (j*2)) ((i+m)*2) ((w.drew.drew.alloc (.cells row 127)).setCells w.heap.size (i*2) vs).drew (arr:=arr1) (T:=127) (m:=(0,0)) k1;have hdl:(us.drop (j*2)).length=(n-j)*2:=by rw [List.length_drop,hul];omega
  refine fin (c':=gcap) (row:=arr2) (T:=127) rfl h2 (by rw [m2,k2,h3];exact Nat.le_refl _) m1 (b5.trans (a5.trans (VG _ _))) (fun b' hb=>(b6 b' (by omega)).trans ((a6 b' (by omega)).trans (Zc _ _ hb))) (fun k v hk=>?_) (b1.trans a1) (b2.trans a2) (Tp.of (b3.trans a3) (by rw [b4];show w.drawn<=(World.setCells _ _ _ _).drawn+1;rw [a4];show w.drawn<=w.drawn+1+1+1;omega));rcases VT hul hvl hij hj hk with ⟨h1,h4⟩ | ⟨h1,h4,h6⟩ | ⟨h1,h4,h6⟩
  ·rw [m3,if_neg (by omega),k3,if_neg (by omega)];have h7:(row.toList.take (i*2))[k]?=some v:=by rw [h5,List.getElem?_take,if_pos h1];exact h4
   rw [List.getElem?_take,if_pos h1,Array.getElem?_toList] at h7;exact h7
  ·rw [m3,if_neg (by omega),k3,if_pos ⟨by omega,by omega,by omega⟩];exact h6
  ·rw [m3,if_pos ⟨by omega,by omega,by omega⟩];exact h6
end Go.Proofs
end
section
set_option maxRecDepth 100000
namespace Go.Proofs.YtlibocgedgdmlaaGreat.E
open Go.Vc Go.Fu
theorem Has.ne {S:AB} {l l' v:Nat} {k:Nat} {cs:List AA} {o:Ob} {R:HM} (h:Has S (pt l o+(pt l' (.row v k cs)+R))):l≠l':=fun e=>by
 subst e;have h2:=Has.get (Has.right (h.put .dead));have hl:l<S.length:=(List.getElem?_eq_some_iff.1 h.get).1;rw [List.getElem?_set_self hl] at h2;cases h2
set_option maxHeartbeats 1000000 in
theorem jT {x:AA} {C V:List AA} {n i j t q vq:Nat} {a:HM} (hs:Ed 2 x C n a) (hV:V.length=t*2) (hij:i<j) (hj:j<=n) (ht:1<=t) (hn6:n<=1000000) (ht6:t<=1000000) {i' j':Int} (hi':i'=i) (hj':j'=j):
  HC Tryz.prog A_ [x,.int .i64 i',.int .i64 j',.sl q vq 0 t] (a+pt q (.row vq 2 V)) fun r m'=> ∃a' X,Ed 2 r (C.take (i*2)++V++C.drop (j*2)) (i+t+(n-j)) a'/\m'=a'+X:=by
 intro S mf hS;subst hi';subst hj';obtain ⟨p,v,off,cs,rfl,rfl,hle,rfl⟩:=hs.pos (by omega);have hp:=Has.here (l:=p) hS;have hq:=Has.here (l:=q) hS;have hne:p≠q:=Has.ne (hS.eq (m':=pt p (.row v 2 cs)+(pt q (.row vq 2 V)+mf)) (by ac_rfl));have hc:=Xy hp hle hq (vo:=0) (m:=t) (by omega) hne hij hj ht hn6 ht6;have hVe:A6 V 0 (t*2)=V:=by unfold A6;rw [List.drop_zero,List.take_of_length_le (by omega)]
 rw [hVe] at hc;have hl:=bF (A:=A6 cs off (n*2)) (B:=V) (n:=n) (m:=t) (by unfold A6;rw [List.length_take,List.length_drop];omega) hV hij hj rfl;generalize hY:(A6 cs off (n*2)).take (i*2)++V++(A6 cs off (n*2)).drop (j*2)=Y at*;refine DM hc ?_;rintro r S' (⟨v',rfl,rfl⟩ | ⟨p',ver,off',len,cs',e,hp',hoff,rfl,rfl⟩)
 ·exact ⟨_,⟨pt S.length (.row v' 2 Y),pt p (.row v 2 cs)+pt q (.row vq 2 V),Ed.whole hl,rfl⟩,(hS.more _).eq (by ac_rfl)⟩
 ·cases e;rw [hp] at hp';cases hp';have hS':=hS.fq (l:=p) (o':= .row v 2 (cs.take off++Y));have ht':(cs.take off).length=off:=by rw [List.length_take];omega
  refine ⟨_,⟨pt p (.row v 2 (cs.take off++Y)),pt q (.row vq 2 V),.inr ⟨p,v,off,_,rfl,rfl,by rw [List.length_append,ht',hl];omega,?_⟩,rfl⟩,hS'⟩;unfold A6;rw [List.drop_left' ht',List.take_of_length_le (by rw [hl];omega)]
theorem KY: ∀ {L L':List Bytes} {K K':List Bool},K.length=L.length->cellsOf (L++L') (K++K')=cellsOf L K++cellsOf L' K'
 | [],L',[],K',_=>rfl
 | l::L,L',k::K,K',h=>by simp only [List.cons_append,cellsOf];rw [KY (by simpa using h)]
 | [],_,k::K,_,h=>by simp at h
 | l::L,_,[],_,h=>by simp at h
theorem Qy: ∀ {L:List Bytes} {K:List Bool} (i:Nat),cellsOf (L.take i) (K.take i)=(cellsOf L K).take (i*2)
 | [],K,i=>by simp [cellsOf]
 | l::L,[],i=>by cases i<;>simp [cellsOf]
 | l::L,k::K,0=>rfl
 | l::L,k::K,i+1=>by rw [show (i+1)*2=i*2+1+1 by omega];simp only [List.take_succ_cons,cellsOf];rw [Qy i]
theorem Qx: ∀ {L:List Bytes} {K:List Bool} (i:Nat),K.length=L.length->cellsOf (L.drop i) (K.drop i)=(cellsOf L K).drop (i*2)
 | [],[],i,_=>by simp [cellsOf]
 | l::L,k::K,0,_=>rfl
 | l::L,k::K,i+1,h=>by rw [show (i+1)*2=i*2+1+1 by omega];simp only [List.drop_succ_cons,cellsOf];exact Qx i (by simpa using h)
 | [],k::K,_,h=>by simp at h
 | l::L,[],_,h=>by simp at h
theorem JS: ∀(M:List Bytes),cellsOf M (List.replicate M.length false)=(List.replicate M.length [AA.int .i64 0,.bool false]).flatten
 | []=>rfl
 | l::M=>by rw [List.length_cons,List.replicate_succ,List.replicate_succ,List.flatten_cons];simp only [cellsOf];rw [JS M];rfl
variable {lg vg lh vh lm vm : Nat} {s : Bytes} {D : List Span} {xc : AA} {sc : List AA}
abbrev SV (e:Bn):List AA:=[.int .i64 e.1,.int .i64 e.2.1,.str e.2.2]
theorem jY (h:BV Tryz.prog Bf C5) {D:List Span} {e:Bn} (hp:W6 D e):RC Tryz.prog Bf [rC D,.agg (SV e)] (rC (Fv D e)):=
 h.frozen.plain (S:=[]) (K:=fun r _=>r=rC (Fv D e)) (D,e) hp rfl rfl
theorem lL (h:BV Tryz.prog Bv DG) {D:List Span} {x:Span} (h1:EO D) (h2:Fw x):RC Tryz.prog Bv [rC D,.agg [.int .i64 x.1,.int .i64 x.2]] (rC (Fl D x)):=
 h.frozen.plain (S:=[]) (K:=fun r _=>r=rC (Fl D x)) (D,x) ⟨h1,h2⟩ rfl rfl
theorem jj (h:BV Tryz.prog BT C4) {s:Bytes} {e:Bn} (he:Bg s.length e):RC Tryz.prog BT [vZ s,.agg (SV e)] (vZ (AY s e)):=by
 have m:=Bs.1 he;have ok:=Oc (s:=s) (by omega);have hu:bc e:=⟨by omega,by omega,by omega,by omega,by omega⟩
 have hq:RC Tryz.prog BT [DV (.sl tI) (Ab s),.agg (SV e)] (DV (.sl tI) (FF (Ab s) e)):=
  h.frozen.plain (S:=[]) (K:=fun r _=>r=DV (.sl tI) (FF (Ab s) e)) (Ab s,e) ⟨ok,by show (Ab s).length<=_;have:=Qb ok;omega,hu⟩ rfl rfl
 rw [<-X4 he,JV,JV] at hq;exact hq
theorem tJ (h:BV Tryz.prog BU CR) {s:Bytes} {e:Bn} (he:Bg s.length e):RC Tryz.prog BU [.str s,.agg (SV e)] (.str (AY s e)):=
 h.plain (S:=[]) (K:=fun r _=>r= .str (AY s e)) (s,e) he rfl rfl
theorem ti (hP:BV Tryz.prog FB GG) {s:Bytes} (hs:s.length<=600):RC Tryz.prog FB [.str s] (.agg [.int .i64 (posOf s).1,.int .i64 (posOf s).2.1,.int .i64 (posOf s).2.2]):=
 hP.plain (S:=[]) (K:=fun r _=>r= .agg [.int .i64 (posOf s).1,.int .i64 (posOf s).2.1,.int .i64 (posOf s).2.2]) s (by show s.length<=_;omega) rfl rfl
theorem Zk (hA:BV Tryz.prog BN CV) (hSh:BV Tryz.prog Bf C5) (hWi:BV Tryz.prog Bv DG) (hL:BV Tryz.prog Bu DX) (hPo:BV Tryz.prog FB GG) (hU:BV Tryz.prog BT C4) (hM:BV Tryz.prog BU CR) {K:List Bool} {m:HM} (hm:br lg vg lh vh lm vm s D K sc m) {e:Bn}
  (he:Bg s.length e) (hD:AR s.length (-1) D) (hK:K.length=(AH s).length):
  HC Tryz.prog CA [.ptr lg vg 0,.agg (SV e)] m fun r m'=> ∃m1 X,br lg vg lh vh lm vm (AY s e) (lu s D e) (Vg s K e) sc m1/\m'=m1+X:=by
 intro S mf hS;obtain ⟨at_,cut,ins⟩:=e;obtain ⟨xc,es,mt,mc,rfl,ht,hc⟩:=hm;have em:=Bs.1 he;dsimp only at em;obtain ⟨lo,hlo⟩: ∃lo,lo=Mr s at_.toNat:=⟨_,rfl⟩
 obtain ⟨hi,hhi⟩: ∃hi,hi=Le s (at_+cut).toNat:=⟨_,rfl⟩
 obtain ⟨c1,c2,c3,c4⟩:=Tx he hlo hhi rfl hD;dsimp only at c1 c2 c3 c4;have hlo2:=Ze s at_.toNat;have hhi2:=Zd (s:=s) (n:=(at_+cut).toNat) (by omega);rw [<-hlo] at hlo2;rw [<-hhi] at hhi2;refine JU KD ?_;refine Z3 fun v3 l3 S hS=>?_;refine Z3 ?_;refine Cw hS fun S hS=>?_;refine ju ?_;refine VY hA (lo:=at_) (hi:=at_+cut) ⟨by show s.length<=_;omega,by omega,by omega,by omega⟩ ?_;rw [<-hlo,<-hhi];refine yK ?_;have hS:=hS.eq (m':=(pt lg (.row vg 0 (gC lh vh s lm vm D xc sc))+(pt lm (.DA vm es)+mt))+(pt l3 (.row v3 0 (SV (at_,cut,ins)))+(mc+mf))) (by ac_rfl);refine HC.use (dC (f:=ij s D) (lg:=lg) (vg:=vg) (lh:=lh) (vh:=vh) (lm:=lm) (vm:=vm) (s:=s) (D:=D) (xc:=xc) (sc:=sc) (lo:=(lo:Int)) (hi:=(hi:Int)) (b:=(ins.length:Int)-cut) ht (by omega) (fun w=>⟨by show (Jq s w fun p=> ¬Bd D p).length<=_;have:=Wi s w fun p=> ¬Bd D p;omega,fun a ha=>by have:=IC (eY.1 ha).1;omega⟩)) hS ?_;rintro r m2 S ⟨es2,mt2,X,ht2,rfl⟩ hS;refine Z4 ?_;refine Cw hS fun S hS=>?_;refine ju ?_;refine (jY hSh (e:=(at_,cut,ins)) ⟨s.length,⟨by omega,by omega,hD⟩,he⟩).use ?_;refine Z2 ?_;refine (lL hWi (x:=((lo:Int),(hi:Int)+((ins.length:Int)-cut))) c1 c2).use ?_;refine Z4 fun S hS=>?_;refine Z3 ?_;refine Cw hS fun S hS=>?_;refine Z8 ?_;refine WJ hL (by omega) (by omega) (by omega) ?_;refine Z9 ?_;refine Cw hS fun S hS=>?_;refine SI ?_;refine WJ hL (by omega) (by omega) (by omega) ?_;refine Z9 ?_;obtain ⟨p1,p2,p3⟩:=Im ins;obtain ⟨t0,ht0⟩: ∃t0:Nat,(posOf ins).2.1=(t0:Int):=⟨(posOf ins).2.1.toNat,by omega⟩
 refine Z4 ?_;refine (ti hPo (by omega)).use ?_;rw [ht0];refine Z3 ?_;refine AX ?_;refine nJ (n:=t0+1) hS rfl rfl (by omega) fun v11 l11 S hS=>?_;refine Z5 ?_;have hAp:=(Im (s.take at_.toNat)).2.1;have hBp:=(Im (s.take (at_+cut).toNat)).2.1;obtain ⟨A,hA'⟩: ∃A:Nat,(A:Int)=(posOf (s.take at_.toNat)).2.1:=⟨(posOf (s.take at_.toNat)).2.1.toNat,by omega⟩
 obtain ⟨B,hB'⟩: ∃B:Nat,(B:Int)=(posOf (s.take (at_+cut).toNat)).2.1:=⟨(posOf (s.take (at_+cut).toNat)).2.1.toNat,by omega⟩
 obtain ⟨M,m1,m2,m3,m4⟩:=cN he hA' hB';dsimp only at m1;have hMl:M.length=t0+1:=by omega
 have hcl:=DY s;have hV:((List.replicate (t0+1) [AA.int .i64 0,.bool false]).flatten).length=(t0+1)*2:=by
  rw [<-hMl,<-JS M,Jc (by simp)];simp
 rw [<-hA',<-hB'];refine SI ?_;have hS:=hS.eq (m':=(mc+pt l11 (.row v11 2 (List.replicate (t0+1) [AA.int .i64 0,.bool false]).flatten))+(pt lg (.row vg 0 (gC lh vh s lm vm (Fl (Fv D (at_,cut,ins)) ((lo:Int),(hi:Int)+((ins.length:Int)-cut))) xc sc))+(pt lm (.DA vm es2)+(mt2+X))+(pt l3 (.row v3 0 (SV (at_,cut,ins)))+mf))) (by ac_rfl);refine HC.use (jT (i:=A) (j:=B+1) hc hV (by omega) (by omega) (by omega) (by omega) (by omega) rfl rfl) hS ?_;rintro xc2 m2 S ⟨mc2,X2,hc2,rfl⟩ hS;refine Z3 ?_;refine AX ?_;refine G4 hS rfl rfl hc2.cl rfl (by simp) fun S hS=>?_;(try dsimp only [AK,rd,Frame.get,setCells,over] at hS);refine Z4 ?_;refine Cw hS fun S hS=>?_;refine Z8 ?_;refine (jj hU he).use ?_;refine Z4 fun S hS=>?_;refine Z2 ?_;refine Cw hS fun S hS=>?_;refine Z8 ?_;refine (tJ hM he).use ?_;refine Z4 fun S hS=>?_;refine Z3 ?_;have hKK:Vg s K (at_,cut,ins)=K.take A++List.replicate M.length false++K.drop (B+1):=by
  unfold Vg;dsimp only;rw [<-hA',<-hB',ht0,hMl];rfl
 have hcc:cellsOf (AH (AY s (at_,cut,ins))) (Vg s K (at_,cut,ins))=(cellsOf (AH s) K).take (A*2)++(List.replicate (t0+1) [AA.int .i64 0,.bool false]).flatten++(cellsOf (AH s) K).drop ((B+1)*2):=by
  rw [hKK,m4,KY (by simp;omega),KY (by simp;omega),Qy,Qx _ hK,JS,hMl]
 have hkl:(Vg s K (at_,cut,ins)).length=A+(t0+1)+(K.length-(B+1)):=by
  rw [hKK];simp;omega
 rw [<-hcc,<-hkl] at hc2;have hov:over sc []=sc:=by cases sc<;>rfl
 have hD2:Fl (Fv D (at_,cut,ins)) ((lo:Int),(hi:Int)+((ins.length:Int)-cut))=lu s D (at_,cut,ins):=by rw [hlo,hhi];rfl
 simp only [hov] at hS;rw [hD2] at hS;refine ⟨_,⟨_,X2+(X+pt l3 (.row v3 0 (SV (at_,cut,ins)))),⟨xc2,es2,mt2,mc2,rfl,ht2.congr (funext fun w=>?_),hc2⟩,rfl⟩,hS.eq (by ac_rfl)⟩;rw [iN he hlo hhi rfl (Bd D) w];refine QQ fun p _=>?_;rw [<-c3 p];show _↔ ¬Bd (Fl _ _) p;rw [hlo,hhi]
end Go.Proofs.YtlibocgedgdmlaaGreat.E
end
section
set_option maxRecDepth 100000
namespace Go.Proofs.YtlibocgedgdmlaaGreat.H
open Go.Vc Go.Fu
def SV (e:Bn):List AA:=[.int .i64 e.1,.int .i64 e.2.1,.str e.2.2]
def F6 (l:List Bn):List AA:=l.flatMap SV
theorem QC (l:List Bn) (e:Bn):F6 l++SV e=F6 (l++[e]):=by simp [F6]
def Nb:List Ev->List AA->HM->Prop
 | [],cs,m=>cs=[]/\m=HM.nil
 | g::gs,cs,m=> ∃x y cs' m1 m2 m3,cs=x::y::cs'/\m=m1+m2+m3/\Ed 3 x (F6 g.1) g.1.length m1/\Ed 3 y (F6 g.2) g.2.length m2/\Nb gs cs' m3
theorem Nb.SM: ∀ {gs:List Ev} {cs:List AA} {m:HM},Nb gs cs m->cs.length=gs.length*2
 | [],cs,m,h=>by rw [h.1];rfl
 | g::gs,cs,m,⟨x,y,cs',m1,m2,m3,h1,_,_,_,h⟩=>by rw [h1];have:=Nb.SM h;simp;omega
theorem Nb.app: ∀ {gs gs':List Ev} {cs cs':List AA} {m m':HM},Nb gs cs m->Nb gs' cs' m'->Nb (gs++gs') (cs++cs') (m+m')
 | [],gs',cs,cs',m,m',h,h'=>by rw [h.1,h.2,HM.nil_add];exact h'
 | g::gs,gs',cs,cs',m,m',⟨x,y,c,m1,m2,m3,h1,h2,h3,h4,h⟩,h'=>by
  refine ⟨x,y,c++cs',m1,m2,m3+m',by rw [h1];rfl,by rw [h2];ac_rfl,h3,h4,Nb.app h h'⟩
theorem Nb.split: ∀ {gs gs':List Ev} {cs:List AA} {m:HM},Nb (gs++gs') cs m-> ∃c c' m1 m2,cs=c++c'/\m=m1+m2/\Nb gs c m1/\Nb gs' c' m2
 | [],gs',cs,m,h=>⟨[],cs,HM.nil,m,rfl,(HM.nil_add _).symm,⟨rfl,rfl⟩,h⟩
 | g::gs,gs',cs,m,⟨x,y,c,m1,m2,m3,h1,h2,h3,h4,h⟩=>by
  obtain ⟨c1,c2,n1,n2,e1,e2,k1,k2⟩:=Nb.split h;exact ⟨x::y::c1,c2,m1+m2+n1,n2,by rw [h1,e1];rfl,by rw [h2,e2];ac_rfl,⟨x,y,c1,m1,m2,n1,rfl,rfl,h3,h4,k1⟩,k2⟩
theorem Nb.one {g:Ev} {cs:List AA} {m:HM}:Nb [g] cs m↔ ∃x y m1 m2,cs=[x,y]/\m=m1+m2/\Ed 3 x (F6 g.1) g.1.length m1/\Ed 3 y (F6 g.2) g.2.length m2:=by
 constructor
 ·rintro ⟨x,y,c,m1,m2,m3,h1,h2,h3,h4,h5,h6⟩;exact ⟨x,y,m1,m2,by rw [h1,h5],by rw [h2,h6,HM.add_nil],h3,h4⟩
 ·rintro ⟨x,y,m1,m2,h1,h2,h3,h4⟩;exact ⟨x,y,[],m1,m2,HM.nil,h1,by rw [h2,HM.add_nil],h3,h4,rfl,rfl⟩
def KQ (h:Bz) (lh vh:Nat) (m:HM):Prop:=
 ∃xu xr cu cr mu gu mr gr,m=pt lh (.row vh 0 [.str h.text,xu,xr,.bool h.O5])+(mu+(gu+(mr+gr)))/\Ed 2 xu cu h.As.length mu/\Nb h.As cu gu/\Ed 2 xr cr h.DF.length mr/\Nb h.DF cr gr
theorem ZP {A B:List AA} {x:AA} {n:Nat} (h:A.length=n):takeN 1 ((A++x::B).drop n)=some [x]:=by subst h;simp [takeN]
theorem NG: ∀ {A B:List AA} {x z:AA} {n:Nat},A.length=n->setCells (A++x::B) n [z]=A++z::B
 | [],B,x,z,n,h=>by subst h;cases B<;>rfl
 | a::A,B,x,z,n,h=>by subst h;show a::setCells (A++x::B) A.length [z]=_;rw [NG rfl];rfl
theorem gh (hC:BV Tryz.prog B8 C0) {size:Int} {e:Bn} {S:AB} {K:AA->AB->Prop} (hs:AQ size/\E_ e) (h:K (.int .i64 (BX size e)) S):AV Tryz.prog B8 [.int .i64 size,.agg [.int .i64 e.1,.int .i64 e.2.1,.str e.2.2]] S K:=hC.plain (size,e) hs rfl h
theorem Rc (hC:BV Tryz.prog BU CR) {s:Bytes} {e:Bn} {S:AB} {K:AA->AB->Prop} (hs:Bg s.length e) (h:K (.str (AY s e)) S):AV Tryz.prog BU [.str s,.agg [.int .i64 e.1,.int .i64 e.2.1,.str e.2.2]] S K:=hC.plain (s,e) hs rfl h
theorem rN (hC:BV Tryz.prog CZ DZ) {s:Bytes} {e:Bn} {S:AB} {K:AA->AB->Prop} (hs:Bg s.length e) (h:K (.agg [.int .i64 (CJ s e).1,.int .i64 (CJ s e).2.1,.str (CJ s e).2.2]) S):AV Tryz.prog CZ [.str s,.agg [.int .i64 e.1,.int .i64 e.2.1,.str e.2.2]] S K:=hC.plain (s,e) hs rfl h
theorem eW {lh vh c p v off n:Nat} {cs cu:List AA} {x1 x2:AA} (h1:takeN 1 (cs.drop c)=some [.sl p v off (n+1)]) (hx:takeN 2 (cu.drop (off+n*2))=some [x1,x2]) (hc:c+1<=cs.length) (hn:n<1000000):
  HC Tryz.prog Gf [.ptr lh vh c] (pt lh (.row vh 0 cs)+pt p (.row v 2 cu)) fun r m'=>r= .DH [.agg [x1,x2],.bool true]/\m'=pt lh (.row vh 0 (setCells cs c [.sl p v off n]))+pt p (.row v 2 cu):=by
 intro S mf hS;refine JU UC ?_;refine Z3 fun v2 l2 S hS=>?_;refine ra ?_;rw [show ((n+1:Nat):Int)-1=(n:Int) by omega];refine Z8 ?_;refine Av rfl (fun hc=>?_) (fun hc=>?_)
 ·omega
 refine SI fun v5 l5 S hS=>?_;refine Z1 fun S hS=>?_;refine Z9 ?_;refine AX (VQ hS rfl rfl ⟨_,rfl⟩ rfl (by omega) (by omega) (Dj ?_));dsimp only [AK,rd,Frame.get];simp only [Nat.zero_mul,Nat.mul_zero,Nat.mul_one,Nat.add_zero,Nat.zero_add,Nat.sub_zero,Nat.reduceAdd,Nat.reduceMul];refine Z2 fun S hS=>?_;refine Z6 fun S hS=>?_;refine Z8 ?_;exact ⟨_,⟨rfl,rfl⟩,hS.right.right⟩
theorem eU {lh vh c:Nat} {cs:List AA} {x:AA} (h1:takeN 1 (cs.drop c)=some [x]) (hx:dY false x=some 0):
  HC Tryz.prog Gf [.ptr lh vh c] (pt lh (.row vh 0 cs)) fun r m'=>r= .DH [.agg [.AL,.AL],.bool false]/\m'=pt lh (.row vh 0 cs):=by
 intro S mf hS;refine JU UC ?_;refine Z3 fun v2 l2 S hS=>?_;refine Z8 ?_;refine AX ?_;refine Ri hx ?_;refine ra ?_;refine Av rfl (fun hc=>?_) (fun hc=>?_)
 ·refine Z4 fun S hS=>?_;refine Z9 ?_;exact ⟨_,⟨rfl,rfl⟩,hS.right⟩
 ·omega
theorem je {A B:List AA} {w x:AA} {n:Nat} (h:A.length=n):takeN 1 ((A++w::x::B).drop (n+1))=some [x]:=by
 have:=ZP (A:=A++[w]) (B:=B) (x:=x) (n:=n+1) (by simp [h]);simpa using this
theorem Xz {A B:List AA} {w x z:AA} {n:Nat} (h:A.length=n):setCells (A++w::x::B) (n+1) [z]=A++w::z::B:=by
 have:=NG (A:=A++[w]) (B:=B) (x:=x) (z:=z) (n:=n+1) (by simp [h]);simpa using this
theorem rE {A B:List AA} {x y:AA} {off a:Nat} (h:A.length=off+a):A6 (A++x::y::B) off (a+2)=A.drop off++[x,y]:=by
 unfold A6;rw [List.drop_append_of_le_length (by omega)];have e:(A.drop off).length=a:=by rw [List.length_drop];omega
 rw [List.take_append,e,show a+2-a=2 by omega,List.take_of_length_le (by omega)];rfl
theorem UZ {cs c1:List AA} {x y:AA} {off a:Nat} (hle:off+(a+2)<=cs.length) (h:c1++[x,y]=A6 cs off (a+2)) (hc:c1.length=a): ∃A B,cs=A++x::y::B/\A.length=off+a/\c1=A.drop off:=by
 have e:cs=cs.take off++(A6 cs off (a+2)++cs.drop (off+(a+2))):=by
  unfold A6
  conv=>lhs;rw [<-List.take_append_drop off cs,<-List.take_append_drop (a+2) (cs.drop off),List.drop_drop]
 refine ⟨cs.take off++c1,cs.drop (off+(a+2)),?_,?_,?_⟩
 ·rw [<-h] at e
  conv=>lhs;rw [e]
  simp
 ·rw [List.length_append,List.length_take,hc];omega
 ·rw [List.drop_append_of_le_length (by rw [List.length_take];omega),List.drop_of_length_le (by rw [List.length_take];omega)];rfl
theorem pV {k:Nat} {h:Bz} (i:F4 k h):FZ h≠[]:=by
 unfold FZ;split
 ·rename_i c;exact i.O5 c
 ·unfold JM;split
  ·rename_i c;intro e;have:=congrArg List.length e;rw [List.length_drop] at this;simp only [List.length_append,List.length_singleton,List.length_nil] at this c;omega
  ·simp
theorem mL {k:Nat} {h:Bz} (i:F4 k h):(FZ h).length<=21:=by
 have:=i.all;unfold FZ;split
 ·omega
 ·unfold JM;split
  ·simp;omega
  ·simp;omega
theorem mK {k:Nat} {h:Bz} (i:F4 k h): ∀g∈FZ h,g.1.length<=k/\g.2.length<=k:=fun g hg=>by
 unfold FZ at hg;split at hg
 ·exact i.oZ g (List.mem_append_left _ hg)
 ·have:g∈h.As++[([],[])]:=by
   unfold JM at hg;split at hg
   ·exact List.mem_of_mem_drop hg
   ·exact hg
  simp at this;rcases this with this | rfl
  ·exact i.oZ g (List.mem_append_left _ this)
  ·simp
theorem mw (hCk:BV Tryz.prog B8 C0) (hMd:BV Tryz.prog BU CR) (hUn:BV Tryz.prog CZ DZ) {h:Bz} {lh vh k:Nat} {m:HM} {x:Bn} (hm:KQ h lh vh m) (i:F4 k h) (hk:k<=1000) (hx:E_ x):
  HC Tryz.prog C1 [.ptr lh vh 0,.agg [.int .i64 x.1,.int .i64 x.2.1,.str x.2.2]] m fun r m'=>r= .int .i64 (Bh h (1,x)).2/\KQ (Bh h (1,x)).1 lh vh m':=by
 intro S mf hS;have il:=i.len;have ia:=i.all;obtain ⟨xu,xr,cu,cr,mu,gu,mr,gr,rfl,su,qu,sr,qr⟩:=hm;refine JU L5 ?_;refine Z3 fun v3 l3 S hS=>?_;refine Z5 ?_;refine Cw hS fun S hS=>?_;refine Z8 ?_;refine gh hCk (size:=h.text.length) (e:=x) ⟨by unfold AQ;omega,hx⟩ ?_;refine Nn ?_;refine gR rfl (fun hc=>?_) (fun hc=>?_)
 ·refine SI ?_;have e:Bh h (1,x)=(h,BX h.text.length x):=by unfold Bh;rw [if_pos rfl,if_pos hc]
  rw [e];exact ⟨_,⟨rfl,xu,xr,cu,cr,mu,gu,mr,gr,rfl,su,qu,sr,qr⟩,hS.right⟩
 have hmay:Bg h.text.length x:=hc;have hde:Bh h (1,x)=(Dq h x,0):=by unfold Bh;rw [if_pos rfl,if_neg (by simpa using hc)]
 rw [hde];refine Z2 ?_;refine Hu fun K hK=>?_;have rest: ∀(xu:AA) (cu:List AA) (mu gu:HM) (S:AB),Ed 2 xu cu (FZ h).length mu->Nb (FZ h) cu gu->
   Has S (pt l3 (.row v3 0 [.int .i64 x.1,.int .i64 x.2.1,.str x.2.2])+(pt lh (.row vh 0 [.str h.text,xu,xr,.bool true])+(mu+(gu+(mr+gr)))+mf))->K [] S:=by
  intro xu cu mu gu S su qu hS;refine hK _ _ rfl ?_;obtain ⟨us,g,hug⟩: ∃us g,FZ h=us++[g]:=⟨_,_,Em (pV i)⟩
  have hL:(us++[g]).length=us.length+1:=by simp
  have hL2:=mL i;have hG:=mK i g (by rw [hug];simp);rw [hug] at su qu hL2;obtain ⟨c1,c2,n1,n2,rfl,rfl,q1,q2⟩:=Nb.split qu;obtain ⟨xd,xb,md,mb,rfl,rfl,sd,sb⟩:=Nb.one.1 q2;obtain ⟨p,vu,off,cs,rfl,rfl,hle,hcs⟩:=su.pos (by omega);rw [show (us++[g]).length*2=us.length*2+2 by omega] at hle hcs;obtain ⟨A,B,rfl,hA,rfl⟩:=UZ hle hcs q1.SM;clear hle hcs su qu q2;dsimp only [Er,List.map,Frame.get];refine Z1 ?_;refine Cw hS fun S hS=>?_;refine SI ?_;refine AX ?_;rw [show (((us++[g]).length:Nat):Int)-1=(us.length:Int) by omega];refine ah hS rfl rfl rfl (by omega) ?_;refine Z3 ?_;rw [<-hA];refine Z2 ?_;have ht1:takeN 1 (List.drop A.length (A++xd::xb::B))=some [xd]:=ZP rfl;refine Cw hS fun S hS=>?_;refine Z8 ?_;refine AX ?_;refine G3 hS rfl sd (DL.one rfl) rfl (by omega) fun xd' md' S sd' hS=>?_;refine Z3 ?_;refine AX ?_;refine G4 hS rfl rfl sd'.cl rfl (by simp only [List.length_append,List.length_cons];omega) fun S hS=>?_;(try dsimp only [AK,rd,Frame.get] at hS);rw [NG rfl] at hS;refine Z4 ?_;refine Cw hS fun S hS=>?_;refine Z4 ?_;refine o6 (qj rfl ?_);refine Lm hS rfl rfl (je rfl) rfl ?_;refine Z6 ?_;refine o6 (qi _ (rN hUn (s:=h.text) (e:=x) hmay ⟨rfl,rfl⟩) ?_);refine Z3 ?_;refine AX ?_;refine G3 hS rfl sb (DL.one rfl) rfl (by omega) fun xb' mb' S sb' hS=>?_;refine Z3 ?_;refine AX ?_;refine G4 hS rfl rfl sb'.cl rfl (by simp only [List.length_append,List.length_cons];omega) fun S hS=>?_;(try dsimp only [AK,rd,Frame.get] at hS);rw [Xz rfl] at hS;refine Z4 ?_;refine Cw hS fun S hS=>?_;refine Z8 ?_;refine Rc hMd (s:=h.text) (e:=x) hmay ?_;refine Z4 fun S hS=>?_;refine Z8 fun S hS=>?_;refine SI ?_;have e:(Dq h x).As=us++[(g.1++[x],g.2++[CJ h.text x])]:=by simp only [Dq,hug,JQ,M3,List.dropLast_concat]
  have eL:(Dq h x).As.length=(us++[g]).length:=by rw [e];simp
  refine ⟨pt lh (.row vh 0 [.str (AY h.text x),.sl p vu off (us++[g]).length,.AL,.bool true])+(pt p (.row vu 2 (A++xd'::xb'::B))+((n1+(md'+mb'))+(HM.nil+HM.nil))),⟨rfl,.sl p vu off (us++[g]).length,.AL,A.drop off++[xd',xb'],[],pt p (.row vu 2 (A++xd'::xb'::B)),n1+(md'+mb'),HM.nil,HM.nil,rfl,?_,?_,Ed.nil,rfl,rfl⟩,(hS.right.eq (m':=_+(mr+gr)) ?_).left⟩
  ·rw [eL];refine .inr ⟨p,vu,off,_,rfl,rfl,?_,?_⟩
   ·simp only [List.length_append,List.length_cons,List.length_nil];omega
   ·rw [show (us++[g]).length*2=us.length*2+2 by omega];exact (rE hA).symm
  ·rw [e];refine Nb.app q1 (Nb.one.2 ⟨xd',xb',md',mb',rfl,rfl,?_,?_⟩)
   ·have:=sd';rw [show F6 g.1++[.int .i64 x.1,.int .i64 x.2.1,.str x.2.2]=F6 (g.1++[x]) from QC _ _] at this;simpa using this
   ·have:=sb';rw [show F6 g.2++[.int .i64 (CJ h.text x).1,.int .i64 (CJ h.text x).2.1,.str (CJ h.text x).2.2]=F6 (g.2++[CJ h.text x]) from QC _ _] at this;simpa using this
  ·ac_rfl
 refine Z9 ?_;refine BS rfl (fun hb=>?_) (fun hb=>?_)
 ·have ho:h.O5=false:=by simpa using hb
  have hoe:FZ h=JM (h.As++[([],[])]):=by unfold FZ;rw [ho,if_neg (by simp)]
  refine Z9 ?_;refine AX ?_;refine G3 hS rfl su (DL.one rfl) rfl (by omega) fun xu' mu' S su' hS=>?_;refine Z3 ?_;refine AX ?_;refine G4 hS rfl rfl su'.cl rfl (by simp) fun S hS=>?_;(try dsimp only [AK,rd,Frame.get,setCells,over] at hS);refine Z3 ?_;refine Hu fun K2 hK2=>?_;have rest2: ∀(xu:AA) (cu:List AA) (mu gu:HM) (S:AB),Ed 2 xu cu (FZ h).length mu->Nb (FZ h) cu gu->
    Has S (pt l3 (.row v3 0 [.int .i64 x.1,.int .i64 x.2.1,.str x.2.2])+(pt lh (.row vh 0 [.str h.text,xu,xr,.bool h.O5])+(mu+(gu+(mr+gr)))+mf))->K2 [] S:=by
   intro xu cu mu gu S su qu hS;refine hK2 _ _ rfl ?_;dsimp only [Er,List.map,Frame.get];refine Z5 fun S hS=>?_;refine Z2 ?_;exact rest _ _ _ _ _ su qu hS
  have qu':Nb (h.As++[([],[])]) (cu++[.AL,.AL]) (gu+HM.nil):=Nb.app qu (Nb.one.2 ⟨.AL,.AL,HM.nil,HM.nil,rfl,(HM.nil_add _).symm,Ed.nil,Ed.nil⟩);rw [HM.add_nil] at qu';have hU:(h.As++[(([],[]):Ev)]).length=h.As.length+1:=by simp
  refine Z6 ?_;refine AX ?_;refine Ri su'.len ?_;refine Z4 ?_;refine Av rfl (fun hg=>?_) (fun hg=>?_)
  ·have ht:FZ h=(h.As++[([],[])]).drop 1:=by rw [hoe];unfold JM;rw [if_pos (by omega)]
   obtain ⟨p,vu,off,cs,rfl,rfl,hle,hcs⟩:=su'.pos (by omega);refine Z6 ?_;refine AX (VQ hS rfl rfl rfl ⟨_,(rfl:_=AA.int .i64 ((1:Nat):Int))⟩ (by omega) (by omega) (Dj ?_));dsimp only [AK,rd,Frame.get];simp only [Nat.zero_mul,Nat.mul_zero,Nat.mul_one,Nat.add_zero,Nat.zero_add,Nat.sub_zero,Nat.reduceAdd,Nat.reduceMul];refine Z3 fun S hS=>?_;refine Z2 ?_;have su2:=su'.tail (j:=1) (by omega);rw [<-List.take_append_drop 1 (h.As++[([],[])])] at qu';obtain ⟨c1,c2,n1,n2,e1,rfl,q1,q2⟩:=Nb.split qu';have hc1:c1.length=2:=by rw [q1.SM,List.length_take];omega
   have hc2:(cu++[AA.AL,.AL]).drop (1*2)=c2:=by rw [e1,List.drop_append_of_le_length (by omega),List.drop_of_length_le (by omega)];rfl
   have hl2:h.As.length+1-1=(FZ h).length:=by rw [ht,List.length_drop];omega
   rw [hc2,hl2] at su2;rw [<-ht] at q2;have hl3:h.As.length+1-1=(FZ h).length:=hl2;rw [hl3] at hS;exact rest2 _ _ _ _ _ su2 q2 ((hS.eq (m':=_+n1) (by ac_rfl)).left)
  ·have ht:FZ h=h.As++[([],[])]:=by rw [hoe];unfold JM;rw [if_neg (by omega)]
   refine Z2 ?_;refine rest2 xu' (cu++[.AL,.AL]) mu' gu _ ?_ ?_ hS
   ·rw [ht,hU];exact su'
   ·rw [ht];exact qu'
 ·have ho:h.O5=true:=by simpa using hb
  have hoe:FZ h=h.As:=by unfold FZ;rw [if_pos ho]
  refine Z2 ?_;refine rest xu cu mu gu _ ?_ ?_ ?_
  ·rw [hoe];exact su
  ·rw [hoe];exact qu
  ·rw [ho] at hS;exact hS
theorem Vs: ∀ {es:List Bn} {j:Nat} {e:Bn},es[j]?=some e->((F6 es).drop (j*3)).take 3=[.int .i64 e.1,.int .i64 e.2.1,.str e.2.2]
 | [],j,e,h=>by simp at h
 | a::es,0,e,h=>by simp at h;subst h;rfl
 | a::es,j+1,e,h=>by
  have:=Vs (es:=es) (j:=j) (e:=e) (by simpa using h);rw [show (j+1)*3=j*3+3 by omega,show F6 (a::es)=[.int .i64 a.1,.int .i64 a.2.1,.str a.2.2]++F6 es from rfl,List.drop_append];simpa using this
theorem jB {t:Bytes} {es:List Bn} (h:DQ t.length es=0) {j:Nat} {e:Bn} (hj:es[j]?=some e):Bg (Aa t (es.take j)).length e/\Aa t (es.take (j+1))=AY (Aa t (es.take j)) e:=by
 have hlt:=(List.getElem?_eq_some_iff.1 hj).1;have e1:es.take (j+1)=es.take j++[e]:=by rw [List.take_add_one,hj];rfl
 refine ⟨?_,by rw [e1,Lh]⟩;rw [<-List.take_append_drop (j+1) es,e1] at h;have: ∀(l l':List Bn) (s:Bytes),DQ s.length (l++l')=0->DQ s.length l=0:=by
  intro l
  induction l with
  | nil=>intro l' s _;rfl
  | cons a l ih=>
   intro l' s h;obtain ⟨h1,h2⟩:=CW.1 h;rw [CW];rw [<-Cf h1] at h2 |-;exact ⟨h1,ih l' _ h2⟩
 exact (JT.1 (this _ _ _ h)).2
theorem Tw (hMd:BV Tryz.prog BU CR) {lh vh:Nat} {t:Bytes} {a b c x:AA} {es:List Bn} {ml:HM} (hs:Ed 3 x (F6 es) es.length ml) (hc:DQ t.length es=0) (hl:es.length<=1000):
  HC Tryz.prog B0 [.ptr lh vh 0,x] (pt lh (.row vh 0 [.str t,a,b,c])+ml) fun r m'=>r=x/\m'=pt lh (.row vh 0 [.str (Aa t es),a,b,.bool false])+ml:=by
 intro S mf hS;refine JU K7 ?_;refine Z9 ?_;refine AX ?_;refine Ri hs.len ?_;refine Z5 ?_;refine GY (fun n xs S=> ∃j:Nat,xs=[.int .i64 (j:Int)]/\j<=es.length/\n=es.length-j/\Has S (pt lh (.row vh 0 [.str (Aa t (es.take j)),a,b,c])+ml+mf)) es.length ⟨0,rfl,Nat.zero_le _,rfl,hS⟩ ?_;clear hS;rintro n xs S hl' ⟨j,rfl,hj,rfl,hS⟩;dsimp only [Er,List.map,Frame.get];refine Z6 ?_;refine Av rfl (fun hlt=>?_) (fun hlt=>?_)
 ·obtain ⟨e,he⟩: ∃e,es[j]?=some e:=⟨_,List.getElem?_eq_getElem (by omega)⟩
  obtain ⟨hmay,hnext⟩:=jB hc he;obtain ⟨p,v,off,cs,rfl,rfl,hle,hcs⟩:=hs.pos (by omega);have ht:takeN 3 (List.drop (off+j*3) cs)=some [.int .i64 e.1,.int .i64 e.2.1,.str e.2.2]:=by
   rw [Ku hle (show j<es.length by omega),<-hcs,Vs he]
  refine Z9 fun v6 l6 S hS=>?_;refine Z1 fun S hS=>?_;refine Z2 ?_;refine Cw hS fun S hS=>?_;refine Z8 ?_;refine Rc hMd (s:=Aa t (es.take j)) (e:=e) hmay ?_;refine Z4 fun S hS=>?_;refine Z8 ?_;rw [<-hnext] at hS;exact ⟨es.length-(j+1),by omega,j+1,rfl,by omega,rfl,hS.right⟩
 ·obtain rfl:j=es.length:=by omega
  rw [List.take_of_length_le (Nat.le_refl _)] at hS;refine SI fun S hS=>?_;refine ra ?_;exact ⟨_,⟨rfl,rfl⟩,hS⟩
end Go.Proofs.YtlibocgedgdmlaaGreat.H
end
section
set_option maxRecDepth 100000
namespace Go.Proofs.YtlibocgedgdmlaaGreat.H
open Go.Vc Go.Fu
def Qh (h:Bz) (d:FQ) (lh vh:Nat) (r:AA) (m':HM):Prop:=
 ∃y a R mh X,r= .DH [y,.int .i64 (Bh h d).2]/\Ed 3 y (F6 (Dx h d)) (Dx h d).length a/\m'=a+R/\m'=mh+X/\KQ (Bh h d).1 lh vh mh
theorem Qh.of {h h':Bz} {d:FQ} {c:Int} {es:List Bn} {lh vh:Nat} {y:AA} {a R mh X m':HM} (e:Bh h d=(h',c)) (e2:Dx h d=es) (s:Ed 3 y (F6 es) es.length a) (h1:m'=a+R) (h2:m'=mh+X) (hm:KQ h' lh vh mh):Qh h d lh vh (.DH [y,.int .i64 c]) m':=
 ⟨y,a,R,mh,X,by rw [e],by rw [e2];exact s,h1,h2,by rw [e];exact hm⟩
theorem Zn {h:Bz} {x:Bn} (hf:BX h.text.length x≠0):Bh h (1,x)=(h,BX h.text.length x)/\Dx h (1,x)=[]:=by
 constructor
 ·unfold Bh;rw [if_pos rfl,if_pos hf]
 ·unfold Dx;rw [if_pos rfl,if_pos hf]
theorem Ou {h:Bz} {x:Bn} (hf:BX h.text.length x=0):Bh h (1,x)=(Dq h x,0)/\Dx h (1,x)=[x]:=by
 constructor
 ·unfold Bh;rw [if_pos rfl,if_neg (by simpa using hf)]
 ·unfold Dx;rw [if_pos rfl,if_neg (by simpa using hf)]
theorem pB {h:Bz} {x:Bn}:Bh h (2,x)=(⟨h.text,h.As,h.DF,false⟩,0)/\Dx h (2,x)=[]:=⟨rfl,rfl⟩
theorem Zo {h:Bz} {x:Bn} (hu:h.As=[]):Bh h (3,x)=(h,7)/\Dx h (3,x)=[]:=by
 constructor
 ·unfold Bh;rw [if_neg (by simp),if_neg (by simp),if_pos rfl,if_pos hu]
 ·unfold Dx;rw [if_neg (by simp),if_pos rfl,if_pos hu]
theorem VJ {h:Bz} {x:Bn} (hu:h.As≠[]):Bh h (3,x)=(RN h,0)/\Dx h (3,x)=(Bw h.As).2.reverse:=by
 constructor
 ·unfold Bh;rw [if_neg (by simp),if_neg (by simp),if_pos rfl,if_neg hu]
 ·unfold Dx;rw [if_neg (by simp),if_pos rfl,if_neg hu]
theorem Zp {h:Bz} {x:Bn} (hu:h.DF=[]):Bh h (4,x)=(h,7)/\Dx h (4,x)=[]:=by
 constructor
 ·unfold Bh;rw [if_neg (by simp),if_neg (by simp),if_neg (by simp),if_pos rfl,if_pos hu]
 ·unfold Dx;rw [if_neg (by simp),if_neg (by simp),if_pos rfl,if_pos hu]
theorem VK {h:Bz} {x:Bn} (hu:h.DF≠[]):Bh h (4,x)=(Pl h,0)/\Dx h (4,x)=(Bw h.DF).1:=by
 constructor
 ·unfold Bh;rw [if_neg (by simp),if_neg (by simp),if_neg (by simp),if_pos rfl,if_neg hu]
 ·unfold Dx;rw [if_neg (by simp),if_neg (by simp),if_pos rfl,if_neg hu]
theorem Zq {h:Bz} {x:Bn} {k:Int} (h1: ¬k=1) (h2: ¬k=2) (h3: ¬k=3) (h4: ¬k=4):Bh h (k,x)=(h,3)/\Dx h (k,x)=[]:=by
 constructor
 ·unfold Bh;rw [if_neg h1,if_neg h2,if_neg h3,if_neg h4]
 ·unfold Dx;rw [if_neg h1,if_neg h3,if_neg h4]
theorem dW {l:List Ev} (hne:l≠[]) {x:AA} {c:List AA} {m g:HM} (s:Ed 2 x c l.length m) (q:Nb l c g):
  ∃p v off A B xd xb n1 md mb,x= .sl p v off (l.dropLast.length+1)/\m=pt p (.row v 2 (A++xd::xb::B))/\A.length=off+l.dropLast.length*2/\g=n1+(md+mb)/\Nb l.dropLast (A.drop off) n1/\
   Ed 3 xd (F6 (Bw l).1) (Bw l).1.length md/\Ed 3 xb (F6 (Bw l).2) (Bw l).2.length mb:=by
 have e:=Em hne;generalize l.dropLast=us at*;generalize Bw l=g0 at*;subst e;have hL:(us++[g0]).length=us.length+1:=by simp
 obtain ⟨c1,c2,n1,n2,rfl,rfl,q1,q2⟩:=Nb.split q;obtain ⟨xd,xb,md,mb,rfl,rfl,sd,sb⟩:=Nb.one.1 q2;obtain ⟨p,v,off,cs,rfl,rfl,hle,hcs⟩:=s.pos (by omega);rw [hL] at hle hcs |-;rw [show (us.length+1)*2=us.length*2+2 by omega] at hle hcs;obtain ⟨A,B,rfl,hA,rfl⟩:=UZ hle hcs q1.SM;exact ⟨p,v,off,A,B,xd,xb,n1,md,mb,rfl,rfl,hA,rfl,q1,sd,sb⟩
theorem Ye {p v off n:Nat} {A B:List AA} (hA:A.length=off+n*2):Ed 2 (.sl p v off n) (A.drop off) n (pt p (.row v 2 (A++B))):=by
 refine .inr ⟨p,v,off,_,rfl,rfl,by rw [List.length_append];omega,?_⟩;unfold A6;rw [List.drop_append_of_le_length (by omega),List.take_append_of_le_length (by rw [List.length_drop];omega),List.take_of_length_le (by rw [List.length_drop];omega)]
theorem ZO {A B:List AA} {x y:AA} {n:Nat} (h:A.length=n):takeN 2 ((A++x::y::B).drop n)=some [x,y]:=by subst h;simp [takeN]
theorem SR (hCk:BV Tryz.prog B8 C0) (hMd:BV Tryz.prog BU CR) (hUn:BV Tryz.prog CZ DZ) {h:Bz} {lh vh k:Nat} {m:HM} {d:FQ} (hm:KQ h lh vh m) (i:F4 k h) (hk:k<=1000) (hx:E_ d.2):
  HC Tryz.prog CS [.ptr lh vh 0,.agg [.int .i64 d.1,.int .i64 d.2.1,.int .i64 d.2.2.1,.str d.2.2.2]] m (Qh h d lh vh):=by
 obtain ⟨kd,x⟩:=d;intro S mf hS;have il:=i.len;have ia:=i.all;refine JU L4 ?_;refine Z3 fun v3 l3 S hS=>?_;refine xI ?_;refine Av rfl (fun h1=>?_) (fun h1=>?_)
 ·subst h1;refine Z7 ?_;refine HC.use (mw hCk hMd hUn hm i hk hx) hS ?_;rintro r m' S ⟨rfl,hm'⟩ hS;refine Nn ?_;refine gR rfl (fun hc=>?_) (fun hc=>?_)
  ·refine rz ?_;by_cases hf:BX h.text.length x=0
   ·rw [(Ou hf).1] at hc;exact absurd rfl hc
   ·refine ⟨m',⟨.AL,HM.nil,m',m',HM.nil,rfl,?_,(HM.nil_add _).symm,(HM.add_nil _).symm,hm'⟩,hS.right⟩;rw [(Zn hf).2];exact Ed.nil
  ·refine Z7 fun v26 l26 S hS=>?_;refine SI ?_;have hf:BX h.text.length x=0:=by
    apply Classical.byContradiction;intro hf;rw [(Zn hf).1] at hc;exact hf hc
   refine ⟨pt l26 (.row v26 3 [.int .i64 x.1,.int .i64 x.2.1,.str x.2.2])+m',⟨.sl l26 v26 0 1,pt l26 (.row v26 3 [.int .i64 x.1,.int .i64 x.2.1,.str x.2.2]),m',m',pt l26 (.row v26 3 [.int .i64 x.1,.int .i64 x.2.1,.str x.2.2]),by rw [hc],?_,rfl,by ac_rfl,hm'⟩,hS.wT.eq (by ac_rfl)⟩;rw [(Ou hf).2];exact Ed.whole rfl
 obtain ⟨xu,xr,cu,cr,mu,gu,mr,gr,rfl,su,qu,sr,qr⟩:=hm;refine Z6 ?_;refine Av rfl (fun h2=>?_) (fun h2=>?_)
 ·subst h2;refine Z6 fun S hS=>?_;refine rz ?_;exact ⟨_,⟨.AL,HM.nil,_,_,HM.nil,rfl,Ed.nil,(HM.nil_add _).symm,(HM.add_nil _).symm,xu,xr,cu,cr,mu,gu,mr,gr,rfl,su,qu,sr,qr⟩,hS.right⟩
 refine Z6 ?_;refine Av rfl (fun h3=>?_) (fun h3=>?_)
 ·subst h3;by_cases hu:h.As=[]
  ·have hz:dY false xu=some 0:=by have:=su.len;rw [hu] at this;exact this
   refine Z6 ?_;refine HC.use (eU (c:=1) (cs:=[.str h.text,xu,xr,.bool h.O5]) rfl hz) hS ?_;rintro r m' S ⟨rfl,rfl⟩ hS;refine Z5 fun v7 l7 S hS=>?_;refine Z1 fun S hS=>?_;refine Nn ?_;refine BS rfl (fun _=>?_) (fun hb=>by cases hb);refine gJ ?_;exact ⟨_,Qh.of (Zo hu).1 (Zo hu).2 Ed.nil (HM.nil_add _).symm (HM.add_nil _).symm ⟨xu,xr,cu,cr,mu,gu,mr,gr,rfl,su,qu,sr,qr⟩,hS.right.right⟩
  ·obtain ⟨p,vu,off,A,B,xd,xb,n1,md,mb,rfl,rfl,hA,rfl,q1,sd,sb⟩:=dW hu su qu;have hus:h.As.dropLast.length<=20:=by rw [List.length_dropLast];omega
   have e3:h.As.reverse=Bw h.As::h.As.dropLast.reverse:=by
    conv=>lhs;rw [Em hu]
    simp
   have hp:=i.eH;rw [e3] at hp;have hG:=i.oZ (Bw h.As) (List.mem_append_left _ (MC hu));have hx2:takeN 2 ((A++xd::xb::B).drop (off+h.As.dropLast.length*2))=some [xd,xb]:=ZO hA;have hU:=(VJ (x:=x) hu).2;have hU1:=(VJ (x:=x) hu).1;generalize hus':h.As.dropLast=us at*;generalize hg':Bw h.As=g at*;refine Z6 ?_;refine HC.use (eW (c:=1) (n:=us.length) (cs:=[.str h.text,.sl p vu off (us.length+1),xr,.bool h.O5]) rfl hx2 (by simp) (by omega)) (hS.eq (m':=pt l3 (.row v3 0 [.int .i64 3,.int .i64 x.1,.int .i64 x.2.1,.str x.2.2])+((pt lh (.row vh 0 [.str h.text,.sl p vu off (us.length+1),xr,.bool h.O5])+pt p (.row vu 2 (A++xd::xb::B)))+(n1+(md+mb)+(mr+gr))+mf)) (by ac_rfl)) ?_;rintro r m' S ⟨rfl,rfl⟩ hS;dsimp only [setCells,over] at hS;refine Z5 fun v7 l7 S hS=>?_;refine Z1 fun S hS=>?_;refine Nn ?_;refine BS rfl (fun hb=>by cases hb) (fun _=>?_);refine Z5 fun v9 l9 S hS=>?_;refine Z7 ?_;refine AX ?_;refine Ri sb.len ?_;refine Z6 ?_;have hS:=hS.eq (m':=pt l9 (.row v9 3 [])+(pt lh (.row vh 0 [.str h.text,.sl p vu off us.length,xr,.bool h.O5])+(mr+(mb+(pt l7 (.row v7 0 [xd,xb])+(pt p (.row vu 2 (A++xd::xb::B))+(n1+(md+gr))+mf+pt l3 (.row v3 0 [.int .i64 3,.int .i64 x.1,.int .i64 x.2.1,.str x.2.2]))))))) (by ac_rfl);have hy0:Ed 3 (.sl l9 v9 0 0) (F6 (g.2.reverse.take 0)) 0 (pt l9 (.row v9 3 [])):=Ed.whole rfl;refine GY (fun n xs S=> ∃(j:Nat) (y:AA) (my:HM),xs=[y,.int .i64 ((g.2.length:Int)-1-(j:Int))]/\j<=g.2.length/\n=g.2.length-j/\Ed 3 y (F6 (g.2.reverse.take j)) j my/\Has S (my+(pt lh (.row vh 0 [.str h.text,.sl p vu off us.length,xr,.bool h.O5])+(mr+(mb+(pt l7 (.row v7 0 [xd,xb])+(pt p (.row vu 2 (A++xd::xb::B))+(n1+(md+gr))+mf+pt l3 (.row v3 0 [.int .i64 3,.int .i64 x.1,.int .i64 x.2.1,.str x.2.2])))))))) g.2.length ⟨0,.sl l9 v9 0 0,pt l9 (.row v9 3 []),?_,Nat.zero_le _,rfl,hy0,hS⟩ ?_
   ·simp [Frame.get]
   clear hS hy0;rintro n xs S hl' ⟨j,y,my,rfl,hj,rfl,hy,hS⟩;dsimp only [Er,List.map,Frame.get];refine Z7 ?_;refine Av rfl (fun hlt=>?_) (fun hlt=>?_)
   ·have hjl:j<g.2.length:=by omega
    obtain ⟨e,he⟩: ∃e,g.2[g.2.length-1-j]?=some e:=⟨_,List.getElem?_eq_getElem (by omega)⟩
    have her:g.2.reverse[j]?=some e:=by rw [List.getElem?_reverse (by omega)];exact he
    obtain ⟨pb,vb,offb,cs,rfl,rfl,hle,hcs⟩:=sb.pos (by omega);have ht:takeN 3 (List.drop (offb+(g.2.length-1-j)*3) cs)=some [.int .i64 e.1,.int .i64 e.2.1,.str e.2.2]:=by
     rw [Ku hle (show g.2.length-1-j<g.2.length by omega),<-hcs,Vs he]
    refine Z9 ?_;refine AX ?_;rw [show ((g.2.length:Int)-1-(j:Int))=((g.2.length-1-j:Nat):Int) by omega];refine ah hS rfl rfl rfl (by omega) ?_;refine Z3 ?_;refine AX ?_;refine G3 hS rfl hy (DL.one rfl) rfl (by omega) fun y' my' S hy' hS=>?_;refine Z5 ?_;rw [show ((g.2.length-1-j:Nat):Int)=(g.2.length:Int)-1-(j:Int) by omega];refine Z6 ?_;refine ⟨g.2.length-(j+1),by omega,j+1,y',my',?_,by omega,rfl,?_,hS⟩
    ·simp [Frame.get];omega
    ·rw [List.take_add_one,her];rw [show F6 (g.2.reverse.take j)++[.int .i64 e.1,.int .i64 e.2.1,.str e.2.2]=F6 (g.2.reverse.take j++[e]) from QC _ _] at hy';exact hy'
   ·obtain rfl:j=g.2.length:=by omega
    rw [List.take_of_length_le (by simp)] at hy;refine Z6 ?_;refine Cw hS fun S hS=>?_;refine Z8 ?_;refine AX ?_;refine G3 hS rfl sr (DL.one rfl) rfl (by omega) fun xr' mr' S sr' hS=>?_;refine Z3 ?_;refine AX ?_;refine G4 hS rfl rfl sr'.cl rfl (by simp) fun S hS=>?_;(try dsimp only [AK,rd,Frame.get,setCells,over] at hS);refine Z4 ?_;have hy:Ed 3 y (F6 g.2.reverse) g.2.reverse.length my:=by rw [List.length_reverse];exact hy
    refine Z4 ?_;refine HC.use (Tw (a:= .sl p vu off us.length) (b:=xr') (c:= .bool h.O5) hMd hy hp.1 (by rw [List.length_reverse];omega)) (hS.eq (m':=(pt lh (.row vh 0 [.str h.text,.sl p vu off us.length,xr',.bool h.O5])+my)+(mr'+(mb+(pt l7 (.row v7 0 [xd,xb])+(pt p (.row vu 2 (A++xd::xb::B))+(n1+(md+gr))+mf+pt l3 (.row v3 0 [.int .i64 3,.int .i64 x.1,.int .i64 x.2.1,.str x.2.2])))))) (by ac_rfl)) ?_;rintro r m' S ⟨rfl,rfl⟩ hS;refine ra ?_;refine ⟨my+(pt lh (.row vh 0 [.str (Aa h.text g.2.reverse),.sl p vu off us.length,xr',.bool false])+(pt p (.row vu 2 (A++xd::xb::B))+(n1+(mr'+(gr+(md+mb)))))),Qh.of hU1 hU hy rfl (Std.Commutative.comm _ _) ?_,(hS.eq (m':=(my+(pt lh (.row vh 0 [.str (Aa h.text g.2.reverse),.sl p vu off us.length,xr',.bool false])+(pt p (.row vu 2 (A++xd::xb::B))+(n1+(mr'+(gr+(md+mb))))))+mf)+(pt l7 (.row v7 0 [xd,xb])+pt l3 (.row v3 0 [.int .i64 3,.int .i64 x.1,.int .i64 x.2.1,.str x.2.2]))) (by ac_rfl)).left⟩;subst hg' hus';exact ⟨_,xr',_,_,_,_,_,_,rfl,Ye hA,q1,by have:=sr';simpa [RN] using this,Nb.app qr (Nb.one.2 ⟨xd,xb,md,mb,rfl,rfl,sd,sb⟩)⟩
 refine Z6 ?_;refine Av rfl (fun h4=>?_) (fun h4=>?_)
 ·subst h4;by_cases hu:h.DF=[]
  ·have hz:dY false xr=some 0:=by have:=sr.len;rw [hu] at this;exact this
   refine Z6 ?_;refine HC.use (eU (c:=2) (cs:=[.str h.text,xu,xr,.bool h.O5]) rfl hz) hS ?_;rintro r m' S ⟨rfl,rfl⟩ hS;refine Z5 fun v11 l11 S hS=>?_;refine Z1 fun S hS=>?_;refine Nn ?_;refine BS rfl (fun _=>?_) (fun hb=>by cases hb);refine gJ ?_;exact ⟨_,Qh.of (Zp hu).1 (Zp hu).2 Ed.nil (HM.nil_add _).symm (HM.add_nil _).symm ⟨xu,xr,cu,cr,mu,gu,mr,gr,rfl,su,qu,sr,qr⟩,hS.right.right⟩
  ·obtain ⟨p,vu,off,A,B,xd,xb,n1,md,mb,rfl,rfl,hA,rfl,q1,sd,sb⟩:=dW hu sr qr;have hus:h.DF.dropLast.length<=20:=by rw [List.length_dropLast];omega
   have e3:h.DF.reverse=Bw h.DF::h.DF.dropLast.reverse:=by
    conv=>lhs;rw [Em hu]
    simp
   have hp:=i.vt;rw [e3] at hp;have hG:=i.oZ (Bw h.DF) (List.mem_append_right _ (MC hu));have hx2:takeN 2 ((A++xd::xb::B).drop (off+h.DF.dropLast.length*2))=some [xd,xb]:=ZO hA;have hU:=(VK (x:=x) hu).2;have hU1:=(VK (x:=x) hu).1;generalize hus':h.DF.dropLast=us at*;generalize hg':Bw h.DF=g at*;refine Z6 ?_;refine HC.use (eW (c:=2) (n:=us.length) (cs:=[.str h.text,xu,.sl p vu off (us.length+1),.bool h.O5]) rfl hx2 (by simp) (by omega)) (hS.eq (m':=pt l3 (.row v3 0 [.int .i64 4,.int .i64 x.1,.int .i64 x.2.1,.str x.2.2])+((pt lh (.row vh 0 [.str h.text,xu,.sl p vu off (us.length+1),.bool h.O5])+pt p (.row vu 2 (A++xd::xb::B)))+(n1+(md+mb)+(mu+gu))+mf)) (by ac_rfl)) ?_;rintro r m' S ⟨rfl,rfl⟩ hS;dsimp only [setCells,over] at hS;refine Z5 fun v11 l11 S hS=>?_;refine Z1 fun S hS=>?_;refine Nn ?_;refine BS rfl (fun hb=>by cases hb) (fun _=>?_);refine Z3 ?_;refine Cw hS fun S hS=>?_;refine Z8 ?_;refine AX ?_;refine G3 hS rfl su (DL.one rfl) rfl (by omega) fun xu' mu' S su' hS=>?_;refine Z3 ?_;refine AX ?_;refine G4 hS rfl rfl su'.cl rfl (by simp) fun S hS=>?_;(try dsimp only [AK,rd,Frame.get,setCells,over] at hS);refine Z9 ?_;refine HC.use (Tw (a:=xu') (b:= .sl p vu off us.length) (c:= .bool h.O5) hMd sd hp.1 (by omega)) (hS.eq (m':=(pt lh (.row vh 0 [.str h.text,xu',.sl p vu off us.length,.bool h.O5])+md)+(mu'+(mb+(pt l11 (.row v11 0 [xd,xb])+(pt p (.row vu 2 (A++xd::xb::B))+(n1+gu)+mf+pt l3 (.row v3 0 [.int .i64 4,.int .i64 x.1,.int .i64 x.2.1,.str x.2.2])))))) (by ac_rfl)) ?_;rintro r m' S ⟨hr,rfl⟩ hS;rw [hr];refine ra ?_;refine ⟨md+(pt lh (.row vh 0 [.str (Aa h.text g.1),xu',.sl p vu off us.length,.bool false])+(mu'+(gu+mb)+(pt p (.row vu 2 (A++xd::xb::B))+n1))),Qh.of (mh:=pt lh (.row vh 0 [.str (Aa h.text g.1),xu',.sl p vu off us.length,.bool false])+(mu'+(gu+(md+mb)+(pt p (.row vu 2 (A++xd::xb::B))+n1)))) (X:=HM.nil) hU1 hU sd rfl (by ac_rfl) ?_,(hS.eq (m':=(md+(pt lh (.row vh 0 [.str (Aa h.text g.1),xu',.sl p vu off us.length,.bool false])+(mu'+(gu+mb)+(pt p (.row vu 2 (A++xd::xb::B))+n1)))+mf)+(pt l11 (.row v11 0 [xd,xb])+pt l3 (.row v3 0 [.int .i64 4,.int .i64 x.1,.int .i64 x.2.1,.str x.2.2]))) (by ac_rfl)).left⟩;subst hg' hus';exact ⟨xu',_,_,_,_,_,_,_,rfl,by have:=su';simpa [Pl] using this,Nb.app qu (Nb.one.2 ⟨xd,xb,md,mb,rfl,rfl,sd,sb⟩),Ye hA,q1⟩
 ·refine gJ ?_;exact ⟨_,Qh.of (Zq h1 h2 h3 h4).1 (Zq h1 h2 h3 h4).2 Ed.nil (HM.nil_add _).symm (HM.add_nil _).symm ⟨xu,xr,cu,cr,mu,gu,mr,gr,rfl,su,qu,sr,qr⟩,hS.right⟩
end Go.Proofs.YtlibocgedgdmlaaGreat.H
end
section
set_option maxRecDepth 100000
namespace Go.Proofs.YtlibocgedgdmlaaGreat.E
open Go.Vc Go.Fu
open Go.Proofs.YtlibocgedgdmlaaGreat.H (KQ Qh SR F6 Vs jB)
theorem Tz: ∀(l:List Bn) (s:Bytes) (D:List Span) (K:List Bool) (e:Bn),GL s D K (l++[e])=(lu (Aa s l) (GL s D K l).1 e,Vg (Aa s l) (GL s D K l).2 e)
 | [],s,D,K,e=>rfl
 | a::l,s,D,K,e=>Tz l (AY s a) (lu s D a) (Vg s K a) e
theorem PY: ∀ {es:List Bn} {s:Bytes} (j:Nat),DQ s.length es=0->DQ s.length (es.take j)=0
 | es,s,0,_=>rfl
 | [],s,j+1,h=>h
 | e::es,s,j+1,h=>by
  obtain ⟨c1,c2⟩:=CW.1 h;rw [List.take_succ_cons];refine CW.2 ⟨c1,?_⟩;rw [<-Cf c1] at c2 |-;exact PY j c2
variable {lg vg lh vh lm vm : Nat} {sc : List AA}
abbrev Pb (d:FQ):List AA:=[.int .i64 d.1,.int .i64 d.2.1,.int .i64 d.2.2.1,.str d.2.2.2]
theorem iH (hCk:BV Tryz.prog B8 C0) (hMd:BV Tryz.prog BU CR) (hUn:BV Tryz.prog CZ DZ) (hA:BV Tryz.prog BN CV) (hSh:BV Tryz.prog Bf C5) (hWi:BV Tryz.prog Bv DG) (hL:BV Tryz.prog Bu DX) (hPo:BV Tryz.prog FB GG) (hU:BV Tryz.prog BT C4)
  {E:Et} {k:Nat} (i:Fz k E) (hk:k<=900) {m mh:HM} (hm:br lg vg lh vh lm vm E.h.text E.Ba E.known sc m) (hh:KQ E.h lh vh mh) {d:FQ} (hd:E_ d.2):
  HC Tryz.prog CX [.ptr lg vg 0,.agg (Pb d)] (m+mh) fun r m'=> ∃m1 mh1 X,D0 (FU E d).2 r HM.nil/\br lg vg lh vh lm vm (FU E d).1.h.text (FU E d).1.Ba (FU E d).1.known sc m1/\KQ (FU E d).1.h lh vh mh1/\m'=m1+(mh1+X):=by
 intro S mf hS;obtain ⟨hc,hlast,_,hlen⟩:=O1 i.h d;have hsrc:=hm;obtain ⟨xc,es,mt,mc,rfl,ht,hxc⟩:=hm;refine JU K0 ?_;refine Z3 fun v3 l3 S hS=>?_;refine Z1 fun v4 l4 S hS=>?_;refine Z3 ?_;refine Cw hS fun S hS=>?_;refine Z7 ?_;have hS:=hS.eq (m':=mh+(pt l4 (.row v4 0 [.int .i64 0,.int .i64 0,.int .i64 0,.AL,.str []])+(pt lg (.row vg 0 (gC lh vh E.h.text lm vm E.Ba xc sc))+(pt lm (.DA vm es)+(mt+mc))+(pt l3 (.row v3 0 (Pb d))+mf)))) (by ac_rfl);refine HC.use (SR hCk hMd hUn hh i.h (by omega) hd) hS ?_;rintro r m2 S ⟨y,a,R,mh1,X,rfl,hsl,ha,hmh,hh1⟩ hS;refine Nn ?_;generalize hes:Dx E.h d=l at*;have hl:l.length<=1000:=by omega
 generalize hML:(pt l4 (.row v4 0 [.int .i64 0,.int .i64 0,.int .i64 0,.AL,.str []]):HM)=ML at*;refine Z2 ?_;refine AX ?_;refine Ri hsl.len ?_;refine Z5 ?_;have inv: ∀j,j<=l.length->AR (Aa E.h.text (l.take j)).length (-1) (GL E.h.text E.Ba E.known (l.take j)).1/\Whole (Aa E.h.text (l.take j)) (Bd (GL E.h.text E.Ba E.known (l.take j)).1)/\(GL E.h.text E.Ba E.known (l.take j)).2.length=(AH (Aa E.h.text (l.take j))).length:=fun j _=>SL (l.take j) (PY j hc) i.d i.w i.k;refine GY (fun n xs S=> ∃(j:Nat) (m1 X1:HM),xs=[.int .i64 (j:Int)]/\j<=l.length/\n=l.length-j/\br lg vg lh vh lm vm (Aa E.h.text (l.take j)) (GL E.h.text E.Ba E.known (l.take j)).1 (GL E.h.text E.Ba E.known (l.take j)).2 sc m1/\Has S (ML+(m1+(m2+(X1+mf))))) l.length ⟨0,_,pt l3 (.row v3 0 (Pb d)),rfl,Nat.zero_le _,rfl,⟨xc,es,mt,mc,rfl,ht,hxc⟩,hS.eq (by ac_rfl)⟩ ?_;clear hS;rintro n xs S hl' ⟨j,m1,X1,rfl,hj,rfl,hE1,hS⟩;dsimp only [Er,List.map,Frame.get];refine Z6 ?_;refine Av rfl (fun hlt=>?_) (fun hlt=>?_)
 ·obtain ⟨e,he⟩: ∃e,l[j]?=some e:=⟨_,List.getElem?_eq_getElem (by omega)⟩
  obtain ⟨hmay,hnext⟩:=jB hc he;obtain ⟨iD,iW,iK⟩:=inv j hj;obtain ⟨p,v,off,cs,rfl,rfl,hle,hcs⟩:=hsl.pos (by omega);have ht':takeN 3 (List.drop (off+j*3) cs)=some [.int .i64 e.1,.int .i64 e.2.1,.str e.2.2]:=by
   rw [Ku hle (show j<l.length by omega),<-hcs,Vs he]
  have hsn:l.take (j+1)=l.take j++[e]:=by rw [List.take_add_one,he];rfl
  have hch:=Tz (l.take j) E.h.text E.Ba E.known e;rw [<-hsn] at hch;subst ha;refine Z9 fun v8 l8 S hS=>?_;refine Z1 fun S hS=>?_;refine Z6 ?_;have hS:=hS.eq (m':=m1+(ML+(pt p (.row v 3 cs)+R+(X1+mf)+pt l8 (.row v8 0 (SV e))))) (by ac_rfl);refine HC.use (Zk hA hSh hWi hL hPo hU hMd hE1 hmay iD iK) hS ?_;rintro r m3 S ⟨m4,X2,hE2,rfl⟩ hS;refine Z9 ?_;have h1:(GL E.h.text E.Ba E.known (l.take (j+1))).1=lu (Aa E.h.text (l.take j)) (GL E.h.text E.Ba E.known (l.take j)).1 e:=by rw [hch]
  have h2:(GL E.h.text E.Ba E.known (l.take (j+1))).2=Vg (Aa E.h.text (l.take j)) (GL E.h.text E.Ba E.known (l.take j)).2 e:=by rw [hch]
  exact ⟨l.length-(j+1),by omega,j+1,m4,X2+(X1+pt l8 (.row v8 0 (SV e))),rfl,by omega,rfl,by rw [hnext,h1,h2];exact hE2,hS.eq (by ac_rfl)⟩
 ·obtain rfl:j=l.length:=by omega
  rw [List.take_of_length_le (Nat.le_refl _)] at hE1;subst hML;refine Z9 ?_;refine (Kg _).use ?_;refine Z2 fun S hS=>?_;refine Z6 ?_;subst hes;rw [hlast] at hE1;refine ⟨_,⟨m1,mh1,X+(X1+pt l4 (.row v4 0 [.int .i64 (Bh E.h d).2,.int .i64 0,.int .i64 0,.AL,.str []])),D0.plain,hE1,hh1,rfl⟩,?_⟩;rw [hmh] at hS;exact hS.eq (by ac_rfl)
end Go.Proofs.YtlibocgedgdmlaaGreat.E
end
section
set_option maxRecDepth 100000
set_option maxHeartbeats 2000000
namespace Go.Proofs.YtlibocgedgdmlaaGreat.E
open Go.Vc Go.Fu
open Go.Proofs.YtlibocgedgdmlaaGreat.H (KQ)
variable {lg vg lh vh lm vm : Nat}
def od (E:Et) (lg vg lh vh lm vm:Nat) (m:HM):Prop:= ∃sc m1 mh ms,br lg vg lh vh lm vm E.h.text E.Ba E.known sc m1/\KQ E.h lh vh mh/\GJ E.BA sc ms/\m=m1+(mh+ms)
section
variable {E : Et} {r : Rq}
theorem yO (h:r.1=1):BG E r=FU E r.2.1:=by unfold BG;rw [if_pos h]
theorem yP (h:r.1=2):BG E r=Fp E r.2.2.1 r.2.2.2.1:=by unfold BG;rw [if_neg (by omega),if_pos h]
theorem yQ (h:r.1=3):BG E r=(E,Gk E.h.text r.2.2.1):=by unfold BG;rw [if_neg (by omega),if_neg (by omega),if_pos h]
theorem yR (h:r.1=4):BG E r=(E,Gs E.h.text r.2.2.2.2):=by unfold BG;rw [if_neg (by omega),if_neg (by omega),if_neg (by omega),if_pos h]
theorem yS (h:r.1=5):BG E r=(E,C6 E.h.text r.2.2.1):=by unfold BG;rw [if_neg (by omega),if_neg (by omega),if_neg (by omega),if_neg (by omega),if_pos h]
theorem yT (h:r.1=6):BG E r=Cg E:=by unfold BG;rw [if_neg (by omega),if_neg (by omega),if_neg (by omega),if_neg (by omega),if_neg (by omega),if_pos h]
theorem x_ (h:r.1=7\/r.1=8):BG E r=B7 E r.1 r.2.2.1:=by unfold BG;rw [if_neg (by omega),if_neg (by omega),if_neg (by omega),if_neg (by omega),if_neg (by omega),if_neg (by omega),if_pos h]
theorem yU (h:r.1=9):BG E r=(E,(0,N3 E,0,[],[])):=by unfold BG;rw [if_neg (by omega),if_neg (by omega),if_neg (by omega),if_neg (by omega),if_neg (by omega),if_neg (by omega),if_neg (by omega),if_pos h]
theorem yN (h: ¬(r.1=1\/r.1=2\/r.1=3\/r.1=4\/r.1=5\/r.1=6\/r.1=7\/r.1=8\/r.1=9)):BG E r=(E,Rh 3):=by unfold BG;rw [if_neg (by omega),if_neg (by omega),if_neg (by omega),if_neg (by omega),if_neg (by omega),if_neg (by omega),if_neg (by omega),if_neg (by omega)]
theorem nq:OW E.h.text E.BA=((Cg E).1.BA,(Cg E).2)/\(Cg E).1.h=E.h/\(Cg E).1.Ba=E.Ba/\(Cg E).1.known=E.known:=by
 unfold OW Cg;split<;>exact ⟨rfl,rfl,rfl,rfl⟩
theorem Y9 (k n:Int):OJ E.BA k n=((B7 E k n).1.BA,(B7 E k n).2)/\(B7 E k n).1.h=E.h/\(B7 E k n).1.Ba=E.Ba/\(B7 E k n).1.known=E.known:=by
 unfold OJ B7 HP;split
 ·rename_i h;rw [h];exact ⟨rfl,rfl,rfl,rfl⟩
 ·rename_i t h;rw [h];dsimp only;split<;>exact ⟨rfl,rfl,rfl,rfl⟩
theorem oQ (n z:Int):(Fp E n z).1.h=E.h/\(Fp E n z).1.BA=E.BA:=by
 unfold Fp;split
 ·exact ⟨rfl,rfl⟩
 ·split<;>exact ⟨rfl,rfl⟩
end
def lM (E:Et) (t:P4) (lg vg lh vh lm vm:Nat) (x:AA) (m':HM):Prop:= ∃m1 a X,D0 t x a/\od E lg vg lh vh lm vm m1/\m'=m1+(a+X)
theorem lM.nil {E:Et} {t:P4} {x:AA} {m1 X:HM} (h:D0 t x HM.nil) (hE:od E lg vg lh vh lm vm m1):lM E t lg vg lh vh lm vm x (m1+X):=⟨m1,HM.nil,X,h,hE,by rw [HM.nil_add]⟩
theorem sQ (hCk:BV Tryz.prog B8 C0) (hMd:BV Tryz.prog BU CR) (hUn:BV Tryz.prog CZ DZ) (hA:BV Tryz.prog BN CV) (hSh:BV Tryz.prog Bf C5) (hWi:BV Tryz.prog Bv DG) (hL:BV Tryz.prog Bu DX) (hPo:BV Tryz.prog FB GG) (hU:BV Tryz.prog BT C4)
  (hPt:BV Tryz.prog BB Bi) (hW:BV Tryz.prog A9 Ci) (hP:BV Tryz.prog Df Ek) (hN:BV Tryz.prog CY ED)
  {E:Et} {k:Nat} (i:Fz k E) (hk:k<=900) {m:HM} (hm:od E lg vg lh vh lm vm m) {r:Rq} (hd:E_ r.2.1.2) (hw:Hw r.2.2.2.2):
  HC Tryz.prog DB [.ptr lg vg 0,.agg (Bt r)] m (lM (BG E r).1 (BG E r).2 lg vg lh vh lm vm):=by
 intro S mf hS;obtain ⟨sc,m1,mh,ms,hE,hh,hs,rfl⟩:=hm;have hlen:=i.h.len;have hcl:=DY E.h.text;have hcp:=YM E.h.text;obtain ⟨kd,d,n,z,w⟩:=r;dsimp only at hd hw;refine JU Mo ?_;refine Z3 fun v3 l3 S hS=>?_;refine Z1 fun v4 l4 S hS=>?_;refine YI ?_;refine Av rfl (fun h1=>?_) (fun h1=>?_)
 ·subst h1;rw [yO rfl];refine Z6 ?_;have hS:=hS.eq (m':=(m1+mh)+((pt l4 (.row v4 0 [.int .i64 0,.int .i64 0,.int .i64 0,.AL,.str []]):HM)+(pt l3 (.row v3 0 (Bt (1,d,n,z,w)))+(ms+mf)))) (by ac_rfl);refine HC.use (iH hCk hMd hUn hA hSh hWi hL hPo hU i hk hE hh hd) hS ?_;rintro x m2 S ⟨m3,mh3,X,⟨y,rfl,hy⟩,hE3,hh3,rfl⟩ hS;refine Z2 fun S hS=>?_;refine Z8 ?_;exact ⟨_,lM.nil (X:=X+(pt l4 _+pt l3 (.row v3 0 (Bt (1,d,n,z,w))))) ⟨y,rfl,hy⟩ ⟨sc,m3,mh3,ms,hE3,hh3,hs,rfl⟩,hS.eq (by ac_rfl)⟩
 refine Z6 ?_;refine Av rfl (fun h2=>?_) (fun h2=>?_)
 ·subst h2;rw [yP rfl];refine Z5 ?_;have hS:=hS.eq (m':=m1+((pt l4 (.row v4 0 [.int .i64 0,.int .i64 0,.int .i64 0,.AL,.str []]):HM)+(pt l3 (.row v3 0 (Bt (2,d,n,z,w)))+(mh+ms+mf)))) (by ac_rfl);refine HC.use (oR hPt hA hW hP hE hlen i.d i.w i.k E ⟨rfl,rfl,rfl⟩ (2,d,n,z,w)) hS ?_;rintro x m2 S ⟨m3,X,⟨y,rfl,hy⟩,hE3,rfl⟩ hS;refine Z2 fun S hS=>?_;refine Z8 ?_;obtain ⟨w1,w2⟩:=oQ (E:=E) n z;exact ⟨_,lM.nil (X:=X+(pt l4 _+pt l3 (.row v3 0 (Bt (2,d,n,z,w))))) ⟨y,rfl,hy⟩ ⟨sc,m3,mh,ms,by rw [w1];exact hE3,by rw [w1];exact hh,by rw [w2];exact hs,rfl⟩,hS.eq (by ac_rfl)⟩
 refine Z6 ?_;refine Av rfl (fun h3=>?_) (fun h3=>?_)
 ·subst h3;rw [yQ rfl];obtain ⟨xc,es,mt,mc,rfl,ht,hc⟩:=hE;refine Z6 ?_;refine HC.use (dZ (lg:=lg) (vg:=vg) (lh:=lh) (vh:=vh) (lm:=lm) (vm:=vm) (D:=E.Ba) (xc:=xc) (sc:=sc) hL hlen n) hS ?_;rintro x m2 S ⟨⟨y,rfl,hy⟩,rfl⟩ hS;refine Z2 fun S hS=>?_;refine Z8 ?_;exact ⟨_,lM.nil (X:=pt l4 _+pt l3 (.row v3 0 (Bt (3,d,n,z,w)))) ⟨y,rfl,hy⟩ ⟨sc,_,mh,ms,⟨xc,es,mt,mc,rfl,ht,hc⟩,hh,hs,rfl⟩,hS.eq (by ac_rfl)⟩
 refine Z6 ?_;refine Av rfl (fun h4=>?_) (fun h4=>?_)
 ·subst h4;rw [yR rfl];obtain ⟨xc,es,mt,mc,rfl,ht,hc⟩:=hE;refine Z6 ?_;have hS:=hS.eq (m':=(pt lg (.row vg 0 (gC lh vh E.h.text lm vm E.Ba xc sc))+(pt lm (.DA vm es)+mt))+(mc+((pt l4 (.row v4 0 [.int .i64 0,.int .i64 0,.int .i64 0,.AL,.str []]):HM)+(pt l3 (.row v3 0 (Bt (4,d,n,z,w)))+(mh+ms+mf))))) (by ac_rfl);refine HC.use (fp (lg:=lg) (vg:=vg) (lh:=lh) (vh:=vh) (lm:=lm) (vm:=vm) (xc:=xc) (sc:=sc) hPt hN ht hlen i.d i.w hw) hS ?_;rintro x m2 S ⟨ma,X,⟨y,rfl,hy⟩,rfl⟩ hS;unfold GM at hS;refine Z2 fun S hS=>?_;refine Z8 ?_;exact ⟨_,⟨_,ma,X+(pt l4 _+pt l3 (.row v3 0 (Bt (4,d,n,z,w)))),⟨y,rfl,hy⟩,⟨sc,_,mh,ms,⟨xc,es,mt,mc,rfl,ht,hc⟩,hh,hs,rfl⟩,rfl⟩,hS.eq (by ac_rfl)⟩
 refine Z6 ?_;refine Av rfl (fun h5=>?_) (fun h5=>?_)
 ·subst h5;rw [yS rfl];obtain ⟨xc,es,mt,mc,rfl,ht,hc⟩:=hE;obtain ⟨p,v,off,cs,rfl,rfl,hle,hcs⟩:=hc.pos (by rw [i.k];exact hcp);have hc':=hc;refine Z6 ?_;have hS:=hS.eq (m':=(pt lg (.row vg 0 (gC lh vh E.h.text lm vm E.Ba (.sl p v off E.known.length) sc))+pt p (.row v 2 cs))+(pt lm (.DA vm es)+mt+((pt l4 (.row v4 0 [.int .i64 0,.int .i64 0,.int .i64 0,.AL,.str []]):HM)+(pt l3 (.row v3 0 (Bt (5,d,n,z,w)))+(mh+ms+mf))))) (by ac_rfl);refine HC.use (dI (lg:=lg) (vg:=vg) (lh:=lh) (vh:=vh) (lm:=lm) (vm:=vm) (D:=E.Ba) (p:=p) (v:=v) (sc:=sc) hP (by omega) i.k hle hcs n) hS ?_;rintro x m2 S ⟨rfl,⟨y,rfl,hy⟩⟩ hS;refine Z2 fun S hS=>?_;refine Z8 ?_;exact ⟨_,lM.nil (X:=pt l4 _+pt l3 (.row v3 0 (Bt (5,d,n,z,w)))) ⟨y,rfl,hy⟩ ⟨sc,_,mh,ms,⟨_,es,mt,_,rfl,ht,hc⟩,hh,hs,rfl⟩,hS.eq (by ac_rfl)⟩
 refine Z6 ?_;refine Av rfl (fun h6=>?_) (fun h6=>?_)
 ·subst h6;rw [yT rfl];obtain ⟨xc,es,mt,mc,rfl,ht,hc⟩:=hE;obtain ⟨s1,s2,s3,s4⟩:=nq (E:=E);refine Z4 ?_;have hS:=hS.eq (m':=(pt lg (.row vg 0 (gC lh vh E.h.text lm vm E.Ba xc sc))+ms)+(pt lm (.DA vm es)+(mt+mc)+((pt l4 (.row v4 0 [.int .i64 0,.int .i64 0,.int .i64 0,.AL,.str []]):HM)+(pt l3 (.row v3 0 (Bt (6,d,n,z,w)))+(mh+mf))))) (by ac_rfl);refine HC.use (nr (lg:=lg) (vg:=vg) (lh:=lh) (vh:=vh) (s:=E.h.text) (lm:=lm) (vm:=vm) (D:=E.Ba) (xc:=xc) hs i.sn) hS ?_;rintro x m2 S ⟨⟨y,rfl,hy⟩,sc2,ms2,hs2,rfl⟩ hS;refine Z2 fun S hS=>?_;refine Z8 ?_;rw [s1] at hs2 hy hS |-;exact ⟨_,lM.nil (X:=pt l4 _+pt l3 (.row v3 0 (Bt (6,d,n,z,w)))) ⟨y,rfl,hy⟩ ⟨sc2,_,mh,ms2,by rw [s2,s3,s4];exact ⟨xc,es,mt,mc,rfl,ht,hc⟩,by rw [s2];exact hh,hs2,rfl⟩,hS.eq (by ac_rfl)⟩
 refine Hu fun K1 hK1=>?_;refine Z6 ?_;refine Av rfl (fun h7=>?_) (fun h7=>?_)
 ·subst h7;obtain ⟨xc,es,mt,mc,rfl,ht,hc⟩:=hE;obtain ⟨s1,s2,s3,s4⟩:=Y9 (E:=E) 7 n;refine Z2 ?_;refine hK1 _ _ rfl ?_;dsimp only [Er,List.map,Frame.get];rw [x_ (r:=(7,d,n,z,w)) (.inl rfl)];refine Av rfl (fun _=>?_) (fun hb=>by exfalso;omega);refine Z5 ?_;have hS:=hS.eq (m':=(pt lg (.row vg 0 (gC lh vh E.h.text lm vm E.Ba xc sc))+ms)+(pt lm (.DA vm es)+(mt+mc)+((pt l4 (.row v4 0 [.int .i64 0,.int .i64 0,.int .i64 0,.AL,.str []]):HM)+(pt l3 (.row v3 0 (Bt (7,d,n,z,w)))+(mh+mf))))) (by ac_rfl);refine HC.use (Pv (lg:=lg) (vg:=vg) (lh:=lh) (vh:=vh) (s:=E.h.text) (lm:=lm) (vm:=vm) (D:=E.Ba) (xc:=xc) hs i.sn (7,d,n,z,w)) hS ?_;rintro x m2 S ⟨⟨y,rfl,hy⟩,sc2,ms2,hs2,rfl⟩ hS;refine Z2 fun S hS=>?_;refine Z8 ?_;dsimp only at hs2 hy hS;rw [s1] at hs2 hy hS;exact ⟨_,lM.nil (X:=pt l4 _+pt l3 (.row v3 0 (Bt (7,d,n,z,w)))) ⟨y,by rw [s1],hy⟩ ⟨sc2,_,mh,ms2,by rw [s2,s3,s4];exact ⟨xc,es,mt,mc,rfl,ht,hc⟩,by rw [s2];exact hh,hs2,rfl⟩,hS.eq (by ac_rfl)⟩
 refine Z5 ?_;refine hK1 _ _ rfl ?_;dsimp only [Er,List.map,Frame.get];refine Av rfl (fun h8=>?_) (fun h8=>?_)
 ·subst h8;rw [x_ (r:=(8,d,n,z,w)) (.inr rfl)];obtain ⟨xc,es,mt,mc,rfl,ht,hc⟩:=hE;obtain ⟨s1,s2,s3,s4⟩:=Y9 (E:=E) 8 n;refine Z5 ?_;have hS:=hS.eq (m':=(pt lg (.row vg 0 (gC lh vh E.h.text lm vm E.Ba xc sc))+ms)+(pt lm (.DA vm es)+(mt+mc)+((pt l4 (.row v4 0 [.int .i64 0,.int .i64 0,.int .i64 0,.AL,.str []]):HM)+(pt l3 (.row v3 0 (Bt (8,d,n,z,w)))+(mh+mf))))) (by ac_rfl);refine HC.use (Pv (lg:=lg) (vg:=vg) (lh:=lh) (vh:=vh) (s:=E.h.text) (lm:=lm) (vm:=vm) (D:=E.Ba) (xc:=xc) hs i.sn (8,d,n,z,w)) hS ?_;rintro x m2 S ⟨⟨y,rfl,hy⟩,sc2,ms2,hs2,rfl⟩ hS;refine Z2 fun S hS=>?_;refine Z8 ?_;dsimp only at hs2 hy hS;rw [s1] at hs2 hy hS;exact ⟨_,lM.nil (X:=pt l4 _+pt l3 (.row v3 0 (Bt (8,d,n,z,w)))) ⟨y,by rw [s1],hy⟩ ⟨sc2,_,mh,ms2,by rw [s2,s3,s4];exact ⟨xc,es,mt,mc,rfl,ht,hc⟩,by rw [s2];exact hh,hs2,rfl⟩,hS.eq (by ac_rfl)⟩
 refine Z6 ?_;refine Av rfl (fun h9=>?_) (fun h9=>?_)
 ·subst h9;rw [yU rfl];obtain ⟨xc,es,mt,mc,rfl,ht,hc⟩:=hE;obtain ⟨p,v,off,cs,rfl,rfl,hle,hcs⟩:=hc.pos (by rw [i.k];exact hcp);refine Z5 ?_;have hS:=hS.eq (m':=(pt lg (.row vg 0 (gC lh vh E.h.text lm vm E.Ba (.sl p v off E.known.length) sc))+pt p (.row v 2 cs))+(pt lm (.DA vm es)+mt+((pt l4 (.row v4 0 [.int .i64 0,.int .i64 0,.int .i64 0,.AL,.str []]):HM)+(pt l3 (.row v3 0 (Bt (9,d,n,z,w)))+(mh+ms+mf))))) (by ac_rfl);refine HC.use (mJ (lg:=lg) (vg:=vg) (lh:=lh) (vh:=vh) (lm:=lm) (vm:=vm) (s:=E.h.text) (D:=E.Ba) (p:=p) (v:=v) (sc:=sc) i.k hle hcs (by have:=i.k;omega)) hS ?_;rintro x m2 S ⟨rfl,b,rfl,hb⟩ hS;refine Z3 ?_;cases b with
  | true=>
   have hf:N3 E=1:=by unfold N3;rw [if_pos (show Hn E from hb.1 rfl)]
   refine BS rfl (fun _=>?_) (fun hb=>by cases hb);refine Z4 fun S hS=>?_;refine Z9 ?_;rw [hf];exact ⟨_,lM.nil (X:=pt l4 _+pt l3 (.row v3 0 (Bt (9,d,n,z,w)))) D0.plain ⟨sc,_,mh,ms,⟨_,es,mt,_,rfl,ht,hc⟩,hh,hs,rfl⟩,hS.eq (by ac_rfl)⟩
  | false=>
   have hf:N3 E=0:=by unfold N3;rw [if_neg (fun q:Hn E=>by cases hb.2 q)]
   refine BS rfl (fun hb=>by cases hb) (fun _=>?_);refine Z6 fun S hS=>?_;refine Z8 ?_;rw [hf];exact ⟨_,lM.nil (X:=pt l4 _+pt l3 (.row v3 0 (Bt (9,d,n,z,w)))) D0.plain ⟨sc,_,mh,ms,⟨_,es,mt,_,rfl,ht,hc⟩,hh,hs,rfl⟩,hS.eq (by ac_rfl)⟩
 rw [yN (r:=(kd,d,n,z,w)) (by show ¬(kd=1\/kd=2\/kd=3\/kd=4\/kd=5\/kd=6\/kd=7\/kd=8\/kd=9);omega)];refine Z6 ?_;refine (Kg 3).use ?_;refine Z2 fun S hS=>?_;refine Z6 ?_;exact ⟨_,lM.nil (X:=pt l4 _+pt l3 (.row v3 0 (Bt (kd,d,n,z,w)))) D0.plain ⟨sc,m1,mh,ms,hE,hh,hs,rfl⟩,hS.eq (by ac_rfl)⟩
end Go.Proofs.YtlibocgedgdmlaaGreat.E
end
section
set_option maxRecDepth 100000
namespace Go.Proofs.YtlibocgedgdmlaaGreat.H
open Go.Vc Go.Fu
theorem Yw (s:Bytes):HC Tryz.prog Ge [.str s] HM.nil fun r m'=> ∃lh vh,r= .ptr lh vh 0/\m'=pt lh (.row vh 0 [.str s,.AL,.AL,.bool false]):=by
 intro S mf hS;have hS:=hS.right;refine JU UB ?_;refine Nn fun v5 l5 S hS=>?_;refine Z7 ?_;exact ⟨_,⟨l5,v5,rfl,rfl⟩,hS⟩
end Go.Proofs.YtlibocgedgdmlaaGreat.H
end
section
set_option maxRecDepth 100000
set_option maxHeartbeats 2000000
namespace Go.Proofs.YtlibocgedgdmlaaGreat.E
open Go.Vc Go.Fu
open Go.Proofs.YtlibocgedgdmlaaGreat.H (KQ Yw Nb)
theorem xU {P:Program} {f:FuncId} {xs:List AA} {S:AB} {R:AA->AB->Prop} (h:AV P f (.Ez 0 []::xs) S R):AV P f (.AL::xs) S R:=⟨fun E fz w vals st hr=>h.out E fz w vals st (by
 simp only [AZ] at hr |-;obtain ⟨v,us,rfl,h1,h2⟩:=hr;exact ⟨v,us,rfl,by simp only [Rel] at h1 |-;subst h1;exact .inl ⟨trivial,none,0,rfl⟩,h2⟩)⟩
theorem ja (h:BV Tryz.prog Dw Gl) {s:Bytes} (hs:s.length<=1000000):RC Tryz.prog Dw [.str s] (vZ s):=by
 have hq:RC Tryz.prog Dw [.str s] (DV (.sl tI) (Ab s)):=h.frozen.plain (S:=[]) (K:=fun r _=>r=DV (.sl tI) (Ab s)) s hs rfl rfl;rw [JV] at hq;exact hq
theorem WV (hO:BV Tryz.prog Dw Gl) (hWi:BV Tryz.prog Bv DG) {s:Bytes} (hs:s.length<=600):
  HC Tryz.prog Gy [.str s] HM.nil fun r m'=> ∃lg vg lh vh lm vm,r= .ptr lg vg 0/\od (BH s) lg vg lh vh lm vm m':=by
 intro S mf hS;have hS:=hS.right;have hcl:=DY s;have hst:=Qa s;refine JU XZ ?_;refine Z9 ?_;refine (ja hO (by omega)).use ?_;refine Z5 ?_;refine sJ hS fun n S hL hS=>?_;refine Z9 ?_;refine AX ?_;refine qE hS hL (by omega) (Yw s) fun v7 S hS hL=>?_;dsimp only [List.map,rd,Frame.get] at hS;refine Z1 ?_;refine AX ?_;refine tZ (xU (lL hWi (D:=[]) (x:=(0,(s.length:Int))) ⟨by simp,trivial⟩ ⟨by show (0:Int)<=0;omega,by show (0:Int)<=(s.length:Int);omega,by show (s.length:Int)<=1000000;omega⟩)) ?_;refine Z1 ?_;refine AX ?_;refine qK hS hL (by omega) fun v10 S hS hL=>?_;refine Z1 ?_;refine AX ?_;refine tV hS hL (by omega) rfl rfl (by omega) fun v17 S hS hL=>?_;refine Z3 fun v19 l19 S hS=>?_;refine Z7 ?_;have hk:cellsOf (AH s) (List.replicate (AH s).length false)=(List.replicate (Ab s).length [AA.int .i64 0,.bool false]).flatten:=by rw [JS,hst]
 have hsl:Ed 2 (.sl (n+2) v17 0 (Ab s).length) (cellsOf (AH s) (BH s).known) (BH s).known.length (pt (n+2) (.row v17 2 (List.replicate (Ab s).length [AA.int .i64 0,.bool false]).flatten)):=by
  have e1:(BH s).known=List.replicate (AH s).length false:=rfl;have e2:(BH s).known.length=(Ab s).length:=by rw [e1,List.length_replicate,hst]
  rw [e2,e1,hk];refine Ed.whole ?_;rw [<-hk,Jc (by simp),List.length_replicate,hst]
 have hno: ∀w,ij s (BH s).Ba w=[]:=fun w=>by
  obtain ⟨a,_⟩:=XJ (n:=s.length) (by omega) (by omega);show Jq s w (fun p=> ¬Bd (Fl [] (0,(s.length:Int))) p)=[];refine List.eq_nil_iff_forall_not_mem.2 fun p hp=>?_;obtain ⟨h1,h2⟩:=eY.1 hp;have:=IC h1;exact h2 ((a p).2 this)
 refine ⟨_,⟨l19,v19,n,v7,n+1,v10,rfl,[.B4,.B4,.B4,.B4],_,_,HM.nil,⟨_,[],HM.nil,_,rfl,Lw.nil.congr (funext fun w=>(hno w).symm),hsl⟩,⟨.AL,.AL,[],[],HM.nil,HM.nil,HM.nil,HM.nil,rfl,Ed.nil,⟨rfl,rfl⟩,Ed.nil,⟨rfl,rfl⟩⟩,⟨_,rfl,_,rfl,_,rfl,_,rfl,rfl,rfl⟩,rfl⟩,hS.eq ?_⟩;simp only [HM.nil_add,HM.add_nil];show _=pt l19 (.row v19 0 [.ptr n v7 0,.str s,vZ s,.map (n+1) v10,rC (Fl [] (0,(s.length:Int))),.sl (n+2) v17 0 (Ab s).length,.B4,.B4,.B4,.B4])+(pt (n+1) (.DA v10 [])+pt (n+2) (.row v17 2 (List.replicate (Ab s).length [AA.int .i64 0,.bool false]).flatten))+pt n (.row v7 0 [.str s,.AL,.AL,.bool false])+mf
 ac_rfl
end Go.Proofs.YtlibocgedgdmlaaGreat.E
end
section
set_option maxRecDepth 100000
set_option maxHeartbeats 2000000
namespace Go.Proofs.YtlibocgedgdmlaaGreat.E
open Go.Vc Go.Fu
open Go.Proofs.YtlibocgedgdmlaaGreat.H (KQ)
def I_:List P4->List AA->HM->Prop
 | [],cs,m=>cs=[]/\m=HM.nil
 | t::l,cs,m=> ∃x cs' m1 m2,cs= .int .i64 t.1:: .int .i64 t.2.1:: .int .i64 t.2.2.1::x:: .str t.2.2.2.2::cs'/\m=m1+m2/\Ed 1 x (ints t.2.2.2.1) t.2.2.2.1.length m1/\I_ l cs' m2
theorem I_.SM: ∀ {l:List P4} {cs:List AA} {m:HM},I_ l cs m->cs.length=l.length*5
 | [],cs,m,h=>by rw [h.1];rfl
 | t::l,cs,m,⟨x,cs',m1,m2,h1,_,_,h⟩=>by rw [h1];simp only [List.length_cons];have:=I_.SM h;omega
theorem I_.snoc: ∀ {l:List P4} {cs:List AA} {m:HM},I_ l cs m-> ∀ {t:P4} {x:AA} {a:HM},Ed 1 x (ints t.2.2.2.1) t.2.2.2.1.length a->I_ (l++[t]) (cs++[.int .i64 t.1,.int .i64 t.2.1,.int .i64 t.2.2.1,x,.str t.2.2.2.2]) (m+a)
 | [],cs,m,h,t,x,a,h'=>by rw [h.1,h.2];exact ⟨x,[],a,HM.nil,rfl,by rw [HM.add_nil,HM.nil_add],h',rfl,rfl⟩
 | t0::l,cs,m,⟨y,cs',m1,m2,h1,h2,h3,h⟩,t,x,a,h'=>by
  subst h1;subst h2;exact ⟨y,_,m1,m2+a,rfl,by ac_rfl,h3,I_.snoc h h'⟩
theorem I_.deref {S:AB}: ∀ {l:List P4} {cs:List AA} {m mf:HM},I_ l cs m->Has S (m+mf)->cs.map (Bc S 1)=l.flatMap (BP NY)
 | [],cs,m,mf,h,_=>by rw [h.1];rfl
 | t::l,cs,m,mf,⟨x,cs',m1,m2,h1,h2,h3,h⟩,hS=>by
  subst h1;subst h2;have e1:=h3.Bc (S:=S) (mf:=m2+mf) (hS.eq (by ac_rfl)) 0;rw [Jf fun c hc=>rfl] at e1;have e2:=I_.deref h (S:=S) (mf:=m1+mf) (hS.eq (by ac_rfl));simp only [List.map_cons];rw [e2,e1,iC];have e3:=JV t.2.2.2.1;show _=BP NY t++l.flatMap (BP NY);show _=[AA.int .i64 t.1,.int .i64 t.2.1,.int .i64 t.2.2.1,DV (.sl tI) t.2.2.2.1,.str t.2.2.2.2]++l.flatMap (BP NY);rw [e3];rfl
theorem Vr: ∀l:List Rq,(l.flatMap Bt).length=l.length*8
 | []=>rfl
 | r::l=>by rw [List.flatMap_cons,List.length_append,Vr l,List.length_cons];show 8+l.length*8=(l.length+1)*8;omega
theorem Q_: ∀ {l:List Rq} {j:Nat} {r:Rq},l[j]?=some r->takeN 8 ((l.flatMap Bt).drop (j*8))=some (Bt r)
 | [],j,r,h=>by simp at h
 | a::l,0,r,h=>by
  simp at h;subst h;show takeN 8 (Bt a++l.flatMap Bt)=_;rfl
 | a::l,j+1,r,h=>by
  have:=Q_ (l:=l) (j:=j) (r:=r) (by simpa using h);rw [show (j+1)*8=j*8+8 by omega,List.flatMap_cons,show Bt a=[.int .i64 a.1,.int .i64 a.2.1.1,.int .i64 a.2.1.2.1,.int .i64 a.2.1.2.2.1,.str a.2.1.2.2.2,.int .i64 a.2.2.1,.int .i64 a.2.2.2.1,.str a.2.2.2.2] from rfl,List.drop_append];simpa using this
theorem Y4 (hCk:BV Tryz.prog B8 C0) (hMd:BV Tryz.prog BU CR) (hUn:BV Tryz.prog CZ DZ) (hA:BV Tryz.prog BN CV) (hSh:BV Tryz.prog Bf C5) (hWi:BV Tryz.prog Bv DG) (hL:BV Tryz.prog Bu DX) (hPo:BV Tryz.prog FB GG) (hU:BV Tryz.prog BT C4)
  (hPt:BV Tryz.prog BB Bi) (hW:BV Tryz.prog A9 Ci) (hP:BV Tryz.prog Df Ek) (hN:BV Tryz.prog CY ED) (hO:BV Tryz.prog Dw Gl)
  (s:Bytes) (l:List Rq) (hp:Nx s l):
  HC Tryz.prog DW [.str s,.Ez l.length (l.flatMap Bt)] HM.nil fun r m'=>(Gd s l/\ ∃p1 v1 p2 v2 X,r= .DH [.sl p1 v1 0 0,.sl p2 v2 0 0,.int .i64 1]/\m'=pt p1 (.row v1 5 [])+(pt p2 (.row v2 1 [])+X))\/(¬Gd s l/\ ∃p1 v1 p2 v2 cs mt X,r= .DH [.sl p1 v1 0 l.length,.sl p2 v2 0 l.length,.int .i64 0]/\I_ (Dp (BH s) l) cs mt/\
   m'=pt p1 (.row v1 5 cs)+(pt p2 (.row v2 1 ((DR (BH s) l).map .str))+(mt+X))):=by
 obtain ⟨hs,hl,hd⟩:=hp;have hs:s.length<=140737488351232:=hs;have hl:l.length<=140737488351232:=hl;intro S mf hS;have hS:=hS.right;refine JU Nz ?_;refine Z3 fun v4 l4 S hS=>?_;refine Z1 fun v5 l5 S hS=>?_;refine Z9 ?_;refine AX (Am (BF (fun hg=>?_) (fun hg=>?_)));all_goals refine Z5 ?_
 ·refine Z1 ?_;refine BS rfl (fun _=>?_) (fun hb=>by cases hb);have hS:=hS.right.right;refine Z3 fun v4 l4 S hS=>?_;refine Z1 fun v5 l5 S hS=>?_;refine Nn ?_;exact ⟨_,.inl ⟨.inl (by omega),l4,v4,l5,v5,HM.nil,rfl,rfl⟩,hS.eq (by simp only [HM.add_nil];ac_rfl)⟩
 refine Z1 ?_;refine Av rfl (fun hc=>?_) (fun hc=>?_)
 ·have hS:=hS.right.right;refine Z3 fun v4 l4 S hS=>?_;refine Z1 fun v5 l5 S hS=>?_;refine Nn ?_;exact ⟨_,.inl ⟨.inr (by omega),l4,v4,l5,v5,HM.nil,rfl,rfl⟩,hS.eq (by simp only [HM.add_nil];ac_rfl)⟩
 have hbig: ¬Gd s l:=by unfold Gd;omega
 have h600:s.length<=600:=by omega
 have h80:l.length<=80:=by omega
 refine Z6 ?_;refine HC.use (WV hO hWi h600) (hS.eq (m':=HM.nil+(pt l5 (.row v5 1 [])+(pt l4 (.row v4 5 [])+mf))) (by rw [HM.nil_add])) ?_;rintro r m' S ⟨lg,vg,lh,vh,lm,vm,rfl,hm⟩ hS;refine ju ?_;refine GY (fun n xs S=> ∃(j p1 v1 p2 v2:Nat) (cs:List AA) (mt me X:HM),xs=[.sl p1 v1 0 j,.sl p2 v2 0 j,.int .i64 (j:Int)]/\j<=l.length/\n=l.length-j/\I_ (Dp (BH s) (l.take j)) cs mt/\od (ES (BH s) (l.take j)) lg vg lh vh lm vm me/\
  Has S (pt p1 (.row v1 5 cs)+(pt p2 (.row v2 1 ((DR (BH s) (l.take j)).map .str))+(me+(mt+(X+mf)))))) l.length ⟨0,l4,v4,l5,v5,[],HM.nil,m',HM.nil,rfl,Nat.zero_le _,rfl,⟨rfl,rfl⟩,hm,hS.eq (by show _=pt l4 (.row v4 5 [])+(pt l5 (.row v5 1 [])+(m'+(HM.nil+(HM.nil+mf))));simp only [HM.nil_add];ac_rfl)⟩ ?_
 clear hS hm;rintro n xs S hl' ⟨j,p1,v1,p2,v2,cs,mt,me,X,rfl,hj,rfl,hT,hm,hS⟩;dsimp only [Er,List.map,Frame.get];refine Z6 ?_;refine Av rfl (fun hlt=>?_) (fun hlt=>?_)
 ·obtain ⟨r,hrj⟩: ∃r,l[j]?=some r:=⟨_,List.getElem?_eq_getElem (by omega)⟩
  have ht:=Q_ hrj;have e1:l.take (j+1)=l.take j++[r]:=by rw [List.take_add_one,hrj];rfl
  have lt:(l.take j).length=j:=by rw [List.length_take];omega
  have ic:=Fz.run (s:=s) h600 (l.take j);rw [lt] at ic;obtain ⟨f1,f2⟩:=hd r (List.mem_of_getElem? hrj);have hcl5:=hT.SM;rw [Ia,lt] at hcl5;refine Z9 fun v9 l9 S hS=>?_;refine Z1 fun S hS=>?_;refine Z8 ?_;have hS:=hS.eq (m':=me+(pt p1 (.row v1 5 cs)+(pt p2 (.row v2 1 ((DR (BH s) (l.take j)).map .str))+(pt l9 (.row v9 0 (Bt r))+(mt+(X+mf)))))) (by ac_rfl);refine HC.use (sQ hCk hMd hUn hA hSh hWi hL hPo hU hPt hW hP hN ic (by omega) hm (r:=r) f1 f2) hS ?_;rintro x m2 S ⟨me2,a,X2,⟨y,rfl,hy⟩,hm2,rfl⟩ hS;refine Z2 ?_;refine AX ?_;refine EX hS rfl (DL.one rfl) rfl hcl5 (by omega) fun v1' S hS=>?_;refine Z4 ?_;obtain ⟨sc,me3,mh,ms,⟨xc,es,mtb,mc,rfl,htb,hcb⟩,hh,hsn,rfl⟩:=hm2;refine Z7 ?_;refine AX ?_;refine EX hS rfl (DL.one rfl) rfl (by simp [KG,lt]) (by omega) fun v2' S hS=>?_;refine Nn ?_;refine ⟨l.length-(j+1),by omega,j+1,p1,v1',p2,v2',cs++[.int .i64 (BG (ES (BH s) (l.take j)) r).2.1,.int .i64 (BG (ES (BH s) (l.take j)) r).2.2.1,.int .i64 (BG (ES (BH s) (l.take j)) r).2.2.2.1,y,.str (BG (ES (BH s) (l.take j)) r).2.2.2.2.2],mt+a,(pt lg (.row vg 0 (gC lh vh (BG (ES (BH s) (l.take j)) r).1.h.text lm vm (BG (ES (BH s) (l.take j)) r).1.Ba xc sc))+(pt lm (.DA vm es)+(mtb+mc))+(mh+ms)),X2+(X+pt l9 (.row v9 0 (Bt r))),rfl,by omega,rfl,?_,?_,?_⟩
  ·rw [e1,Pe];exact hT.snoc hy
  ·rw [e1,T4];exact ⟨sc,_,mh,ms,⟨xc,es,mtb,mc,rfl,htb,hcb⟩,hh,hsn,rfl⟩
  ·rw [e1,Pd,List.map_append];exact hS.eq (by ac_rfl)
 ·obtain rfl:j=l.length:=by omega
  rw [List.take_of_length_le (Nat.le_refl _)] at hS hT;refine x7 ?_;exact ⟨_,.inr ⟨hbig,p1,v1,p2,v2,cs,mt,me+X,rfl,hT,rfl⟩,hS.eq (by ac_rfl)⟩
theorem MG: ∀l:List Bytes,l.map AA.str=l.flatMap (BP .str)
 | []=>rfl
 | a::l=>by show AA.str a::l.map AA.str=AA.str a::l.flatMap (BP .str);rw [MG l]
theorem J3 (hCk:BV Tryz.prog B8 C0) (hMd:BV Tryz.prog BU CR) (hUn:BV Tryz.prog CZ DZ) (hA:BV Tryz.prog BN CV) (hSh:BV Tryz.prog Bf C5) (hWi:BV Tryz.prog Bv DG) (hL:BV Tryz.prog Bu DX) (hPo:BV Tryz.prog FB GG) (hU:BV Tryz.prog BT C4)
  (hPt:BV Tryz.prog BB Bi) (hW:BV Tryz.prog A9 Ci) (hP:BV Tryz.prog Df Ek) (hN:BV Tryz.prog CY ED) (hO:BV Tryz.prog Dw Gl):BV Tryz.prog DW Ib:=by
 refine ⟨Nz.1,fun (x:Bytes×List Rq) hp=>?_⟩;obtain ⟨s,l⟩:=x;have h:=RC.yC (r0:= .DH [DV (.sl NY) (AM s l).1,DV (.sl .str) (AM s l).2.1,DV tI (AM s l).2.2]) 3 (Y4 hCk hMd hUn hA hSh hWi hL hPo hU hPt hW hP hN hO s l hp) fun r m' S' h hS=>by
  rcases h with ⟨h,p1,v1,p2,v2,X,rfl,rfl⟩ | ⟨h,p1,v1,p2,v2,cs,mt,X,rfl,hT,rfl⟩
  ·rw [YP h];show AA.DH [Bc S' 2 _,Bc S' 2 _,Bc S' 2 _]=_;rw [Gc (k:=5) (cs:=[]) hS 1,Gc (k:=1) (cs:=[]) (m:=pt p1 (.row v1 5 [])+X) (hS.eq (by ac_rfl)) 1];rfl
  ·rw [T2 h];show AA.DH [Bc S' 2 _,Bc S' 2 _,Bc S' 2 _]=_;have hl:=hT.SM;rw [Ia] at hl;rw [Gc (k:=5) (cs:=cs) hS 1,Gc (k:=1) (cs:=(DR (BH s) l).map .str) (m:=pt p1 (.row v1 5 cs)+(mt+X)) (hS.eq (by ac_rfl)) 1];have e1:A6 cs 0 (l.length*5)=cs:=by unfold A6;rw [List.drop_zero,List.take_of_length_le (by omega)]
   have e2:A6 ((DR (BH s) l).map AA.str) 0 (l.length*1)=(DR (BH s) l).map .str:=by unfold A6;rw [List.drop_zero,List.take_of_length_le (by simp [KG])]
   rw [e1,e2,hT.deref (mf:=pt p1 (.row v1 5 cs)+(pt p2 (.row v2 1 ((DR (BH s) l).map .str))+X)) (hS.eq (by ac_rfl))];have e3:((DR (BH s) l).map AA.str).map (Bc S' 1)=(DR (BH s) l).flatMap (BP .str):=by
    rw [Jf fun c hc=>by obtain ⟨b,_,rfl⟩:=List.mem_map.1 hc;rfl,MG]
   rw [e3];show AA.DH [.Ez l.length _,.Ez l.length _,_]=AA.DH [.Ez (Dp (BH s) l).length _,.Ez (DR (BH s) l).length _,_];rw [Ia,KG];rfl
 exact AV.bh h fun r S' e=>⟨_,id,[],PS.refl _,V6,[DV (.sl NY) (AM s l).1,DV (.sl .str) (AM s l).2.1,DV tI (AM s l).2.2],⟨_,rfl,_,rfl,_,rfl,rfl,rfl⟩,e⟩
end Go.Proofs.YtlibocgedgdmlaaGreat.E
end
