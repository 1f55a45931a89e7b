/- Part of the proof of crewPlacesUpto_holds: the whole is true of every input. Conditions: none. -/
import Derived.Test.YtpbbahplbgmbcaaR8
import Derived.Test.YtpbbahplbgmbcaaRows
import Derived.OpenShut
import Derived.SizedLaws
import Derived.Conc.LeavingOf
import Derived.Conc.Holds
set_option linter.all false
section
namespace Go.Proofs.Pl
open Go.Conc Go.Vk Go.RowKit
open Go.Fu (Bytes PosT HashT posOf polyOf psUp hsUp placesSays psUp_len hsUp_len)
open Go.Proofs.Ytpbbahplbgmbcaa.K (strs encP encH)
def flatP (p:PosT):List Int:=[p.1,p.2.1,p.2.2]
def flatH (p:HashT):List Int:=[p.1,p.2]
theorem flat_encP (ps:List PosT):ps.flatMap encP=(ps.flatMap flatP).map (Vc.AVal.int .i64):=by
 induction ps with
 | nil=>rfl
 | cons m ms ih=>rw [List.flatMap_cons,List.flatMap_cons,List.map_append,ih];rfl
theorem flat_encH (ps:List HashT):ps.flatMap encH=(ps.flatMap flatH).map (Vc.AVal.int .i64):=by
 induction ps with
 | nil=>rfl
 | cons m ms ih=>rw [List.flatMap_cons,List.flatMap_cons,List.map_append,ih];rfl
theorem res11 (a:Act) (w:World):(results Try.f11 a.tmps).run Try.prog w= .ok (.tuple #[a.tmps.getD 2 undef,a.tmps.getD 3 undef,a.tmps.getD 4 undef]) w:=by
 simp [results,show Try.f11.results= #[.tmp 2,.tmp 3,.tmp 4] from rfl]
theorem res21 (a:Act) (w:World):(results Try.f21 a.tmps).run Try.prog w= .ok (.tuple #[a.tmps.getD 4 undef,a.tmps.getD 5 undef]) w:=by
 simp [results,show Try.f21.results= #[.tmp 4,.tmp 5] from rfl]
theorem res5 (a:Act) (w:World):(results Try.f5 a.tmps).run Try.prog w= .ok (a.tmps.getD 2 undef) w:=by
 simp [results,show Try.f5.results= #[.tmp 2] from rfl]
def FMof (texts:List Bytes) (i:Nat):Msr:=(posOf (texts.getD i []),polyOf (texts.getD i []))
theorem measured {texts:List Bytes} {ms:List Msr} {e:Int} (hf:texts.flatten.length≤1048576) (h:EachRes texts.length (FMof texts) ms e):
  ∃us:List Bytes,ms=msOf us∧us.length≤40∧us.flatten.length≤1048576∧placesSays texts=(psUp us us.length,hsUp us us.length,e):=by
 rcases h with ⟨h1,rfl,rfl⟩ | ⟨h1,rfl,rfl⟩
 ·exact ⟨[],rfl,by simp,by simp,by unfold placesSays;rw [if_pos h1];rfl⟩
 ·refine ⟨texts,?_,h1,hf,by unfold placesSays;rw [if_neg (by omega)]⟩
  apply List.ext_getElem?
  intro i
  rcases Nat.lt_or_ge i texts.length with q | q
  ·simp [msOf,FMof,q,List.getD]
  ·rw [List.getElem?_eq_none (by simpa using q),List.getElem?_eq_none (by simpa [msOf] using q)]
theorem msOf_len (us:List Bytes):(msOf us).length=us.length:=by simp [msOf]
theorem flat_ne {α:Type} {n:Nat} {l:List α} {f:α→List Int} (hl:l.length=n) (hf: ∀x,f x≠[]):n≠0→l.flatMap f≠[]:=fun h0 e=>by
 cases l with
 | nil=>exact h0 hl.symm
 | cons x l=>
  rw [List.flatMap_cons] at e
  exact hf x (List.append_eq_nil_iff.1 e).1
section
variable {Fin : Value → Prop} {texts : List Bytes} {T : Value} {v0 v : World}
set_option maxRecDepth 100000 in
set_option maxHeartbeats 4000000 in
theorem places_walk {b₀:Frame} {a₀:Act} {ops₀:Array Oper} {i₀:Nat} {rest₀:List Nat} {k₀:List Item} {cs:List Frame} (hP:Go.Vc.Con Try.prog 23 Go.Fu.pos_Of_ct) (hH:Go.Vc.Con Try.prog 24 Go.Fu.poly_Of_ct) (hPJ:Go.Vc.Con Try.prog 25 Go.Fu.pos_Join_ct) (hHJ:Go.Vc.Con Try.prog 26 Go.Fu.poly_Join_ct)
  (hf:texts.flatten.length≤1048576) (hT:Vc.Rel Vc.noE (Vc.allF v0) v0 (.ros texts.length (strs texts)) T) (hv:Seen (C0 v0) v) (hsz:v0.heap.size≤v.heap.size)
  (hend: ∀cx S,EndsIn Try.prog Fin cx S→ ∀(v:World) (x y:Value) (us:List Bytes) (e:Int),us.length≤40→placesSays texts=(psUp us us.length,hsUp us us.length,e)→Vc.FlatAt v us.length ((psUp us us.length).flatMap flatP) x→Vc.FlatAt v us.length ((hsUp us us.length).flatMap flatH) y→
   (∀a x,C0 v0 a x→v.cell? a=some x)→v0.heap.size≤v.heap.size→
   Vway Try.prog cx S (G (b₀.at (a₀.put ((ops₀[i₀]?).bind (·.dst)) (.tuple #[x,y,.int .i64 e])) (.inRegion ops₀ rest₀::k₀)) cs) v):
  Vway Try.prog alone (SoloStop Try.prog Fin) (G ((base 11).at ⟨#[T,undef,undef,undef,undef,undef,undef,undef,undef,undef,undef,undef,undef,undef,undef,undef,undef,undef,undef,undef,undef,undef,undef,undef,undef,undef,undef,undef,undef,undef,undef,undef,undef,undef,undef,undef,undef,undef,undef,undef,undef,undef,undef,undef,undef,undef,undef,undef,undef,undef,undef,undef,undef,undef],[]⟩ [.code pBody]) (b₀.at a₀ (.inRegion ops₀ (i₀::rest₀)::k₀)::cs)) v:=by
 have B:=fun u=> @alone_back Try.prog (SoloStop Try.prog Fin) u
 obtain ⟨p,c,rfl⟩: ∃p c,T= .slice p texts.length c:=by
  simp only [Vc.Rel] at hT
  rcases hT with ⟨h0,a,c,rfl⟩ | ⟨b,off,c,_,_,rfl,_⟩
  ·exact ⟨a,c,by rw [h0]⟩
  ·exact ⟨_,c,rfl⟩
 rw [pBody_eq]
 refine (B v).seq ?_
 refine (B v).region ?_
 simp only [pOps0,id_eq,List.size_toArray,List.length_cons,List.length_nil,Nat.reduceAdd,Nat.zero_add,List.range,List.range.loop]
 refine Vway.boxz rfl rfl (by simp [base]) rfl rfl fun v₁ h₁=>?_
 walk_nrm
 have hs1:=seen_add ((hv.itf h₁).push (o:= .cells (Value.slice p texts.length c).cells 22)) (b:=v₁.heap.size) (x:= .slice p texts.length c) (by unfold World.cell?;simp [Value.cells]) (.inl ⟨#[.slice p texts.length c],22,0,by simp,by simp [Value.cells]⟩)
 have hz1:v0.heap.size≤v₁.heap.size:=Nat.le_trans hsz h₁.size
 generalize ({v₁ with heap:=v₁.heap.push (.cells (Value.slice p texts.length c).cells 22)}:World)=w1 at*
 generalize v₁.heap.size=tb at*
 refine (B _).value rfl rfl (by simp [base]) (fun w hw=>by go_simp<;>rfl) (fun w hw=>rfl) ?_
 walk_nrm
 refine (B _).value rfl rfl (by simp [base]) (fun w hw=>by go_simp<;>rfl) (fun w hw=>rfl) ?_
 walk_nrm
 refine (B _).value rfl rfl (by simp [base]) (fun w hw=>by go_simp<;>rfl) (fun w hw=>rfl) ?_
 walk_nrm
 refine (B _).rend ?_
 refine (B _).seq ?_
 refine (B _).region ?_
 simp only [pOps1,id_eq,List.size_toArray,List.length_cons,List.length_nil,Nat.reduceAdd,Nat.zero_add,List.range,List.range.loop]
 refine Vway.load rfl rfl (by simp [base]) rfl Try.isAgg22 rfl (hs1.cell _ _ (.inr ⟨rfl,rfl⟩)) ?_
 walk_nrm
 refine (B _).value (v:= .int .i64 (texts.length:Int)) rfl rfl (by simp [base]) (fun w hw=>by go_simp<;>rfl) (fun w hw=>by simp [go_sem]) ?_
 walk_nrm
 refine (B _).value rfl rfl (by simp [base]) (fun w hw=>by go_simp<;>rfl) (fun w hw=>rfl) ?_
 walk_nrm
 refine (B _).call rfl rfl (by simp [base]) rfl Try.func21 (by kernel_rfl) e_body ?_
 simp only [show Try.f21.ntmps=56 from rfl]
 walk_nrm
 refine each_walk (FM:=FMof texts) (acaps:=[.rop [.ros texts.length (strs texts)]]) hs1 (fun v₃ hC=>?_) (fun _ i hi=>?_) fun cx S hES a v₃ todo ms e hd h5 hr he hC=>?_
 ·have hall:=C0.all fun a x q=>hC a x (.inl q)
  have htb:v₃.cell? ⟨tb,0,none⟩=some _:=hC _ _ (.inr ⟨rfl,rfl⟩)
  have hT3:=hT.view (Nat.le_trans hz1 (Nat.le_of_lt (Vc.cell_lt htb))) hall
  simp only [Vc.RelL,Vc.Rel,Vc.RelC]
  exact ⟨_,_,rfl,⟨tb,0,Vc.cell_lt htb,rfl,⟨_,htb,rfl,by simpa only [Vc.Rel] using hT3⟩,trivial⟩,rfl⟩
 ·obtain ⟨t,ht⟩: ∃t,texts[i]?=some t:=⟨_,List.getElem?_eq_getElem hi⟩
  have hg:texts.getD i []=t:=by simp [List.getD,ht]
  have:=Go.Fu.text_len ht
  have hw:=Ytpbbahplbgmbcaa.K.places1_walk hP hH ht (by omega)
  unfold FMof
  rw [hg]
  exact hw
 ·obtain ⟨us,rfl,hu40,huf,hsays⟩:=measured hf he
  have htb:v₃.cell? ⟨tb,0,none⟩=some _:=hC _ _ (.inr ⟨rfl,rfl⟩)
  have Bx:=fun u=> @Vway.back Try.prog cx S u
  refine Vway.leave rfl hd (show Try.prog.funcs[21]?=some Try.f21 from Try.func21) tame_results (res21 a) ?_
  rw [Frame.finish_at]
  rw [h5]
  rw [msOf_len] at hr
  generalize a.tmps.getD 4 undef=x at*
  walk_nrm
  refine (Bx _).value (v:= .tuple #[x,.int .i64 e]) rfl rfl (by simp [base]) (fun w hw=>by go_simp<;>rfl) (fun w hw=>by simp [go_sem]) ?_
  walk_nrm
  refine (Bx _).value (v:=x) rfl rfl (by simp [base]) (fun w hw=>by go_simp<;>rfl) (fun w hw=>by simp [go_sem]) ?_
  walk_nrm
  refine (Bx _).value (v:= .int .i64 e) rfl rfl (by simp [base]) (fun w hw=>by go_simp<;>rfl) (fun w hw=>by simp [go_sem]) ?_
  walk_nrm
  refine (Bx _).value (v:=x) rfl rfl (by simp [base]) (fun w hw=>by go_simp<;>rfl) (fun w hw=>by simp [go_sem]) ?_
  walk_nrm
  refine (Bx _).value (v:= .int .i64 e) rfl rfl (by simp [base]) (fun w hw=>by go_simp<;>rfl) (fun w hw=>by simp [go_sem]) ?_
  walk_nrm
  refine (Bx _).rend ?_
  have hx:Vc.Rel Vc.noE (Vc.allF v₃) v₃ (.ros us.length ((msOf us).flatMap encM)) x:=by
   rw [flat_enc]
   exact hr.rel (flat_ne (msOf_len us) fun m h=>by cases h) fun b o z q=>Vc.cell_lt q
  refine Vway.chunk sP_ok (Q:=fun e' F' S'=>e'= .ret∧ ∃p1 v1 p2 v2,F'=[(2,.sl p1 v1 0 us.length),(3,.sl p2 v2 0 us.length),(4,.int .i64 e)]∧S'[p1]?=some (.row v1 3 ((psUp us us.length).flatMap encP))∧S'[p2]?=some (.row v2 2 ((hsUp us us.length).flatMap encH)))
   (Vc.st_all v₃) (Vc.relF_cons (k:=5) (x:= .ros us.length ((msOf us).flatMap encM)) hx (Vc.relF_cons (k:=6) (x:= .int .i64 e) (by simp only [Vc.Rel];rfl) Vc.relF_nil)) rfl (by simp [base]) (vcP hP hH hPJ hHJ hu40 huf fun p1 v1 p2 v2 X S' hS=>⟨rfl,p1,v1,p2,v2,rfl,hS.get,(hS.eq (m':=Vc.pt p2 (.row v2 2 ((hsUp us us.length).flatMap encH))+(Vc.pt p1 (.row v1 3 ((psUp us us.length).flatMap encP))+X)) (by ac_rfl)).get⟩) ?_
  rintro e' F' T' E' fz' a' v' ⟨rfl,p1,v1,p2,v2,rfl,hS1,hS2⟩ ext st' hrel hsz' hdf hkeep
  intro todo'
  have e2:=hrel 2
  have e3:=hrel 3
  have e4:=hrel 4
  simp only [Vc.Frame.get,Nat.beq] at e2 e3 e4
  simp only [Vc.Rel] at e4
  rw [flat_encP] at hS1
  rw [flat_encH] at hS2
  refine Vway.leave rfl hdf (show Try.prog.funcs[11]?=some Try.f11 from Try.func11) tame_results (res11 a') ?_
  rw [Frame.finish_at,e4]
  refine hend cx S hES v' _ _ us e hu40 hsays (Vc.FlatAt.own st' hS1 e2) (Vc.FlatAt.own st' hS2 e3) (fun ad z q=>?_) ?_
  ·have q3:=hC ad z (.inl q)
   obtain ⟨b,o,s⟩:=ad
   have q1:s=none:=q.1
   subst q1
   rw [Vc.cell_of_heap ((Vc.st_all v₃).fz_keep ext b (Vc.cell_lt q3))];exact q3
  ·exact Nat.le_trans (Nat.le_trans hz1 (Nat.le_of_lt (Vc.cell_lt htb))) ext.size
set_option maxRecDepth 100000 in
set_option maxHeartbeats 4000000 in
theorem law_places (hP:Go.Vc.Con Try.prog 23 Go.Fu.pos_Of_ct) (hH:Go.Vc.Con Try.prog 24 Go.Fu.poly_Of_ct) (hPJ:Go.Vc.Con Try.prog 25 Go.Fu.pos_Join_ct) (hHJ:Go.Vc.Con Try.prog 26 Go.Fu.poly_Join_ct)
  (hRP:Go.Vc.Con Try.prog Ytpbbahplbgmbcaa.K.f_ref_PosOf Go.Fu.ref_PosOf_ct) (hRH:Go.Vc.Con Try.prog Ytpbbahplbgmbcaa.K.f_ref_PolyOf Go.Fu.ref_PolyOf_ct) (hl:texts.length≤140737488351232)
  (hf:texts.flatten.length≤1048576) (hT:Vc.Rel Vc.noE (Vc.allF v0) v0 (.ros texts.length (strs texts)) T) (hv:Seen (C0 v0) v0):
  Vway Try.prog alone (SoloStop Try.prog (· = .bool true)) (G (Frame.enter Try.prog 5 #[T] .normal) []) v0:=by
 have B:=fun u=> @alone_back Try.prog (SoloStop Try.prog (· = .bool true)) u
 rw [enter_at _ Try.func5 q_body]
 rw [qBody_eq]
 simp only [show Try.f5.ntmps=65 from rfl]
 walk_nrm
 refine (B _).seq ?_
 refine (B _).region ?_
 simp only [qOps0,id_eq,List.size_toArray,List.length_cons,List.length_nil,Nat.reduceAdd,Nat.zero_add,List.range,List.range.loop]
 refine (B _).value rfl rfl (by simp [base]) (fun w hw=>by go_simp<;>rfl) (fun w hw=>rfl) ?_
 walk_nrm
 refine (B _).rend ?_
 refine (B _).seq ?_
 refine (B _).region ?_
 simp only [qOps1,id_eq,List.size_toArray,List.length_cons,List.length_nil,Nat.reduceAdd,Nat.zero_add,List.range,List.range.loop]
 refine (B _).value rfl rfl (by simp [base]) (fun w hw=>by go_simp<;>rfl) (fun w hw=>rfl) ?_
 walk_nrm
 refine (B _).call rfl rfl (by simp [base]) rfl Try.func11 (by kernel_rfl) p_body ?_
 simp only [show Try.f11.ntmps=54 from rfl]
 walk_nrm
 refine places_walk hP hH hPJ hHJ hf hT hv (Nat.le_refl _) fun cx S hES v x y us e hu40 hsays hx hy hC hsz=>?_
 have Bx:=fun u=> @Vway.back Try.prog cx S u
 walk_nrm
 refine (Bx _).value (v:= .tuple #[x,y,.int .i64 e]) rfl rfl (by simp [base]) (fun w hw=>by go_simp<;>rfl) (fun w hw=>by simp [go_sem]) ?_
 walk_nrm
 refine (Bx _).value (v:=x) rfl rfl (by simp [base]) (fun w hw=>by go_simp<;>rfl) (fun w hw=>by simp [go_sem]) ?_
 walk_nrm
 refine (Bx _).value (v:=y) rfl rfl (by simp [base]) (fun w hw=>by go_simp<;>rfl) (fun w hw=>by simp [go_sem]) ?_
 walk_nrm
 refine (Bx _).value (v:= .int .i64 e) rfl rfl (by simp [base]) (fun w hw=>by go_simp<;>rfl) (fun w hw=>by simp [go_sem]) ?_
 walk_nrm
 refine (Bx _).value (v:=x) rfl rfl (by simp [base]) (fun w hw=>by go_simp<;>rfl) (fun w hw=>by simp [go_sem]) ?_
 walk_nrm
 refine (Bx _).value (v:=y) rfl rfl (by simp [base]) (fun w hw=>by go_simp<;>rfl) (fun w hw=>by simp [go_sem]) ?_
 walk_nrm
 refine (Bx _).value (v:= .int .i64 e) rfl rfl (by simp [base]) (fun w hw=>by go_simp<;>rfl) (fun w hw=>by simp [go_sem]) ?_
 walk_nrm
 refine (Bx _).rend ?_
 refine (Bx _).seq ?_
 refine (Bx _).region ?_
 simp only [qOps2,id_eq,List.size_toArray,List.length_cons,List.length_nil,Nat.reduceAdd,Nat.zero_add,List.range,List.range.loop]
 refine (Bx _).value (v:=T) rfl rfl (by simp [base]) (fun w hw=>by go_simp<;>rfl) (fun w hw=>by simp [go_sem]) ?_
 walk_nrm
 refine Vway.callr (vals:=[T]) rfl rfl (by simp [base]) rfl (by simp [Act.eval]) (Ytpbbahplbgmbcaa.K.rplaces_rc hRP hRH hl hf) (fun v₁ h₁=>?_) ?_
 ·have:=hT.view (Nat.le_trans hsz h₁.size) fun b o z q=>h₁.cell (C0.all hC b o z q)
  exact ⟨_,_,rfl,this,rfl⟩
 intro E fz y0 v' hrel hcells hsz'
 rw [hsays] at hrel
 simp only [Vc.Rel,Vc.RelL] at hrel
 obtain ⟨vs,rfl,x2,us1,rfl,hx2,y2,us2,rfl,hy2,z2,us3,rfl,rfl,rfl⟩:=hrel
 rw [psUp_len] at hx2
 rw [hsUp_len] at hy2
 have hx2:Vc.FlatAt v' us.length ((psUp us us.length).flatMap flatP) x2:=Vc.FlatAt.of_rel (E:=E) (fz:=fz) (by rw [←flat_encP];simpa only [Vc.Rel] using hx2)
 have hy2:Vc.FlatAt v' us.length ((hsUp us us.length).flatMap flatH) y2:=Vc.FlatAt.of_rel (E:=E) (fz:=fz) (by rw [←flat_encH];simpa only [Vc.Rel] using hy2)
 have hx:=hx.cells hcells
 have hy:=hy.cells hcells
 walk_nrm
 refine (Bx _).value (v:= .tuple #[x2,y2,.int .i64 e]) rfl rfl (by simp [base]) (fun w hw=>by go_simp<;>rfl) (fun w hw=>by simp [go_sem]) ?_
 walk_nrm
 refine (Bx _).value (v:=x2) rfl rfl (by simp [base]) (fun w hw=>by go_simp<;>rfl) (fun w hw=>by simp [go_sem]) ?_
 walk_nrm
 refine (Bx _).value (v:=y2) rfl rfl (by simp [base]) (fun w hw=>by go_simp<;>rfl) (fun w hw=>by simp [go_sem]) ?_
 walk_nrm
 refine (Bx _).value (v:= .int .i64 e) rfl rfl (by simp [base]) (fun w hw=>by go_simp<;>rfl) (fun w hw=>by simp [go_sem]) ?_
 walk_nrm
 refine (Bx _).value (v:=x2) rfl rfl (by simp [base]) (fun w hw=>by go_simp<;>rfl) (fun w hw=>by simp [go_sem]) ?_
 walk_nrm
 refine (Bx _).value (v:=y2) rfl rfl (by simp [base]) (fun w hw=>by go_simp<;>rfl) (fun w hw=>by simp [go_sem]) ?_
 walk_nrm
 refine (Bx _).value (v:= .int .i64 e) rfl rfl (by simp [base]) (fun w hw=>by go_simp<;>rfl) (fun w hw=>by simp [go_sem]) ?_
 walk_nrm
 refine (Bx _).rend ?_
 have rP: ∀z,Vc.FlatAt v' us.length ((psUp us us.length).flatMap flatP) z→Vc.Rel Vc.noE (Vc.allF v') v' (.ros us.length ((psUp us us.length).flatMap encP)) z:=fun z hz=>by
  rw [flat_encP]
  exact hz.rel (flat_ne (psUp_len us _) fun m h=>by cases h) fun b o z q=>Vc.cell_lt q
 have rH: ∀z,Vc.FlatAt v' us.length ((hsUp us us.length).flatMap flatH) z→Vc.Rel Vc.noE (Vc.allF v') v' (.ros us.length ((hsUp us us.length).flatMap encH)) z:=fun z hz=>by
  rw [flat_encH]
  exact hz.rel (flat_ne (hsUp_len us _) fun m h=>by cases h) fun b o z q=>Vc.cell_lt q
 refine Vway.chunk sL_ok (Q:=fun e' F' S'=>e'= .ret∧F'=[(2,.bool true)])
  (Vc.st_all v') (Vc.relF_cons (k:=3) (rP _ hx) (Vc.relF_cons (k:=4) (rH _ hy) (Vc.relF_cons (k:=5) (x:= .int .i64 e) (by simp only [Vc.Rel];rfl)
   (Vc.relF_cons (k:=6) (rP _ hx2) (Vc.relF_cons (k:=7) (rH _ hy2) (Vc.relF_cons (k:=8) (x:= .int .i64 e) (by simp only [Vc.Rel];rfl) Vc.relF_nil)))))) rfl (by simp [base]) (vcL (psUp_len us _) (hsUp_len us _) hu40 fun S'=>⟨rfl,rfl⟩) ?_
 rintro e' F' T' E' fz' a' v'' ⟨rfl,rfl⟩ ext st' hrel hsz2 hdf hkeep
 intro todo'
 have e2:=hrel 2
 simp only [Vc.Frame.get,Nat.beq] at e2
 simp only [Vc.Rel] at e2
 exact hES.2 _ _ fun v₁ _=>end_at rfl hdf (show Try.prog.funcs[5]?=some Try.f5 from Try.func5) (by kernel_rfl) (res5 a') e2
end
end Go.Proofs.Pl
end
section
set_option maxRecDepth 100000
namespace Go.Proofs.Ytpbbahplbgmbcaa
open Go.Vc
abbrev f_ref_CrewPlaces:Nat:=12
abbrev f_crew_Places_1:Nat:=22
abbrev f_pos_Of:Nat:=23
abbrev f_poly_Of:Nat:=24
abbrev f_pos_Join:Nat:=25
abbrev f_poly_Join:Nat:=26
abbrev f_ref_PosOf:Nat:=27
abbrev f_ref_PolyOf:Nat:=28
abbrev f_strings_Count:Nat:=43
abbrev f_strings_LastIndexByte:Nat:=44
abbrev f_pos_May:Nat:=45
abbrev f_poly_May:Nat:=46
abbrev f_unicode_utf8_RuneCountInString:Nat:=68
abbrev f_strings_Index:Nat:=70
abbrev f_internal_bytealg_LastIndexByteString:Nat:=71
def pos_Of_c:SCode:=
 (.seq (.ops [⟨(some 2),.alloc 0 [(.int .i64 0),(.int .i64 0),(.int .i64 0)],none,false,[]⟩] none [0,2])
 (.seq (.ops [⟨(some 3),.mov (.t 0),none,false,[]⟩,
  ⟨(some 4),.len true (.t 3),none,false,[]⟩,
  ⟨(some 5),.mov (.t 0),none,false,[]⟩,
  ⟨(some 6),.call f_strings_Count [(.t 5),(.c (.str [10]))],none,false,[]⟩,
  ⟨(some 7),.mov (.t 0),none,false,[]⟩,
  ⟨(some 8),.len true (.t 7),none,false,[]⟩,
  ⟨(some 9),.mov (.t 0),none,false,[]⟩,
  ⟨(some 10),.call f_strings_LastIndexByte [(.t 9),(.c (.int .u8 10))],none,false,[]⟩,
  ⟨(some 11),.bin .none .sub (.t 8) (.t 10),none,false,[]⟩,
  ⟨(some 12),.bin .none .sub (.t 11) (.c (.int .i64 1)),none,false,[]⟩,
  ⟨(some 13),.build [(.int .i64 0),(.int .i64 0),(.int .i64 0)] [(0,1,(.t 4)),(1,1,(.t 6)),(2,1,(.t 12))],none,false,[]⟩,
  ⟨none,.store 3 (.t 2) (.t 13),none,false,[]⟩] none [2])
 .ret))
def pos_Of_r:List RRes:=[.cell 2 3 true]
def pos_Of_hi:Hi:=⟨[(2,(.st (.cons (.int .i64) (.cons (.int .i64) (.cons (.int .i64) .nil)))))],[(0, "text"),(1, "text")]⟩
def pos_Of_an:An:= .d
def pos_Of_fi:Fi:=⟨14,pos_Of_c,pos_Of_r,pos_Of_an,pos_Of_hi,none⟩
theorem pos_Of_ok:FiOk Try.prog f_pos_Of pos_Of_fi:=
 ⟨fun _=>by kernel_rfl,fun _ h hlen=>fun_sound (by kernel_rfl) (fn:=Try.f23) (draw_sound _ _) Try.func23 rfl (by kernel_rfl:comp Try.prog 14 _ pos_Of_c=some pos_Of_c) (by kernel_rfl:cRes Try.prog Try.f23.results.toList=some pos_Of_r) hlen h,fun _ h=>nomatch h⟩
def poly_Of_c:SCode:=
 (.seq (.ops [⟨(some 2),.alloc 0 [(.int .i64 0),(.int .i64 0)],none,false,[]⟩] none [0,2])
 (.seq (.ops [⟨(some 5),.build [(.int .i64 0),(.int .i64 0)] [(1,1,(.c (.int .i64 1)))],none,false,[]⟩,
  ⟨(some 3),.alloc 0 [(.int .i64 0),(.int .i64 0)],none,false,[]⟩,
  ⟨none,.store 2 (.t 3) (.t 5),none,false,[]⟩] none [0,2,3])
 (.seq (.seq (.ops [⟨(some 6),.mov (.t 0),none,false,[]⟩,
  ⟨(some 7),.len true (.t 6),none,false,[]⟩,
  ⟨(some 8),.mov (.c (.int .i64 0)),none,false,[]⟩] none [0,2,3,7,8])
 (.block 0 (.loop [0,2,3,7] [8] 2
  (.seq (.ops [⟨(some 9),.bin .none .lss (.t 8) (.t 7),none,false,[]⟩] none [0,2,3,7,8,9])
  (.seq (.cond (.t 9)
   .skip
   (.exit 0))
  (.seq (.block 1 (.seq (.ops [⟨(some 10),.mov (.t 8),none,false,[]⟩,
   ⟨(some 4),.mov (.t 10),none,false,[]⟩] none [0,2,3,4,7,8])
  (.seq (.ops [⟨(some 11),.faddr 0 (.t 3),none,false,[]⟩,
   ⟨(some 12),.load 1 false (.t 11),none,false,[]⟩,
   ⟨(some 13),.bin .none .mul (.t 12) (.c (.int .i64 257)),none,false,[]⟩,
   ⟨(some 14),.mov (.t 0),none,false,[]⟩,
   ⟨(some 15),.mov (.t 4),none,false,[]⟩,
   ⟨(some 16),.index 1 none false (.t 14) (.t 15),none,false,[]⟩,
   ⟨(some 17),.conv .i64 (.t 16),none,false,[]⟩,
   ⟨(some 18),.bin .none .add (.t 13) (.t 17),none,false,[]⟩,
   ⟨(some 19),.bin .none .add (.t 18) (.c (.int .i64 1)),none,false,[]⟩,
   ⟨(some 20),.bin .none .rem (.t 19) (.c (.int .i64 2147483647)),none,false,[]⟩,
   ⟨(some 21),.faddr 0 (.t 3),none,false,[]⟩,
   ⟨none,.store 1 (.t 21) (.t 20),none,false,[]⟩] (some (0,0,[0,1,2,3,4,5,6,7,8,9,10,11])) [0,2,3,7,8])
  (.ops [⟨(some 22),.faddr 1 (.t 3),none,false,[]⟩,
   ⟨(some 23),.load 1 false (.t 22),none,false,[]⟩,
   ⟨(some 24),.bin .none .mul (.t 23) (.c (.int .i64 257)),none,false,[]⟩,
   ⟨(some 25),.bin .none .rem (.t 24) (.c (.int .i64 2147483647)),none,false,[]⟩,
   ⟨(some 26),.faddr 1 (.t 3),none,false,[]⟩,
   ⟨none,.store 1 (.t 26) (.t 25),none,false,[]⟩] none [0,2,3,7,8]))))
  (.ops [⟨(some 27),.bin .none .add (.t 8) (.c (.int .i64 1)),none,false,[]⟩,
   ⟨(some 8),.mov (.t 27),none,false,[]⟩] none [0,2,3,7,8])))))))
 (.seq (.ops [⟨(some 28),.load 2 true (.t 3),none,false,[]⟩,
  ⟨none,.store 2 (.t 2) (.t 28),none,false,[]⟩] none [2])
 .ret))))
def poly_Of_r:List RRes:=[.cell 2 2 true]
def poly_Of_hi:Hi:=⟨[(2,(.st (.cons (.int .i64) (.cons (.int .i64) .nil)))),(3,(.st (.cons (.int .i64) (.cons (.int .i64) .nil))))],[(0, "text"),(1, "text"),(3, "h"),(4, "i")]⟩
def poly_Of_an:An:=(.seq .d (.seq .d (.seq (.seq .d (.loop [3] [] [] .d)) .d)))
def poly_Of_fi:Fi:=⟨29,poly_Of_c,poly_Of_r,poly_Of_an,poly_Of_hi,none⟩
theorem poly_Of_ok:FiOk Try.prog f_poly_Of poly_Of_fi:=
 ⟨fun _=>by kernel_rfl,fun _ h hlen=>fun_sound (by kernel_rfl) (fn:=Try.f24) (draw_sound _ _) Try.func24 rfl (by kernel_rfl:comp Try.prog 29 _ poly_Of_c=some poly_Of_c) (by kernel_rfl:cRes Try.prog Try.f24.results.toList=some poly_Of_r) hlen h,fun _ h=>nomatch h⟩
def pos_May_c:SCode:=
 (.seq (.ops [⟨(some 1),.box 0 (.t 0),none,false,[]⟩,
  ⟨(some 2),.mov (.c (.bool false)),none,false,[]⟩] none [1])
 (.seq (.seq (.ops [⟨(some 3),.faddr 0 (.t 1),none,false,[]⟩,
  ⟨(some 4),.load 1 false (.t 3),none,false,[]⟩,
  ⟨(some 5),.bin .none .lss (.t 4) (.c (.int .i64 0)),none,false,[]⟩,
  ⟨(some 6),.mov (.t 5),none,true,[]⟩,
  ⟨(some 7),.faddr 1 (.t 1),(some (6,false)),false,[]⟩,
  ⟨(some 8),.load 1 false (.t 7),(some (6,false)),false,[]⟩,
  ⟨(some 9),.bin .none .lss (.t 8) (.c (.int .i64 0)),(some (6,false)),false,[]⟩,
  ⟨(some 10),.pick (.t 6) (.c (.bool true)) (.t 9),none,false,[]⟩,
  ⟨(some 11),.mov (.t 10),none,true,[]⟩,
  ⟨(some 12),.faddr 2 (.t 1),(some (11,false)),false,[]⟩,
  ⟨(some 13),.load 1 false (.t 12),(some (11,false)),false,[]⟩,
  ⟨(some 14),.bin .none .lss (.t 13) (.c (.int .i64 0)),(some (11,false)),false,[]⟩,
  ⟨(some 15),.pick (.t 11) (.c (.bool true)) (.t 14),none,false,[]⟩,
  ⟨(some 16),.mov (.t 15),none,true,[]⟩,
  ⟨(some 17),.faddr 0 (.t 1),(some (16,false)),false,[]⟩,
  ⟨(some 18),.load 1 false (.t 17),(some (16,false)),false,[]⟩,
  ⟨(some 19),.faddr 1 (.t 1),(some (16,false)),false,[]⟩,
  ⟨(some 20),.load 1 false (.t 19),(some (16,false)),false,[]⟩,
  ⟨(some 21),.faddr 2 (.t 1),(some (16,false)),false,[]⟩,
  ⟨(some 22),.load 1 false (.t 21),(some (16,false)),false,[]⟩,
  ⟨(some 23),.max [(.t 18),(.t 20),(.t 22)],(some (16,false)),false,[]⟩,
  ⟨(some 24),.bin .none .gtr (.t 23) (.c (.int .i64 1099511627776)),(some (16,false)),false,[]⟩,
  ⟨(some 25),.pick (.t 16) (.c (.bool true)) (.t 24),none,false,[]⟩] none [1,25])
 (.cond (.t 25)
  (.seq (.ops [⟨(some 2),.mov (.c (.bool false)),none,false,[]⟩] none [2])
  .ret)
  .skip))
 (.seq (.ops [⟨(some 26),.faddr 1 (.t 1),none,false,[]⟩,
  ⟨(some 27),.load 1 false (.t 26),none,false,[]⟩,
  ⟨(some 28),.faddr 2 (.t 1),none,false,[]⟩,
  ⟨(some 29),.load 1 false (.t 28),none,false,[]⟩,
  ⟨(some 30),.bin .none .add (.t 27) (.t 29),none,false,[]⟩,
  ⟨(some 31),.faddr 0 (.t 1),none,false,[]⟩,
  ⟨(some 32),.load 1 false (.t 31),none,false,[]⟩,
  ⟨(some 33),.bin .none .leq (.t 30) (.t 32),none,false,[]⟩,
  ⟨(some 34),.mov (.t 33),none,true,[]⟩,
  ⟨(some 35),.faddr 1 (.t 1),(some (34,true)),false,[]⟩,
  ⟨(some 36),.load 1 false (.t 35),(some (34,true)),false,[]⟩,
  ⟨(some 37),.bin .none .gtr (.t 36) (.c (.int .i64 0)),(some (34,true)),false,[]⟩,
  ⟨(some 38),.mov (.t 37),(some (34,true)),true,[]⟩,
  ⟨(some 39),.faddr 2 (.t 1),(some (38,false)),false,[]⟩,
  ⟨(some 40),.load 1 false (.t 39),(some (38,false)),false,[]⟩,
  ⟨(some 41),.faddr 0 (.t 1),(some (38,false)),false,[]⟩,
  ⟨(some 42),.load 1 false (.t 41),(some (38,false)),false,[]⟩,
  ⟨(some 43),.bin .none .eql (.t 40) (.t 42),(some (38,false)),false,[]⟩,
  ⟨(some 44),.pick (.t 38) (.c (.bool true)) (.t 43),(some (34,true)),false,[]⟩,
  ⟨(some 45),.pick (.t 34) (.t 44) (.c (.bool false)),none,false,[]⟩,
  ⟨(some 2),.mov (.t 45),none,false,[]⟩] none [2])
 .ret)))
def pos_May_r:List RRes:=[.tmp 2]
def pos_May_hi:Hi:=⟨[(1,(.st (.cons (.int .i64) (.cons (.int .i64) (.cons (.int .i64) .nil)))))],[(0, "p"),(1, "p")]⟩
def pos_May_an:An:= .d
def pos_May_fi:Fi:=⟨46,pos_May_c,pos_May_r,pos_May_an,pos_May_hi,none⟩
theorem pos_May_ok:FiOk Try.prog f_pos_May pos_May_fi:=
 ⟨fun _=>by kernel_rfl,fun _ h hlen=>fun_sound (by kernel_rfl) (fn:=Try.f45) (draw_sound _ _) Try.func45 rfl (by kernel_rfl:comp Try.prog 46 _ pos_May_c=some pos_May_c) (by kernel_rfl:cRes Try.prog Try.f45.results.toList=some pos_May_r) hlen h,fun _ h=>nomatch h⟩
def pos_Join_c:SCode:=
 (.seq (.ops [⟨(some 2),.box 0 (.t 0),none,false,[]⟩,
  ⟨(some 3),.box 0 (.t 1),none,false,[]⟩,
  ⟨(some 4),.alloc 0 [(.int .i64 0),(.int .i64 0),(.int .i64 0)],none,false,[]⟩,
  ⟨(some 5),.mov (.c (.int .i64 0)),none,false,[]⟩] none [2,3,4])
 (.seq (.seq (.ops [⟨(some 7),.load 3 true (.t 2),none,false,[]⟩,
  ⟨(some 8),.call f_pos_May [(.t 7)],none,false,[]⟩,
  ⟨(some 9),.not (.t 8),none,false,[]⟩,
  ⟨(some 10),.mov (.t 9),none,true,[]⟩,
  ⟨(some 11),.load 3 true (.t 3),(some (10,false)),false,[]⟩,
  ⟨(some 12),.call f_pos_May [(.t 11)],(some (10,false)),false,[]⟩,
  ⟨(some 13),.not (.t 12),(some (10,false)),false,[]⟩,
  ⟨(some 14),.pick (.t 10) (.c (.bool true)) (.t 13),none,false,[]⟩] none [2,3,4,14])
 (.cond (.t 14)
  (.seq (.ops [⟨(some 15),.build [(.int .i64 0),(.int .i64 0),(.int .i64 0)] [],none,false,[]⟩,
   ⟨none,.store 3 (.t 4) (.t 15),none,false,[]⟩,
   ⟨(some 5),.mov (.c (.int .i64 4)),none,false,[]⟩] none [4,5])
  .ret)
  .skip))
 (.seq (.ops [⟨(some 16),.faddr 0 (.t 2),none,false,[]⟩,
  ⟨(some 17),.load 1 false (.t 16),none,false,[]⟩,
  ⟨(some 18),.faddr 0 (.t 3),none,false,[]⟩,
  ⟨(some 19),.load 1 false (.t 18),none,false,[]⟩,
  ⟨(some 20),.bin .none .add (.t 17) (.t 19),none,false,[]⟩,
  ⟨(some 21),.faddr 1 (.t 2),none,false,[]⟩,
  ⟨(some 22),.load 1 false (.t 21),none,false,[]⟩,
  ⟨(some 23),.faddr 1 (.t 3),none,false,[]⟩,
  ⟨(some 24),.load 1 false (.t 23),none,false,[]⟩,
  ⟨(some 25),.bin .none .add (.t 22) (.t 24),none,false,[]⟩,
  ⟨(some 26),.faddr 2 (.t 3),none,false,[]⟩,
  ⟨(some 27),.load 1 false (.t 26),none,false,[]⟩,
  ⟨(some 28),.build [(.int .i64 0),(.int .i64 0),(.int .i64 0)] [(0,1,(.t 20)),(1,1,(.t 25)),(2,1,(.t 27))],none,false,[]⟩,
  ⟨(some 6),.alloc 0 [(.int .i64 0),(.int .i64 0),(.int .i64 0)],none,false,[]⟩,
  ⟨none,.store 3 (.t 6) (.t 28),none,false,[]⟩] none [2,3,4,6])
 (.join [4,6] [] 4 (.seq (.ops [⟨(some 29),.faddr 1 (.t 3),none,false,[]⟩,
   ⟨(some 30),.load 1 false (.t 29),none,false,[]⟩,
   ⟨(some 31),.bin .none .eql (.t 30) (.c (.int .i64 0)),none,false,[]⟩] none [2,4,6,31])
  (.cond (.t 31)
   (.ops [⟨(some 32),.faddr 2 (.t 6),none,false,[]⟩,
    ⟨(some 33),.load 1 false (.t 32),none,false,[]⟩,
    ⟨(some 34),.faddr 2 (.t 2),none,false,[]⟩,
    ⟨(some 35),.load 1 false (.t 34),none,false,[]⟩,
    ⟨(some 36),.bin .none .add (.t 33) (.t 35),none,false,[]⟩,
    ⟨(some 37),.faddr 2 (.t 6),none,false,[]⟩,
    ⟨none,.store 1 (.t 37) (.t 36),none,false,[]⟩] none [4,6])
   .skip))
 (.seq (.seq (.ops [⟨(some 38),.load 3 true (.t 6),none,false,[]⟩,
  ⟨(some 39),.call f_pos_May [(.t 38)],none,false,[]⟩,
  ⟨(some 40),.not (.t 39),none,false,[]⟩] none [4,6,40])
 (.cond (.t 40)
  (.seq (.ops [⟨(some 41),.build [(.int .i64 0),(.int .i64 0),(.int .i64 0)] [],none,false,[]⟩,
   ⟨none,.store 3 (.t 4) (.t 41),none,false,[]⟩,
   ⟨(some 5),.mov (.c (.int .i64 4)),none,false,[]⟩] none [4,5])
  .ret)
  .skip))
 (.seq (.ops [⟨(some 42),.load 3 true (.t 6),none,false,[]⟩,
  ⟨none,.store 3 (.t 4) (.t 42),none,false,[]⟩,
  ⟨(some 5),.mov (.c (.int .i64 0)),none,false,[]⟩] none [4,5])
 .ret))))))
def pos_Join_r:List RRes:=[.cell 4 3 true,.tmp 5]
def pos_Join_hi:Hi:=⟨[(2,(.st (.cons (.int .i64) (.cons (.int .i64) (.cons (.int .i64) .nil))))),(3,(.st (.cons (.int .i64) (.cons (.int .i64) (.cons (.int .i64) .nil))))),(4,(.st (.cons (.int .i64) (.cons (.int .i64) (.cons (.int .i64) .nil))))),(6,(.st (.cons (.int .i64) (.cons (.int .i64) (.cons (.int .i64) .nil)))))],[(0, "a"),(1, "b"),(2, "a"),(3, "b"),(6, "out")]⟩
def pos_Join_an:An:= .d
def pos_Join_fi:Fi:=⟨43,pos_Join_c,pos_Join_r,pos_Join_an,pos_Join_hi,none⟩
theorem pos_Join_ok:FiOk Try.prog f_pos_Join pos_Join_fi:=
 ⟨fun _=>by kernel_rfl,fun _ h hlen=>fun_sound (by kernel_rfl) (fn:=Try.f25) (draw_sound _ _) Try.func25 rfl (by kernel_rfl:comp Try.prog 43 _ pos_Join_c=some pos_Join_c) (by kernel_rfl:cRes Try.prog Try.f25.results.toList=some pos_Join_r) hlen h,fun _ h=>nomatch h⟩
def poly_May_c:SCode:=
 (.seq (.ops [⟨(some 1),.box 0 (.t 0),none,false,[]⟩,
  ⟨(some 2),.mov (.c (.bool false)),none,false,[]⟩] none [1])
 (.seq (.ops [⟨(some 3),.faddr 0 (.t 1),none,false,[]⟩,
  ⟨(some 4),.load 1 false (.t 3),none,false,[]⟩,
  ⟨(some 5),.bin .none .geq (.t 4) (.c (.int .i64 0)),none,false,[]⟩,
  ⟨(some 6),.mov (.t 5),none,true,[]⟩,
  ⟨(some 7),.faddr 0 (.t 1),(some (6,true)),false,[]⟩,
  ⟨(some 8),.load 1 false (.t 7),(some (6,true)),false,[]⟩,
  ⟨(some 9),.bin .none .lss (.t 8) (.c (.int .i64 2147483647)),(some (6,true)),false,[]⟩,
  ⟨(some 10),.pick (.t 6) (.t 9) (.c (.bool false)),none,false,[]⟩,
  ⟨(some 11),.mov (.t 10),none,true,[]⟩,
  ⟨(some 12),.faddr 1 (.t 1),(some (11,true)),false,[]⟩,
  ⟨(some 13),.load 1 false (.t 12),(some (11,true)),false,[]⟩,
  ⟨(some 14),.bin .none .gtr (.t 13) (.c (.int .i64 0)),(some (11,true)),false,[]⟩,
  ⟨(some 15),.pick (.t 11) (.t 14) (.c (.bool false)),none,false,[]⟩,
  ⟨(some 16),.mov (.t 15),none,true,[]⟩,
  ⟨(some 17),.faddr 1 (.t 1),(some (16,true)),false,[]⟩,
  ⟨(some 18),.load 1 false (.t 17),(some (16,true)),false,[]⟩,
  ⟨(some 19),.bin .none .lss (.t 18) (.c (.int .i64 2147483647)),(some (16,true)),false,[]⟩,
  ⟨(some 20),.pick (.t 16) (.t 19) (.c (.bool false)),none,false,[]⟩,
  ⟨(some 2),.mov (.t 20),none,false,[]⟩] none [2])
 .ret))
def poly_May_r:List RRes:=[.tmp 2]
def poly_May_hi:Hi:=⟨[(1,(.st (.cons (.int .i64) (.cons (.int .i64) .nil))))],[(0, "h"),(1, "h")]⟩
def poly_May_an:An:= .d
def poly_May_fi:Fi:=⟨21,poly_May_c,poly_May_r,poly_May_an,poly_May_hi,none⟩
theorem poly_May_ok:FiOk Try.prog f_poly_May poly_May_fi:=
 ⟨fun _=>by kernel_rfl,fun _ h hlen=>fun_sound (by kernel_rfl) (fn:=Try.f46) (draw_sound _ _) Try.func46 rfl (by kernel_rfl:comp Try.prog 21 _ poly_May_c=some poly_May_c) (by kernel_rfl:cRes Try.prog Try.f46.results.toList=some poly_May_r) hlen h,fun _ h=>nomatch h⟩
def poly_Join_c:SCode:=
 (.seq (.ops [⟨(some 2),.box 0 (.t 0),none,false,[]⟩,
  ⟨(some 3),.box 0 (.t 1),none,false,[]⟩,
  ⟨(some 4),.alloc 0 [(.int .i64 0),(.int .i64 0)],none,false,[]⟩,
  ⟨(some 5),.mov (.c (.int .i64 0)),none,false,[]⟩] none [2,3,4])
 (.seq (.seq (.ops [⟨(some 6),.load 2 true (.t 2),none,false,[]⟩,
  ⟨(some 7),.call f_poly_May [(.t 6)],none,false,[]⟩,
  ⟨(some 8),.not (.t 7),none,false,[]⟩,
  ⟨(some 9),.mov (.t 8),none,true,[]⟩,
  ⟨(some 10),.load 2 true (.t 3),(some (9,false)),false,[]⟩,
  ⟨(some 11),.call f_poly_May [(.t 10)],(some (9,false)),false,[]⟩,
  ⟨(some 12),.not (.t 11),(some (9,false)),false,[]⟩,
  ⟨(some 13),.pick (.t 9) (.c (.bool true)) (.t 12),none,false,[]⟩] none [2,3,4,13])
 (.cond (.t 13)
  (.seq (.ops [⟨(some 14),.build [(.int .i64 0),(.int .i64 0)] [],none,false,[]⟩,
   ⟨none,.store 2 (.t 4) (.t 14),none,false,[]⟩,
   ⟨(some 5),.mov (.c (.int .i64 4)),none,false,[]⟩] none [4,5])
  .ret)
  .skip))
 (.seq (.ops [⟨(some 15),.faddr 0 (.t 2),none,false,[]⟩,
  ⟨(some 16),.load 1 false (.t 15),none,false,[]⟩,
  ⟨(some 17),.faddr 1 (.t 3),none,false,[]⟩,
  ⟨(some 18),.load 1 false (.t 17),none,false,[]⟩,
  ⟨(some 19),.bin .none .mul (.t 16) (.t 18),none,false,[]⟩,
  ⟨(some 20),.faddr 0 (.t 3),none,false,[]⟩,
  ⟨(some 21),.load 1 false (.t 20),none,false,[]⟩,
  ⟨(some 22),.bin .none .add (.t 19) (.t 21),none,false,[]⟩,
  ⟨(some 23),.bin .none .rem (.t 22) (.c (.int .i64 2147483647)),none,false,[]⟩,
  ⟨(some 24),.faddr 1 (.t 2),none,false,[]⟩,
  ⟨(some 25),.load 1 false (.t 24),none,false,[]⟩,
  ⟨(some 26),.faddr 1 (.t 3),none,false,[]⟩,
  ⟨(some 27),.load 1 false (.t 26),none,false,[]⟩,
  ⟨(some 28),.bin .none .mul (.t 25) (.t 27),none,false,[]⟩,
  ⟨(some 29),.bin .none .rem (.t 28) (.c (.int .i64 2147483647)),none,false,[]⟩,
  ⟨(some 30),.build [(.int .i64 0),(.int .i64 0)] [(0,1,(.t 23)),(1,1,(.t 29))],none,false,[]⟩,
  ⟨none,.store 2 (.t 4) (.t 30),none,false,[]⟩,
  ⟨(some 5),.mov (.c (.int .i64 0)),none,false,[]⟩] none [4,5])
 .ret)))
def poly_Join_r:List RRes:=[.cell 4 2 true,.tmp 5]
def poly_Join_hi:Hi:=⟨[(2,(.st (.cons (.int .i64) (.cons (.int .i64) .nil)))),(3,(.st (.cons (.int .i64) (.cons (.int .i64) .nil)))),(4,(.st (.cons (.int .i64) (.cons (.int .i64) .nil))))],[(0, "a"),(1, "b"),(2, "a"),(3, "b")]⟩
def poly_Join_an:An:= .d
def poly_Join_fi:Fi:=⟨31,poly_Join_c,poly_Join_r,poly_Join_an,poly_Join_hi,none⟩
theorem poly_Join_ok:FiOk Try.prog f_poly_Join poly_Join_fi:=
 ⟨fun _=>by kernel_rfl,fun _ h hlen=>fun_sound (by kernel_rfl) (fn:=Try.f26) (draw_sound _ _) Try.func26 rfl (by kernel_rfl:comp Try.prog 31 _ poly_Join_c=some poly_Join_c) (by kernel_rfl:cRes Try.prog Try.f26.results.toList=some poly_Join_r) hlen h,fun _ h=>nomatch h⟩
def ref_PosOf_c:SCode:=
 (.seq (.ops [⟨(some 2),.alloc 0 [(.int .i64 0),(.int .i64 0),(.int .i64 0)],none,false,[]⟩] none [0,2])
 (.seq (.ops [⟨(some 3),.alloc 0 [(.int .i64 0),(.int .i64 0),(.int .i64 0)],none,false,[]⟩] none [0,2,3])
 (.seq (.seq (.ops [⟨(some 4),.mov (.c (.int .i64 0)),none,false,[]⟩] none [0,2,3,4])
 (.block 0 (.loop [0,2,3] [4] 2
  (.seq (.seq (.ops [⟨(some 5),.mov (.t 4),none,false,[]⟩,
   ⟨(some 6),.mov (.t 0),none,false,[]⟩,
   ⟨(some 7),.len true (.t 6),none,false,[]⟩,
   ⟨(some 8),.bin .none .lss (.t 5) (.t 7),none,false,[]⟩] none [0,2,3,4,8])
  (.cond (.t 8)
   .skip
   (.exit 0)))
  (.join [0,2,3,4] [] 2 (.block 1 (.seq (.ops [⟨(some 11),.faddr 0 (.t 3),none,false,[]⟩,
    ⟨(some 12),.load 1 false (.t 11),none,false,[]⟩,
    ⟨(some 13),.bin .none .add (.t 12) (.c (.int .i64 1)),none,false,[]⟩,
    ⟨(some 14),.faddr 0 (.t 3),none,false,[]⟩,
    ⟨none,.store 1 (.t 14) (.t 13),none,false,[]⟩] none [0,2,3,4])
   (.seq (.ops [⟨(some 15),.faddr 2 (.t 3),none,false,[]⟩,
    ⟨(some 16),.load 1 false (.t 15),none,false,[]⟩,
    ⟨(some 17),.bin .none .add (.t 16) (.c (.int .i64 1)),none,false,[]⟩,
    ⟨(some 18),.faddr 2 (.t 3),none,false,[]⟩,
    ⟨none,.store 1 (.t 18) (.t 17),none,false,[]⟩] none [0,2,3,4])
   (.seq (.ops [⟨(some 19),.mov (.t 0),none,false,[]⟩,
    ⟨(some 20),.mov (.t 4),none,false,[]⟩,
    ⟨(some 21),.index 1 none false (.t 19) (.t 20),none,false,[]⟩,
    ⟨(some 22),.bin .none .eql (.t 21) (.c (.int .u8 10)),none,false,[]⟩] none [0,2,3,4,22])
   (.cond (.t 22)
    (.seq (.ops [⟨(some 23),.faddr 1 (.t 3),none,false,[]⟩,
     ⟨(some 24),.load 1 false (.t 23),none,false,[]⟩,
     ⟨(some 25),.bin .none .add (.t 24) (.c (.int .i64 1)),none,false,[]⟩,
     ⟨(some 26),.faddr 1 (.t 3),none,false,[]⟩,
     ⟨none,.store 1 (.t 26) (.t 25),none,false,[]⟩] none [0,2,3,4])
    (.ops [⟨(some 27),.faddr 2 (.t 3),none,false,[]⟩,
     ⟨none,.store 1 (.t 27) (.c (.int .i64 0)),none,false,[]⟩] none [0,2,3,4]))
    .skip)))))
  (.ops [⟨(some 9),.mov (.t 4),none,false,[]⟩,
   ⟨(some 10),.bin .none .add (.t 9) (.c (.int .i64 1)),none,false,[]⟩,
   ⟨(some 4),.mov (.t 10),none,false,[]⟩] none [0,2,3,4]))))))
 (.seq (.ops [⟨(some 28),.load 3 true (.t 3),none,false,[]⟩,
  ⟨none,.store 3 (.t 2) (.t 28),none,false,[]⟩] none [2])
 .ret))))
def ref_PosOf_r:List RRes:=[.cell 2 3 true]
def ref_PosOf_hi:Hi:=⟨[(2,(.st (.cons (.int .i64) (.cons (.int .i64) (.cons (.int .i64) .nil))))),(3,(.st (.cons (.int .i64) (.cons (.int .i64) (.cons (.int .i64) .nil)))))],[(0, "text"),(1, "text"),(3, "p"),(4, "i")]⟩
def ref_PosOf_an:An:=(.seq .d (.seq .d (.seq (.seq .d (.loop [3] [] [] .d)) .d)))
def ref_PosOf_fi:Fi:=⟨29,ref_PosOf_c,ref_PosOf_r,ref_PosOf_an,ref_PosOf_hi,none⟩
theorem ref_PosOf_ok:FiOk Try.prog f_ref_PosOf ref_PosOf_fi:=
 ⟨fun _=>by kernel_rfl,fun _ h hlen=>fun_sound (by kernel_rfl) (fn:=Try.f27) (draw_sound _ _) Try.func27 rfl (by kernel_rfl:comp Try.prog 29 _ ref_PosOf_c=some ref_PosOf_c) (by kernel_rfl:cRes Try.prog Try.f27.results.toList=some ref_PosOf_r) hlen h,fun _ h=>nomatch h⟩
def ref_PolyOf_c:SCode:=
 (.seq (.ops [⟨(some 2),.alloc 0 [(.int .i64 0),(.int .i64 0)],none,false,[]⟩] none [0,2])
 (.seq (.ops [⟨(some 3),.mov (.c (.int .i64 1)),none,false,[]⟩] none [0,2,3])
 (.seq (.ops [⟨(some 4),.mov (.c (.int .i64 0)),none,false,[]⟩] none [0,2,3,4])
 (.seq (.seq (.ops [⟨(some 6),.mov (.t 0),none,false,[]⟩,
  ⟨(some 7),.len true (.t 6),none,false,[]⟩,
  ⟨(some 8),.bin .none .sub (.t 7) (.c (.int .i64 1)),none,false,[]⟩,
  ⟨(some 5),.mov (.t 8),none,false,[]⟩] none [0,2,3,4,5])
 (.block 0 (.loop [0,2] [3,4,5] 1
  (.seq (.seq (.ops [⟨(some 9),.mov (.t 5),none,false,[]⟩,
   ⟨(some 10),.bin .none .geq (.t 9) (.c (.int .i64 0)),none,false,[]⟩] none [0,2,3,4,5,10])
  (.cond (.t 10)
   .skip
   (.exit 0)))
  (.seq (.block 1 (.seq (.ops [⟨(some 13),.mov (.t 4),none,false,[]⟩,
   ⟨(some 14),.mov (.t 0),none,false,[]⟩,
   ⟨(some 15),.mov (.t 5),none,false,[]⟩,
   ⟨(some 16),.index 1 none false (.t 14) (.t 15),none,false,[]⟩,
   ⟨(some 17),.conv .i64 (.t 16),none,false,[]⟩,
   ⟨(some 18),.bin .none .add (.t 17) (.c (.int .i64 1)),none,false,[]⟩,
   ⟨(some 19),.mov (.t 3),none,false,[]⟩,
   ⟨(some 20),.bin .none .mul (.t 18) (.t 19),none,false,[]⟩,
   ⟨(some 21),.bin .none .add (.t 13) (.t 20),none,false,[]⟩,
   ⟨(some 22),.bin .none .rem (.t 21) (.c (.int .i64 2147483647)),none,false,[]⟩,
   ⟨(some 4),.mov (.t 22),none,false,[]⟩] none [0,2,3,4,5])
  (.ops [⟨(some 23),.mov (.t 3),none,false,[]⟩,
   ⟨(some 24),.bin .none .mul (.t 23) (.c (.int .i64 257)),none,false,[]⟩,
   ⟨(some 25),.bin .none .rem (.t 24) (.c (.int .i64 2147483647)),none,false,[]⟩,
   ⟨(some 3),.mov (.t 25),none,false,[]⟩] none [0,2,3,4,5])))
  (.ops [⟨(some 11),.mov (.t 5),none,false,[]⟩,
   ⟨(some 12),.bin .none .sub (.t 11) (.c (.int .i64 1)),none,false,[]⟩,
   ⟨(some 5),.mov (.t 12),none,false,[]⟩] none [0,2,3,4,5]))))))
 (.seq (.ops [⟨(some 26),.mov (.t 4),none,false,[]⟩,
  ⟨(some 27),.mov (.t 3),none,false,[]⟩,
  ⟨(some 28),.build [(.int .i64 0),(.int .i64 0)] [(0,1,(.t 26)),(1,1,(.t 27))],none,false,[]⟩,
  ⟨none,.store 2 (.t 2) (.t 28),none,false,[]⟩] none [2])
 .ret)))))
def ref_PolyOf_r:List RRes:=[.cell 2 2 true]
def ref_PolyOf_hi:Hi:=⟨[(2,(.st (.cons (.int .i64) (.cons (.int .i64) .nil))))],[(0, "text"),(1, "text"),(3, "power"),(4, "sum"),(5, "i")]⟩
def ref_PolyOf_an:An:=(.seq .d (.seq .d (.seq .d (.seq (.seq .d (.loop [] [] [] .d)) .d))))
def ref_PolyOf_fi:Fi:=⟨29,ref_PolyOf_c,ref_PolyOf_r,ref_PolyOf_an,ref_PolyOf_hi,none⟩
theorem ref_PolyOf_ok:FiOk Try.prog f_ref_PolyOf ref_PolyOf_fi:=
 ⟨fun _=>by kernel_rfl,fun _ h hlen=>fun_sound (by kernel_rfl) (fn:=Try.f28) (draw_sound _ _) Try.func28 rfl (by kernel_rfl:comp Try.prog 29 _ ref_PolyOf_c=some ref_PolyOf_c) (by kernel_rfl:cRes Try.prog Try.f28.results.toList=some ref_PolyOf_r) hlen h,fun _ h=>nomatch h⟩
def strings_Count_c:SCode:=
 (.seq (.ops [⟨(some 4),.mov (.c (.int .i64 0)),none,false,[]⟩] none [0,1])
 (.seq (.seq (.ops [⟨(some 7),.mov (.t 1),none,false,[]⟩,
  ⟨(some 8),.len true (.t 7),none,false,[]⟩,
  ⟨(some 9),.bin .none .eql (.t 8) (.c (.int .i64 0)),none,false,[]⟩] none [0,1,9])
 (.cond (.t 9)
  (.seq (.ops [⟨(some 10),.mov (.t 0),none,false,[]⟩,
   ⟨(some 11),.call f_unicode_utf8_RuneCountInString [(.t 10)],none,false,[]⟩,
   ⟨(some 12),.bin .none .add (.t 11) (.c (.int .i64 1)),none,false,[]⟩,
   ⟨(some 4),.mov (.t 12),none,false,[]⟩] none [4])
  .ret)
  .skip))
 (.seq (.seq (.ops [⟨(some 13),.mov (.t 1),none,false,[]⟩,
  ⟨(some 14),.len true (.t 13),none,false,[]⟩,
  ⟨(some 15),.bin .none .eql (.t 14) (.c (.int .i64 1)),none,false,[]⟩] none [0,1,15])
 (.cond (.t 15)
  (.seq (.ops [⟨(some 16),.mov (.t 0),none,false,[]⟩,
   ⟨(some 17),.mov (.t 1),none,false,[]⟩,
   ⟨(some 18),.index 1 none false (.t 17) (.c (.int .i64 0)),none,false,[]⟩,
   ⟨(some 19),.ext .cnt [(.t 16),(.t 18)],none,false,[]⟩,
   ⟨(some 4),.mov (.t 19),none,false,[]⟩] none [4])
  .ret)
  .skip))
 (.seq (.ops [⟨(some 5),.mov (.c (.int .i64 0)),none,false,[]⟩] none [0,1,5])
 (.block 0 (.loop [1] [0,5] 0
  (.block 1 (.seq (.ops [⟨(some 20),.mov (.t 0),none,false,[]⟩,
   ⟨(some 21),.mov (.t 1),none,false,[]⟩,
   ⟨(some 22),.call f_strings_Index [(.t 20),(.t 21)],none,false,[]⟩,
   ⟨(some 6),.mov (.t 22),none,false,[]⟩] none [0,1,5,6])
  (.seq (.seq (.ops [⟨(some 23),.mov (.t 6),none,false,[]⟩,
   ⟨(some 24),.bin .none .eql (.t 23) (.c (.int .i64 (-1))),none,false,[]⟩] none [0,1,5,6,24])
  (.cond (.t 24)
   (.seq (.ops [⟨(some 25),.mov (.t 5),none,false,[]⟩,
    ⟨(some 4),.mov (.t 25),none,false,[]⟩] none [4])
   .ret)
   .skip))
  (.seq (.ops [⟨(some 26),.mov (.t 5),none,false,[]⟩,
   ⟨(some 27),.bin .none .add (.t 26) (.c (.int .i64 1)),none,false,[]⟩,
   ⟨(some 5),.mov (.t 27),none,false,[]⟩] none [0,1,5,6])
  (.ops [⟨(some 28),.mov (.t 0),none,false,[]⟩,
   ⟨(some 29),.mov (.t 6),none,false,[]⟩,
   ⟨(some 30),.mov (.t 1),none,false,[]⟩,
   ⟨(some 31),.len true (.t 30),none,false,[]⟩,
   ⟨(some 32),.bin .none .add (.t 29) (.t 31),none,false,[]⟩,
   ⟨(some 33),.slice 0 (.t 28) (some (.t 32)) none,none,false,[]⟩,
   ⟨(some 0),.mov (.t 33),none,false,[]⟩] none [0,1,5])))))))))))
def strings_Count_r:List RRes:=[.tmp 4]
def strings_Count_hi:Hi:=⟨[],[(0, "s"),(1, "substr"),(2, "s"),(3, "substr"),(5, "n"),(6, "i")]⟩
def strings_Count_an:An:=(.seq .d (.seq .d (.seq .d (.seq .d (.loop [] [] [] .d)))))
def strings_Count_fi:Fi:=⟨34,strings_Count_c,strings_Count_r,strings_Count_an,strings_Count_hi,none⟩
theorem strings_Count_ok:FiOk Try.prog f_strings_Count strings_Count_fi:=
 ⟨fun _=>by kernel_rfl,fun _ h hlen=>fun_sound (by kernel_rfl) (fn:=Try.f43) (draw_sound _ _) Try.func43 rfl (by kernel_rfl:comp Try.prog 34 _ strings_Count_c=some strings_Count_c) (by kernel_rfl:cRes Try.prog Try.f43.results.toList=some strings_Count_r) hlen h,fun _ h=>nomatch h⟩
def strings_LastIndexByte_c:SCode:=
 (.seq (.ops [⟨(some 4),.mov (.c (.int .i64 0)),none,false,[]⟩] none [0,1])
 (.seq (.ops [⟨(some 5),.mov (.t 0),none,false,[]⟩,
  ⟨(some 6),.mov (.t 1),none,false,[]⟩,
  ⟨(some 7),.call f_internal_bytealg_LastIndexByteString [(.t 5),(.t 6)],none,false,[]⟩,
  ⟨(some 4),.mov (.t 7),none,false,[]⟩] none [4])
 .ret))
def strings_LastIndexByte_r:List RRes:=[.tmp 4]
def strings_LastIndexByte_hi:Hi:=⟨[],[(0, "s"),(1, "c"),(2, "s"),(3, "c")]⟩
def strings_LastIndexByte_an:An:= .d
def strings_LastIndexByte_fi:Fi:=⟨8,strings_LastIndexByte_c,strings_LastIndexByte_r,strings_LastIndexByte_an,strings_LastIndexByte_hi,none⟩
theorem strings_LastIndexByte_ok:FiOk Try.prog f_strings_LastIndexByte strings_LastIndexByte_fi:=
 ⟨fun _=>by kernel_rfl,fun _ h hlen=>fun_sound (by kernel_rfl) (fn:=Try.f44) (draw_sound _ _) Try.func44 rfl (by kernel_rfl:comp Try.prog 8 _ strings_LastIndexByte_c=some strings_LastIndexByte_c) (by kernel_rfl:cRes Try.prog Try.f44.results.toList=some strings_LastIndexByte_r) hlen h,fun _ h=>nomatch h⟩
def internal_bytealg_LastIndexByteString_c:SCode:=
 (.seq (.ops [⟨(some 4),.mov (.c (.int .i64 0)),none,false,[]⟩] none [0,1])
 (.seq (.seq (.ops [⟨(some 6),.mov (.t 0),none,false,[]⟩,
  ⟨(some 7),.len true (.t 6),none,false,[]⟩,
  ⟨(some 8),.bin .none .sub (.t 7) (.c (.int .i64 1)),none,false,[]⟩,
  ⟨(some 5),.mov (.t 8),none,false,[]⟩] none [0,1,5])
 (.block 0 (.loop [0,1] [5] 0
  (.seq (.seq (.ops [⟨(some 9),.mov (.t 5),none,false,[]⟩,
   ⟨(some 10),.bin .none .geq (.t 9) (.c (.int .i64 0)),none,false,[]⟩] none [0,1,5,10])
  (.cond (.t 10)
   .skip
   (.exit 0)))
  (.seq (.block 1 (.seq (.ops [⟨(some 13),.mov (.t 0),none,false,[]⟩,
   ⟨(some 14),.mov (.t 5),none,false,[]⟩,
   ⟨(some 15),.index 1 none false (.t 13) (.t 14),none,false,[]⟩,
   ⟨(some 16),.mov (.t 1),none,false,[]⟩,
   ⟨(some 17),.bin .none .eql (.t 15) (.t 16),none,false,[]⟩] none [0,1,5,17])
  (.cond (.t 17)
   (.seq (.ops [⟨(some 18),.mov (.t 5),none,false,[]⟩,
    ⟨(some 4),.mov (.t 18),none,false,[]⟩] none [4])
   .ret)
   .skip)))
  (.ops [⟨(some 11),.mov (.t 5),none,false,[]⟩,
   ⟨(some 12),.bin .none .sub (.t 11) (.c (.int .i64 1)),none,false,[]⟩,
   ⟨(some 5),.mov (.t 12),none,false,[]⟩] none [0,1,5]))))))
 (.seq (.ops [⟨(some 4),.mov (.c (.int .i64 (-1))),none,false,[]⟩] none [4])
 .ret)))
def internal_bytealg_LastIndexByteString_r:List RRes:=[.tmp 4]
def internal_bytealg_LastIndexByteString_hi:Hi:=⟨[],[(0, "s"),(1, "c"),(2, "s"),(3, "c"),(5, "i")]⟩
def internal_bytealg_LastIndexByteString_an:An:=(.seq .d (.seq (.seq .d (.loop [] [] [] .d)) .d))
def internal_bytealg_LastIndexByteString_fi:Fi:=⟨19,internal_bytealg_LastIndexByteString_c,internal_bytealg_LastIndexByteString_r,internal_bytealg_LastIndexByteString_an,internal_bytealg_LastIndexByteString_hi,none⟩
theorem internal_bytealg_LastIndexByteString_ok:FiOk Try.prog f_internal_bytealg_LastIndexByteString internal_bytealg_LastIndexByteString_fi:=
 ⟨fun _=>by kernel_rfl,fun _ h hlen=>fun_sound (by kernel_rfl) (fn:=Try.f71) (draw_sound _ _) Try.func71 rfl (by kernel_rfl:comp Try.prog 19 _ internal_bytealg_LastIndexByteString_c=some internal_bytealg_LastIndexByteString_c) (by kernel_rfl:cRes Try.prog Try.f71.results.toList=some internal_bytealg_LastIndexByteString_r) hlen h,fun _ h=>nomatch h⟩
end Go.Proofs.Ytpbbahplbgmbcaa
end
section
set_option maxRecDepth 100000
namespace Go.Proofs.Ytpbbahplbgmbcaa
open Go.Vc Go.Fu
theorem pos_Of_vc (hC:Cons Try.prog [])
 (H: ∀(text:List UInt8),(fitS text)→
 ((↑(1:Nat):Int)=(0:Int)→False)∧
 (¬(↑(1:Nat):Int)=(0:Int)→
 ((↑(1:Nat):Int)=(1:Int)→
 (0:Int)≤(0:Int)∧
 (0:Int)<(↑(1:Nat):Int)∧
 inI64 ((↑text.length:Int)-(1:Int))∧
 ∃(I:Int→Prop),
 ∃(m:Int→Nat),
 ((0:Int)=(0:Int)∧
 (0:Int)=(0:Int)∧(0:Int)=(0:Int)∧I ((↑text.length:Int)-(1:Int)))∧
 ∀(i:Int),
 I i→
 ((0:Int)≤i→
 (0:Int)≤i∧
 i<(↑text.length:Int)∧
 ((↑(gt text i).toNat:Int)=(10:Int)→
 inI64 ((↑text.length:Int)-i)∧
 inI64 ((↑text.length:Int)-i-(1:Int))∧
 ((↑text.length:Int),
 (↑(Lib.countByte text (gt [(10:UInt8)] (0:Int))):Int),
 (↑text.length:Int)-i-(1:Int))=
 posOf text)∧
 (¬(↑(gt text i).toNat:Int)=(10:Int)→
 inI64 (i-(1:Int))∧
 (0:Int)=(0:Int)∧
 (0:Int)=(0:Int)∧
 (0:Int)=(0:Int)∧I (i-(1:Int))∧m (i-(1:Int))<m i))∧
 (¬(0:Int)≤i→
 inI64 ((↑text.length:Int)-(-1:Int))∧
 inI64 ((↑text.length:Int)-(-1:Int)-(1:Int))∧
 ((↑text.length:Int),(↑(Lib.countByte text (gt [(10:UInt8)] (0:Int))):Int),
 (↑text.length:Int)-(-1:Int)-(1:Int))=
 posOf text))∧
 (¬(↑(1:Nat):Int)=(1:Int)→
 ∃(I:List UInt8→Int→Prop),
 ∃(m:List UInt8→Int→Nat),
 ((0:Int)=(0:Int)∧(0:Int)=(0:Int)∧(0:Int)=(0:Int)∧I text (0:Int))∧
 ∀(s:List UInt8) (n:Int),I s n→False))):
 Con Try.prog f_pos_Of pos_Of_ct:=⟨pos_Of_ok.able rfl,fun x hx=>
 con_eq hC (L:=[(f_strings_Count,strings_Count_fi),(f_strings_LastIndexByte,strings_LastIndexByte_fi),(f_internal_bytealg_LastIndexByteString,internal_bytealg_LastIndexByteString_fi)]) (⟨strings_Count_ok,strings_LastIndexByte_ok,internal_bytealg_LastIndexByteString_ok,trivial⟩) pos_Of_ok (ct:=pos_Of_ct) (depth:=4) rfl (by kernel_rfl) x (H (@id (List UInt8) x) (mpr' hx (by kernel_rfl))) (by kernel_rfl)⟩
theorem poly_Of_vc (hC:Cons Try.prog [])
 (H: ∀(text:List UInt8),(fitS text)→
 ∃(I:Int→Int→Int→Prop),
 ∃(m:Int→Int→Int→Nat),
 ((0:Int)=(0:Int)∧(0:Int)=(0:Int)∧I (0:Int) (0:Int) (1:Int))∧
 ∀(x h h_1:Int),
 I x h h_1→
 (x<(↑text.length:Int)→
 inI64 (h*(257:Int))∧
 (0:Int)≤x∧
 x<(↑text.length:Int)∧
 inI64 (h*(257:Int)+(↑(gt text x).toNat:Int))∧
 inI64 (h*(257:Int)+(↑(gt text x).toNat:Int)+(1:Int))∧
 (2147483647:Int)≠(0:Int)∧
 inI64 (h_1*(257:Int))∧
 (2147483647:Int)≠(0:Int)∧
 inI64 (x+(1:Int))∧
 (0:Int)=(0:Int)∧
 (0:Int)=(0:Int)∧
 I (x+(1:Int))
 ((h*(257:Int)+(↑(gt text x).toNat:Int)+(1:Int)).tmod
 (2147483647:Int))
 ((h_1*(257:Int)).tmod (2147483647:Int))∧
 m (x+(1:Int))
 ((h*(257:Int)+(↑(gt text x).toNat:Int)+(1:Int)).tmod
 (2147483647:Int))
 ((h_1*(257:Int)).tmod (2147483647:Int))<
 m x h h_1)∧
 (¬x<(↑text.length:Int)→(h,h_1)=polyOf text)):
 Con Try.prog f_poly_Of poly_Of_ct:=⟨poly_Of_ok.able rfl,fun x hx=>
 con_eq hC (L:=[]) (trivial) poly_Of_ok (ct:=poly_Of_ct) (depth:=0) rfl (by kernel_rfl) x (H (@id (List UInt8) x) (mpr' hx (by kernel_rfl))) (by kernel_rfl)⟩
theorem pos_May_vc (hC:Cons Try.prog [])
 (H: ∀(p:Int×Int×Int),(True)→
 (((p.fst<0∨p.snd.fst<0)∨p.snd.snd<0)∨1099511627776<max (max p.fst p.snd.fst) p.snd.snd→
 false=bo (posOk p))∧
 (¬(((p.fst<0∨p.snd.fst<0)∨p.snd.snd<0)∨1099511627776<max (max p.fst p.snd.fst) p.snd.snd)→
 inI64 (p.snd.fst+p.snd.snd)∧
 bo (p.snd.fst+p.snd.snd≤p.fst∧(0<p.snd.fst∨p.snd.snd=p.fst))=bo (posOk p))):
 Con Try.prog f_pos_May pos_May_ct:=⟨pos_May_ok.able rfl,fun x hx=>
 con_eq hC (L:=[]) (trivial) pos_May_ok (ct:=pos_May_ct) (depth:=0) rfl (by kernel_rfl) x (H (@id ((Int×Int×Int)) x) (mpr' hx (by kernel_rfl))) (by kernel_rfl)⟩
theorem pos_Join_vc (hC:Cons Try.prog [(f_pos_May,pos_May_ct)])
 (H: ∀(a:Int×Int×Int) (b:Int×Int×Int),(True)→
 True∧
 (¬¬bo (posOk (a.fst,a.snd.fst,a.snd.snd))=true→True)∧
 (¬bo (posOk (a.fst,a.snd.fst,a.snd.snd))=true∨ ¬bo (posOk (b.fst,b.snd.fst,b.snd.snd))=true→
 (0,0,0)=(posJoin a b).fst∧4=(posJoin a b).snd)∧
 (¬(¬bo (posOk (a.fst,a.snd.fst,a.snd.snd))=true∨ ¬bo (posOk (b.fst,b.snd.fst,b.snd.snd))=true)→
 inI64 (a.fst+b.fst)∧
 inI64 (a.snd.fst+b.snd.fst)∧
 (b.snd.fst=0→
 inI64 (b.snd.snd+a.snd.snd)∧
 True∧
 (¬bo (posOk (a.fst+b.fst,a.snd.fst+b.snd.fst,b.snd.snd+a.snd.snd))=true→
 (0,0,0)=(posJoin a b).fst∧4=(posJoin a b).snd)∧
 (¬¬bo (posOk (a.fst+b.fst,a.snd.fst+b.snd.fst,b.snd.snd+a.snd.snd))=true→
 (a.fst+b.fst,a.snd.fst+b.snd.fst,b.snd.snd+a.snd.snd)=(posJoin a b).fst∧
 0=(posJoin a b).snd))∧
 (¬b.snd.fst=0→
 True∧
 (¬bo (posOk (a.fst+b.fst,a.snd.fst+b.snd.fst,b.snd.snd))=true→
 (0,0,0)=(posJoin a b).fst∧4=(posJoin a b).snd)∧
 (¬¬bo (posOk (a.fst+b.fst,a.snd.fst+b.snd.fst,b.snd.snd))=true→
 (a.fst+b.fst,a.snd.fst+b.snd.fst,b.snd.snd)=(posJoin a b).fst∧0=(posJoin a b).snd)))):
 Con Try.prog f_pos_Join pos_Join_ct:=⟨pos_Join_ok.able rfl,fun x hx=>
 con_eq hC (L:=[]) (trivial) pos_Join_ok (ct:=pos_Join_ct) (depth:=0) rfl (by kernel_rfl) x (H (@id ((Int×Int×Int)×(Int×Int×Int)) x).1 (@id ((Int×Int×Int)×(Int×Int×Int)) x).2 (mpr' hx (by kernel_rfl))) (by kernel_rfl)⟩
theorem poly_May_vc (hC:Cons Try.prog [])
 (H: ∀(h:Int×Int),(True)→
 bo (((0≤h.fst∧h.fst<2147483647)∧0<h.snd)∧h.snd<2147483647)=bo (polyOk h)):
 Con Try.prog f_poly_May poly_May_ct:=⟨poly_May_ok.able rfl,fun x hx=>
 con_eq hC (L:=[]) (trivial) poly_May_ok (ct:=poly_May_ct) (depth:=0) rfl (by kernel_rfl) x (H (@id ((Int×Int)) x) (mpr' hx (by kernel_rfl))) (by kernel_rfl)⟩
theorem poly_Join_vc (hC:Cons Try.prog [(f_poly_May,poly_May_ct)])
 (H: ∀(a:Int×Int) (b:Int×Int),(True)→
 True∧
 (¬¬bo (polyOk (a.fst,a.snd))=true→True)∧
 (¬bo (polyOk (a.fst,a.snd))=true∨ ¬bo (polyOk (b.fst,b.snd))=true→
 ((0:Int),(0:Int))=(polyJoin a b).fst∧(4:Int)=(polyJoin a b).snd)∧
 (¬(¬bo (polyOk (a.fst,a.snd))=true∨ ¬bo (polyOk (b.fst,b.snd))=true)→
 inI64 (a.fst*b.snd)∧
 inI64 (a.fst*b.snd+b.fst)∧
 (2147483647:Int)≠(0:Int)∧
 inI64 (a.snd*b.snd)∧
 (2147483647:Int)≠(0:Int)∧
 ((a.fst*b.snd+b.fst).tmod (2147483647:Int),(a.snd*b.snd).tmod (2147483647:Int))=
 (polyJoin a b).fst∧
 (0:Int)=(polyJoin a b).snd)):
 Con Try.prog f_poly_Join poly_Join_ct:=⟨poly_Join_ok.able rfl,fun x hx=>
 con_eq hC (L:=[]) (trivial) poly_Join_ok (ct:=poly_Join_ct) (depth:=0) rfl (by kernel_rfl) x (H (@id ((Int×Int)×(Int×Int)) x).1 (@id ((Int×Int)×(Int×Int)) x).2 (mpr' hx (by kernel_rfl))) (by kernel_rfl)⟩
theorem ref_PosOf_vc (hC:Cons Try.prog [])
 (H: ∀(text:List UInt8),(fitS text)→
 ∃(I:Int→Int→Int→Int→Prop),
 ∃(m:Int→Int→Int→Int→Nat),
 ((0:Int)=(0:Int)∧
 (0:Int)=(0:Int)∧(0:Int)=(0:Int)∧I (0:Int) (0:Int) (0:Int) (0:Int))∧
 ∀(i p p_1 p_2:Int),
 I i p p_1 p_2→
 (i<(↑text.length:Int)→
 inI64 (p+(1:Int))∧
 inI64 (p_2+(1:Int))∧
 (0:Int)≤i∧
 i<(↑text.length:Int)∧
 ((↑(gt text i).toNat:Int)=(10:Int)→
 inI64 (p_1+(1:Int))∧
 inI64 (i+(1:Int))∧
 (0:Int)=(0:Int)∧
 (0:Int)=(0:Int)∧
 (0:Int)=(0:Int)∧
 I (i+(1:Int)) (p+(1:Int)) (p_1+(1:Int)) (0:Int)∧
 m (i+(1:Int)) (p+(1:Int)) (p_1+(1:Int)) (0:Int)<m i p p_1 p_2)∧
 (¬(↑(gt text i).toNat:Int)=(10:Int)→
 inI64 (i+(1:Int))∧
 (0:Int)=(0:Int)∧
 (0:Int)=(0:Int)∧
 (0:Int)=(0:Int)∧
 I (i+(1:Int)) (p+(1:Int)) p_1 (p_2+(1:Int))∧
 m (i+(1:Int)) (p+(1:Int)) p_1 (p_2+(1:Int))<m i p p_1 p_2))∧
 (¬i<(↑text.length:Int)→(p,p_1,p_2)=posOf text)):
 Con Try.prog f_ref_PosOf ref_PosOf_ct:=⟨ref_PosOf_ok.able rfl,fun x hx=>
 con_eq hC (L:=[]) (trivial) ref_PosOf_ok (ct:=ref_PosOf_ct) (depth:=0) rfl (by kernel_rfl) x (H (@id (List UInt8) x) (mpr' hx (by kernel_rfl))) (by kernel_rfl)⟩
theorem ref_PolyOf_vc (hC:Cons Try.prog [])
 (H: ∀(text:List UInt8),(fitS text)→
 inI64 ((↑text.length:Int)-(1:Int))∧
 ∃(I:Int→Int→Int→Prop),
 ∃(m:Int→Int→Int→Nat),
 ((0:Int)=(0:Int)∧(0:Int)=(0:Int)∧I (1:Int) (0:Int) ((↑text.length:Int)-(1:Int)))∧
 ∀(power sum i:Int),
 I power sum i→
 ((0:Int)≤i→
 (0:Int)≤i∧
 i<(↑text.length:Int)∧
 inI64 ((↑(gt text i).toNat:Int)+(1:Int))∧
 inI64 (((↑(gt text i).toNat:Int)+(1:Int))*power)∧
 inI64 (sum+((↑(gt text i).toNat:Int)+(1:Int))*power)∧
 (2147483647:Int)≠(0:Int)∧
 inI64 (power*(257:Int))∧
 (2147483647:Int)≠(0:Int)∧
 inI64 (i-(1:Int))∧
 (0:Int)=(0:Int)∧
 (0:Int)=(0:Int)∧
 I ((power*(257:Int)).tmod (2147483647:Int))
 ((sum+((↑(gt text i).toNat:Int)+(1:Int))*power).tmod
 (2147483647:Int))
 (i-(1:Int))∧
 m ((power*(257:Int)).tmod (2147483647:Int))
 ((sum+((↑(gt text i).toNat:Int)+(1:Int))*power).tmod
 (2147483647:Int))
 (i-(1:Int))<
 m power sum i)∧
 (¬(0:Int)≤i→(sum,power)=polyOf text)):
 Con Try.prog f_ref_PolyOf ref_PolyOf_ct:=⟨ref_PolyOf_ok.able rfl,fun x hx=>
 con_eq hC (L:=[]) (trivial) ref_PolyOf_ok (ct:=ref_PolyOf_ct) (depth:=0) rfl (by kernel_rfl) x (H (@id (List UInt8) x) (mpr' hx (by kernel_rfl))) (by kernel_rfl)⟩
end Go.Proofs.Ytpbbahplbgmbcaa
end
section
set_option maxRecDepth 100000
namespace Go.Proofs.Ytpbbahplbgmbcaa
open Go.Vc Go.Fu
theorem pos_Of_hC:Cons Try.prog []:=trivial
theorem pos_Of_con:Con Try.prog f_pos_Of pos_Of_ct:=pos_Of_vc pos_Of_hC fun s hs=>by
 simp only [inI_iff,true_and,and_true,ne_eq,Int.reduceEq,not_false_eq_true,Int.toNat_zero,ten_iff] at*
 refine ⟨fun c=>by omega,fun _=>⟨fun _=>⟨by omega,by omega,by omega,fun i=> -1≤i∧i<s.length∧ ∀j:Int,i<j→j<s.length→gt s j≠10,fun i=>(i+1).toNat,⟨by omega,by omega,fun j a b=>by omega⟩,?_⟩,fun c=>by omega⟩⟩
 rintro i ⟨h0,h1,h2⟩
 dsimp only
 have bd:=posOf_bd s
 have ec:(↑(Lib.countByte s (gt [(10:UInt8)] 0)):Int)=(posOf s).2.1:=(posOf_count s).symm
 refine ⟨fun t=>⟨t,h1,fun u=>⟨by omega,by omega,?_⟩,fun u=>⟨by omega,⟨by omega,by omega,fun j a b=>?_⟩,by omega⟩⟩,fun t=>⟨by omega,by omega,?_⟩⟩
 ·rw [ec,←posOf_last t h1 u h2,←bd.1]
 ·by_cases e:j=i
  ·rw [e];exact u
  ·exact h2 j (by omega) b
 ·have:=posOf_none fun j a b=>h2 j (by omega) b
  rw [ec,show (s.length:Int)- -1-1=s.length by omega]
  refine Prod.ext ?_ (Prod.ext rfl ?_)
  ·exact bd.1.symm
  ·exact this.symm
theorem poly_Of_hC:Cons Try.prog []:=trivial
theorem poly_Of_con:Con Try.prog f_poly_Of poly_Of_ct:=poly_Of_vc poly_Of_hC fun s hs=>by
 simp only [inI_iff,true_and,and_true,ne_eq,Int.reduceEq,not_false_eq_true,Int.toNat_zero]
 refine ⟨fun x a b=>0≤x∧x≤s.length∧(a,b)=polyOf (s.take x.toNat),fun x _ _=>(s.length-x).toNat,by simp [polyOf],fun x a b ⟨h0,h1,h2⟩=>?_⟩
 dsimp only
 refine ⟨fun h=>?_,fun h=>?_⟩
 ·have bd:=polyOf_bd (s.take x.toNat)
  rw [←h2] at bd
  simp only at bd
  have hb:=byte_lt (gt s x)
  have hb0:=byte_nn (gt s x)
  unfold fitS at hs
  rw [Int.tmod_eq_emod_of_nonneg (by omega),Int.tmod_eq_emod_of_nonneg (by omega)]
  refine ⟨by omega,h0,h,by omega,by omega,by omega,by omega,⟨by omega,by omega,?_⟩,by omega⟩
  rw [take_gt h0 h,polyOf_snoc,←h2]
  rfl
 ·rw [h2,List.take_of_length_le (by omega)]
theorem pos_May_hC:Cons Try.prog []:=trivial
theorem pos_May_con:Con Try.prog f_pos_May pos_May_ct:=pos_May_vc pos_May_hC fun p _=>(by
 simp only [bo_eq_bo,false_bo,posOk,inI_iff]
 omega)
theorem pos_Join_hC:Cons Try.prog [(f_pos_May,pos_May_ct)]:=⟨pos_May_con,trivial⟩
theorem pos_Join_con:Con Try.prog f_pos_Join pos_Join_ct:=pos_Join_vc pos_Join_hC fun a b _=>by
 simp only [prod_eta,bo_true,inI_iff,posJoin]
 refine ⟨trivial,fun _=>trivial,fun h=>?_,fun h=>?_⟩
 ·rw [if_neg fun q=>h.elim (fun h=>h q.1) (fun h=>h q.2.1)]
  exact ⟨rfl,rfl⟩
 ·have h1:posOk a:=Classical.byContradiction fun q=>h (.inl q)
  have h2:posOk b:=Classical.byContradiction fun q=>h (.inr q)
  have b1:=h1
  have b2:=h2
  unfold posOk at b1 b2
  refine ⟨by omega,by omega,fun hz=>⟨by omega,trivial,fun q=>?_,fun q=>?_⟩,fun hz=>⟨trivial,fun q=>?_,fun q=>?_⟩⟩
  all_goals
   have e:posAdd a b=(a.1+b.1,a.2.1+b.2.1,if b.2.1=0 then a.2.2+b.2.2 else b.2.2):=rfl
   first | rw [if_pos hz] at e | rw [if_neg hz] at e
   try rw [Int.add_comm b.2.2 a.2.2] at q
   try rw [Int.add_comm b.2.2 a.2.2]
   rw [←e] at q
  ·rw [if_neg fun z=>q z.2.2];exact ⟨rfl,rfl⟩
  ·rw [if_pos ⟨h1,h2,Classical.byContradiction q⟩,e];exact ⟨rfl,rfl⟩
  ·rw [if_neg fun z=>q z.2.2];exact ⟨rfl,rfl⟩
  ·rw [if_pos ⟨h1,h2,Classical.byContradiction q⟩,e];exact ⟨rfl,rfl⟩
theorem poly_May_hC:Cons Try.prog []:=trivial
theorem poly_May_con:Con Try.prog f_poly_May poly_May_ct:=poly_May_vc poly_May_hC fun h _=>(by
 simp only [bo_eq_bo,polyOk]
 omega)
theorem poly_Join_hC:Cons Try.prog [(f_poly_May,poly_May_ct)]:=⟨poly_May_con,trivial⟩
theorem poly_Join_con:Con Try.prog f_poly_Join poly_Join_ct:=poly_Join_vc poly_Join_hC fun a b _=>by
 simp only [prod_eta,bo_true,inI_iff,polyJoin]
 refine ⟨trivial,fun _=>trivial,fun h=>?_,fun h=>?_⟩
 ·rw [if_neg fun q=>h.elim (fun h=>h q.1) (fun h=>h q.2)]
  exact ⟨rfl,rfl⟩
 ·have h1:polyOk a:=Classical.byContradiction fun q=>h (.inl q)
  have h2:polyOk b:=Classical.byContradiction fun q=>h (.inr q)
  rw [if_pos ⟨h1,h2⟩]
  unfold polyOk at h1 h2
  have m1:=mulB h1.1 h1.2.1 (Int.le_of_lt h2.2.2.1) h2.2.2.2
  have m2:=mulB (Int.le_of_lt h1.2.2.1) h1.2.2.2 (Int.le_of_lt h2.2.2.1) h2.2.2.2
  rw [Int.tmod_eq_emod_of_nonneg (by omega),Int.tmod_eq_emod_of_nonneg (by omega)]
  exact ⟨by omega,by omega,by omega,by omega,by omega,rfl,rfl⟩
theorem ref_PosOf_hC:Cons Try.prog []:=trivial
theorem ref_PosOf_con:Con Try.prog f_ref_PosOf ref_PosOf_ct:=ref_PosOf_vc ref_PosOf_hC fun s hs=>by
 simp only [inI_iff,true_and,and_true,ne_eq,Int.reduceEq,not_false_eq_true,Int.toNat_zero]
 refine ⟨fun i p q r=>0≤i∧i≤s.length∧(p,q,r)=posOf (s.take i.toNat)∧p=i∧0≤q∧q≤i∧0≤r∧r≤i,fun i _ _ _=>(s.length-i).toNat,by simp [posOf],?_⟩
 rintro i p q r ⟨h0,h1,h2,h3,h4,h5,h6,h7⟩
 dsimp only
 refine ⟨fun t=>⟨by omega,by omega,h0,t,fun u=>⟨by omega,by omega,⟨by omega,by omega,?_,by omega,by omega,by omega,by omega,by omega⟩,by omega⟩,fun u=>⟨by omega,⟨by omega,by omega,?_,by omega,by omega,by omega,by omega,by omega⟩,by omega⟩⟩,fun t=>?_⟩
 ·rw [posOf_succ h0 t,←h2]
  simp only [posStep,if_pos (byte10.1 u)]
 ·rw [posOf_succ h0 t,←h2]
  simp only [posStep,if_neg fun e=>u (byte10.2 e)]
 ·rw [h2,List.take_of_length_le (by omega)]
theorem ref_PolyOf_hC:Cons Try.prog []:=trivial
theorem ref_PolyOf_con:Con Try.prog f_ref_PolyOf ref_PolyOf_ct:=ref_PolyOf_vc ref_PolyOf_hC fun s hs=>by
 simp only [inI_iff,true_and,and_true,ne_eq,Int.reduceEq,not_false_eq_true,Int.toNat_zero]
 unfold fitS at hs
 refine ⟨by omega,fun p q i=> -1≤i∧i<s.length∧(q,p)=polyOf (s.drop (i+1).toNat),fun _ _ i=>(i+1).toNat,⟨by omega,by omega,?_⟩,fun p q i ⟨h0,h1,h2⟩=>?_⟩
 ·rw [List.drop_of_length_le (by omega)];rfl
 dsimp only
 refine ⟨fun h=>?_,fun h=>?_⟩
 ·have bd:=polyOf_bd (s.drop (i+1).toNat)
  rw [←h2] at bd
  simp only at bd
  have hb:=byte_lt (gt s i)
  have hb0:=byte_nn (gt s i)
  have m:0≤((gt s i).toNat+1:Int)*p∧((gt s i).toNat+1:Int)*p≤4611686009837453316:=mulB (by omega) (by omega) bd.2.2.1 bd.2.2.2
  rw [Int.tmod_eq_emod_of_nonneg (by omega),Int.tmod_eq_emod_of_nonneg (by omega)]
  refine ⟨h,h1,by omega,by omega,by omega,by omega,by omega,⟨by omega,by omega,?_⟩,by omega⟩
  rw [show i-1+1=i by omega,drop_gt h h1,polyOf_cons,←h2]
  exact Prod.ext (by simp only;omega) rfl
 ·rw [h2,show (i+1).toNat=0 by omega,List.drop_zero]
end Go.Proofs.Ytpbbahplbgmbcaa
end
section
set_option maxRecDepth 100000
namespace Go.Proofs.Ytpbbahplbgmbcaa
open Go.ChangeShapes Go.WideShapes Go.ChangeAt Go.RowKit Go.Vc
theorem own_knob:ownKnob Try.prog.godebug=none:=by kernel_rfl
theorem laid_out:laidOutB Try.prog=true:=by kernel_rfl
theorem bulk_law (H:Type):Bulk (H:=H) Rows.uptoBulk Rows.uptoBulkAll where
 int k n:=by simp [Rows.uptoBulk]
 bool b:=by simp [Rows.uptoBulk]
 str s:=by simp [Rows.uptoBulk]
 nil:=by simp [Rows.uptoBulk]
 slice es sp:=by simp only [Rows.uptoBulk];omega
 agg ps:=by simp [Rows.uptoBulk]
 none:=by simp [Rows.uptoBulkAll]
 cons d r:=by simp [Rows.uptoBulkAll]
theorem par_ok {ts:List TypeId} (h:(ts.all fun t=>Try.prog.readableRec t && decide (t<Try.prog.types.size))=true): ∀t∈ts,Try.prog.readableRec t=true∧t<Try.prog.types.size:=by
 simpa using h
abbrev crewFinds_tys:Tys:=(.cons (.sl .str) (.cons .str .nil))
abbrev law_CrewFinds_ct:Ct:=lawCt crewFinds_tys
abbrev crewFars_tys:Tys:=(.cons (.sl .str) .nil)
abbrev law_CrewFars_ct:Ct:=lawCt crewFars_tys
abbrev crewPlaces_tys:Tys:=(.cons (.sl .str) .nil)
abbrev law_CrewPlaces_ct:Ct:=lawCt crewPlaces_tys
end Go.Proofs.Ytpbbahplbgmbcaa
end
section
namespace Go.Vc
open Go.Conc Go.Vk Go.WideShapes Go.ChangeShapes Go.ChangeAt
section
variable {H : Type} {enc : TypeId × Value → H} {P : Program} {bulk : DataW H → Nat} {all : List (DataW H) → Nat}
end
end Go.Vc
end
section
namespace Go
open Go.ChangeShapes Go.Conc
section
variable {H : Type} {enc : TypeId × Value → H}
theorem returnsInLeavingWide_of_cond {a:Assume} {C:Checked} {os:Os} {f:FuncId} {fn:Func} {s:OpenSpec} {k:(H:Type)→List (DataW H)→Bool} (hk:s.cond=some k) {F:Stop.Interp} {conds:List PathCond} {apart fresh handsOn again:Bool}
  (own:ownKnob C.prog.godebug=none) (started:os.Started) (hfn:C.prog.funcs[f]?=some fn)
  (witness: ∃(w:World) (tape:Tape) (i:Input),w.os=os∧(w.forCall tape i).Shaped C.prog∧i.vars=[]∧Input.okWide C.prog (w.forCall tape i) .any w.heap.size f i∧s.pre6 enc C.prog fn conds apart (w.forCall tape i).memory i.args∧a.holds C.prog (lone (Frame.enter C.prog f i.args .normal) [] (w.forCall tape i)))
  (runs: ∀(W:World) (args:Array Value) (ds gs:List (DataW H)) (before:List MemPlace),(∀(j:Nat) t v,fn.params[j]?=some t→args[j]?=some v→Value.okWide C.prog W .any 0 t v)→
   DataW.Whole enc C.prog fn.params.toList s.vars apart W args.toList ds gs before→k H (ds++gs)=true→(DataW.weightsEach C.prog (fn.params.toList++s.bare.plain.varTypes C.prog) (ds++gs)).all (· ≤reachBytes)=true→
   ∃M last o w' t',runNT C.prog (M+1) (solo (G (Frame.enter C.prog f args .normal) []) W) #[]=(.ended o w',t')∧runN C.prog M (solo (G (Frame.enter C.prog f args .normal) []) W)= .next last∧step C.prog last= .ended o w'∧Conc.Good C.prog (fun v W'=>(s.at F).post enc C.prog fn apart fresh handsOn again W args v W') last o w' t'):
  ReturnsInLeavingWide a C os f .any (s.pre6 enc C.prog fn conds apart) ((s.at F).post enc C.prog fn apart fresh handsOn again):=by
 refine returnsInLeavingWide_of_good own started witness fun w tape i _ _ _ hok hpre _=>?_
 obtain ⟨_,_,_,fn',hfn',_,_,_,_,hval⟩:=hok
 cases Option.some.inj (hfn'.symm.trans hfn)
 obtain ⟨ds,gs,before,hw,_,hkk⟩:=(OpenSpec.pre_some hk conds apart _ _).1 hpre.1
 obtain ⟨M,last,o,w',t',h1,h2,h3,h4⟩:=runs (w.forCall tape i) i.args ds gs before hval (DataW.Whole.of_heap (w':=w.forCall tape i) (by rfl) hw) hkk (hpre.2.weights hw)
 exact ⟨M,last,o,w',t',h1,h2,h3,h4.mono fun v hp=>ChangeSpec.post_blind hp⟩
end
theorem OpenClaim.holds_of_cond_leaving {p:Pinned} {s:OpenSpec} {c:OpenClaim} (f:FuncId) (fn:Func)
  (hn:c.program=p.name) (hs:c.sum=p.sum) (hsp:c.spec=s.name)
  (hstart:c.start= .entering) (hout:c.outside=[]) (hin:c.inits=[]) (hun:c.under=none) (hi4:c.initsInPlace=[]∧c.initsUnfollowed=false∧c.initsRecurse=false∧c.initsNamed=[]∧c.initsPassed=[]) (hnb:c.noBlocks=false) (hlv:c.leaving=true) (hfo:c.followed=none) (hnar:c.narrowed=s.cond.isSome) (hstill:c.still=false)
  (hfn:p.checked.prog.funcNamed c.func=some f) (hf:p.checked.prog.funcs[f]?=some fn) (closed:joinedFacts p.checked.prog f fn s.bare c=true)
  (hinst:fn.isInstance p.checked.prog c.origin c.targs) (hwrap:fn.isWrapper p.checked.prog c.wrapper c.mainSum)
  (h: ∀os:Os,os.Started→ ∀(H:Type) (enc:TypeId×Value→H),(∀a b,enc a=enc b→a=b)→ ∀F:Stop.Interp,
   ReturnsInLeavingWide c.assume p.checked os f .any (c.pre enc p.checked.prog fn s) ((s.at F).post enc p.checked.prog fn c.apart c.fresh c.handsOn c.again)):c.holds p s:=by
 simp only [joinedFacts,Bool.and_eq_true,beq_iff_eq,Array.all_eq_true_iff_forall_mem,List.all_eq_true,decide_eq_true_eq] at closed
 obtain ⟨⟨⟨⟨⟨⟨⟨⟨⟨⟨⟨⟨⟨⟨⟨⟨⟨⟨⟨⟨⟨⟨⟨⟨⟨⟨⟨⟨⟨⟨⟨a1,a2⟩,a3⟩,a4⟩,a5⟩,a6⟩,a7⟩,a8⟩,a9⟩,b1⟩,b2⟩,b3⟩,b4⟩,b5⟩,b6⟩,b7⟩,b8⟩,b8'⟩,b9⟩,c1⟩,c2⟩,c3⟩,c4⟩,c5⟩,c5'⟩,c6⟩,c6'⟩,c6''⟩,c7⟩,c8⟩,c9⟩,d1⟩:=closed
 have quiet: ∀os:Os,Stop.quiet p.checked.prog os:=fun os k hk=>by rw [a9] at hk;cases hk
 refine ⟨a1,hn,hs,hsp,a2,a3,by unfold OpenClaim.startFits;rw [hstart];exact c6,by unfold OpenClaim.startTold;rw [hstart];exact ⟨hin,hun,hi4⟩,f,fn,hfn,hf,⟨a4,c1⟩,(fun hb=>by rw [hnb] at hb;cases hb),by unfold OpenClaim.namedList;rw [hfo];exact a5,hinst,hwrap,
  a6.trans a7.symm,⟨a8.trans a9.symm,by unfold Program.envWorded;rw [a9];rfl,c5'⟩,b1,b2,b3,b4,b5,⟨b6,c9,d1⟩,⟨b7,c2⟩,⟨b8,c3,c7,c8⟩,⟨c4,c6',c6'',b8'⟩,(by rw [hout,hnar];cases hsh:c.shortTexts with | none=>simp | some _=>rw [hsh] at c5;cases c5),fun n hn'=>varReadable_some (b9 n hn'),
  ⟨_,by unfold OpenClaim.world;rw [hout,hstart];exact WideRow.started_initial,quiet _⟩,[],by unfold OpenClaim.lists;rw [hfo],fun os st _ H enc inj=>?_⟩
 have st':os.Started:=by unfold OpenClaim.world at st;rw [hout,hstart] at st;exact st
 rw [OpenClaim.post_not_still hstill]
 unfold OpenClaim.form
 rw [hstart,a6]
 intro F
 rw [show c.okInput=Input.okWide by unfold OpenClaim.okInput;rw [hnb],show c.atReturn p.checked.prog=leavingAtReturn p.checked.prog by unfold OpenClaim.atReturn;rw [hlv],show c.always p.checked.prog []=nothingAlways by unfold OpenClaim.always;rw [hfo]]
 show ReturnsInOpen _ _ _ _ _ _ _ _ (s.post enc p.checked.prog fn F c.outside c.apart c.fresh c.handsOn c.again) _ _
 rw [show s.post enc p.checked.prog fn F c.outside c.apart c.fresh c.handsOn c.again=(s.at F).post enc p.checked.prog fn c.apart c.fresh c.handsOn c.again by rw [hout];rfl]
 exact h os st' H enc inj F c6
end Go
namespace Go.Vc
open Go.Conc Go.Vk Go.WideShapes Go.ChangeShapes Go.ChangeAt
section
variable {H : Type} {enc : TypeId × Value → H} {P : Program} {bulk : DataW H → Nat} {all : List (DataW H) → Nat}
theorem crew_contract_upto {fn:Func} {f:FuncId} {s:ChangeSpec} {tb:TypeId} {us:Tys} {n:Nat} {par:Array TypeId} (hps:fn.params=par) (hb:Bulk bulk all) (hl:laidOutB P=true) (hpar: ∀t∈par.toList,P.readableRec t=true∧t<P.types.size) (hsv:s.vars=[])
  (hsp: ∀ds:List (DataW H),ds.length=par.toList.length→s.fn H ds={results:=[.lit (.bool true)],args:=ds}) (hrt:fn.resultTypes= #[tb]) (htb:P.underlying tb=some .bool) (hu:tysOf P n par.toList=some us)
  {args:Array Value} {ds gs:List (DataW H)} {before:List MemPlace} {W:World} {apart fresh handsOn again:Bool}
  (law: ∀x:Ts us,okTs us x→wtTs us x≤all (ds++gs)→RelL noE (allF (viewOf (oldG W) W)) (viewOf (oldG W) W) (encAs us x) args.toList→Vway P alone (SoloStop P (· = .bool true)) (G (Go.Frame.enter P f args .normal) []) (viewOf (oldG W) W))
  (hval: ∀(j:Nat) t v,fn.params[j]?=some t→args[j]?=some v→Value.okWide P W .any 0 t v)
  (hW:DataW.Whole enc P fn.params.toList s.vars apart W args.toList ds gs before) (hz:(DataW.weightsEach P (fn.params.toList++s.plain.varTypes P) (ds++gs)).all (· ≤reachBytes)=true):
  ∃M last o w' t',runNT P (M+1) (solo (G (Go.Frame.enter P f args .normal) []) W) #[]=(.ended o w',t')∧runN P M (solo (G (Go.Frame.enter P f args .normal) []) W)= .next last∧Go.step P last= .ended o w'∧
   Go.Conc.Good P (fun v W'=>s.post enc P fn apart fresh handsOn again W args v W') last o w' t':=by
 subst hps
 have hW0:=hW
 obtain ⟨p,q,hA,hV,_,_,_⟩:=hW
 rw [hsv] at hV
 obtain ⟨rfl,_⟩:=trodVars_none hV
 have hR: ∀x∈DataW.weightsEach P fn.params.toList ds,x≤reachBytes:=by
  have mono: ∀(ts us:List TypeId) (ds es:List (DataW H)),∀x∈DataW.weightsEach P ts ds,ts.length=ds.length→x∈DataW.weightsEach P (ts++us) (ds++es):=by
   intro ts
   induction ts with
   | nil=>intro us ds es x hx _;cases ds<;>simp [DataW.weightsEach] at hx
   | cons t ts ih=>
    intro us ds es x hx hl
    cases ds with
    | nil=>simp [DataW.weightsEach] at hx
    | cons d ds=>
     simp only [DataW.weightsEach,List.mem_append,List.cons_append] at hx ⊢
     rcases hx with hx | hx
     ·exact .inl hx
     ·exact .inr (ih us ds es x hx (by simpa using hl))
  have hl:fn.params.toList.length=ds.length:=by
   have: ∀(ts:List TypeId) (vs:List Value) (ds:List (DataW H)) (ps:List MemPlace),DataW.TrodAll enc P W 0 (fun _=>true) true ts vs ds ps→ts.length=ds.length:=by
    intro ts
    induction ts with
    | nil=>intro vs ds ps h;obtain ⟨_,rfl,_⟩:=trodAll_nil h;rfl
    | cons t ts ih=>
     intro vs ds ps h
     obtain ⟨v,vs',d,ds',p,q,_,rfl,_,_,h2⟩:=trodAll_cons h
     simp [ih _ _ _ h2]
   exact this _ _ _ _ hA
  intro x hx
  have:=List.all_eq_true.1 hz x (mono _ _ _ _ x hx hl)
  simpa using this
 obtain ⟨hlen,x,h1,h2,h3⟩:=reads_args hb _ us _ ds p hu (fun j t v a b=>hval j t v (by simpa using a) (by simpa using b)) hA hR
 have h1':RelL noE (allF (viewOf (oldG W) W)) (viewOf (oldG W) W) (encAs us x) args.toList:=
  RelL.cells (fun _ _ h=>h) (fun b hb=>by rw [show allF (viewOf (oldG W) W) b=(b<(viewOf (oldG W) W).heap.size) from rfl,oldG_size];exact hb) (fun b _ o z q=>oldG_cell q) _ h1
 obtain ⟨M,last,o,w',t',g1,g2,g3,g4⟩:=crew_good (law x h2 (by simpa using h3) h1')
 refine ⟨M,last,o,w',t',g1,g2,g3,g4.mono fun v hp=>?_⟩
 obtain ⟨hv,k1,k2,k3,k4,k5⟩:=hp
 have hv:v= .bool true:=hv
 subst hv
 exact post_of_below hl hpar hsv hW0 (hsp ds (by simpa using hlen)) hrt htb ⟨k3,k5,k4,k1,k2⟩
end
end Go.Vc
end
section
set_option maxRecDepth 100000
namespace Go.Proofs.Ytpbbahplbgmbcaa
open Go.Conc Go.ChangeShapes Go.WideShapes Go.ChangeAt Go.RowKit Go.Vc Go.Vk
theorem seen_startP (W:World):Seen (Go.Proofs.Pl.C0 (viewOf (oldG W) W)) (viewOf (oldG W) W):=⟨fun a x h=>h.2,fun a x h=>h.1,fun a x h=>by
 obtain ⟨h1,h2⟩:=h
 by_cases hb:(oldG W).fz a.block
 ·obtain ⟨c,e,fr,_,q⟩:=oldG_vt.shared _ hb
  exact .inr ⟨c,e,q⟩
 ·exfalso
  obtain ⟨b,o,s⟩:=a
  simp only at h1
  subst h1
  have:=oldG_vt.other b (by rw [←oldG_size];exact cell_lt h2) (fun q=>q) hb
  unfold World.cell? at h2
  rw [this] at h2
  simp [poison] at h2⟩
theorem strs_flatP (l:List Go.Fu.Bytes):l.flatMap (fun s=>[AVal.str s])=K.strs l:=by
 induction l with
 | nil=>rfl
 | cons a l ih=>rw [List.flatMap_cons,ih];rfl
theorem encSP (l:List Go.Fu.Bytes):encA (.sl .str) l= .ros l.length (K.strs l):=congrArg (AVal.ros l.length) (strs_flatP l)
theorem flat_wt (l:List Go.Fu.Bytes):l.flatten.length≤List.foldr (fun x n=>(List.length (α:=UInt8) x+1)+n) 1 l:=by
 induction l with
 | nil=>simp
 | cons a l ih=>simp only [List.flatten_cons,List.length_append,List.foldr_cons];omega
theorem crewPlaces_contract {H:Type} (enc:TypeId×Value→H)
  (W:World) (args:Array Value) (ds gs:List (DataW H)) (before:List MemPlace) (hval: ∀(j:Nat) t v,Try.f5.params[j]?=some t→args[j]?=some v→Value.okWide Try.prog W .any 0 t v)
  (hW:DataW.Whole enc Try.prog Try.f5.params.toList Rows.crewPlacesSpec.vars false W args.toList ds gs before) (hk:Rows.uptoBulkAll (ds++gs)≤1048576)
  (hz:(DataW.weightsEach Try.prog (Try.f5.params.toList++Rows.crewPlacesSpec.plain.varTypes Try.prog) (ds++gs)).all (· ≤reachBytes)=true):
  ∃M last o w' t',runNT Try.prog (M+1) (solo (G (Go.Frame.enter Try.prog 5 args .normal) []) W) #[]=(.ended o w',t')∧runN Try.prog M (solo (G (Go.Frame.enter Try.prog 5 args .normal) []) W)= .next last∧Go.step Try.prog last= .ended o w'∧
   Go.Conc.Good Try.prog (fun v W'=>Rows.crewPlacesSpec.post enc Try.prog Try.f5 false true false false W args v W') last o w' t':=
 crew_contract_upto (us:=crewPlaces_tys) (n:=8) (tb:=4) Try.params5 (bulk_law H) laid_out (par_ok (by kernel_rfl)) rfl (fun ds h=>match ds,h with | [d0],_=>rfl) (by kernel_rfl) (by kernel_rfl) (by kernel_rfl)
  (fun x hx hwt hr=>by
   have hr:RelL noE (allF (viewOf (oldG W) W)) (viewOf (oldG W) W) [encA (.sl .str) x] args.toList:=hr
   simp only [RelL] at hr
   obtain ⟨T,us1,e1,hT,e3⟩:=hr
   have hT:Rel noE (allF (viewOf (oldG W) W)) (viewOf (oldG W) W) (.ros (List.length (α:=Go.Fu.Bytes) x) (K.strs x)) T:=(encSP x)▸hT
   have ea:args= #[T]:=by
    have:args.toList=[T]:=by rw [e1,e3]
    exact Array.ext' this
   rw [ea]
   have hl:List.length (α:=Go.Fu.Bytes) x≤140737488351232:=hx.1
   have hf:(List.flatten (α:=UInt8) x).length≤1048576:=Nat.le_trans (flat_wt x) (Nat.le_trans hwt hk)
   exact Go.Proofs.Pl.law_places pos_Of_con poly_Of_con pos_Join_con poly_Join_con ref_PosOf_con ref_PolyOf_con hl hf hT (seen_startP W))
  hval hW hz
theorem crewPlacesUpto_said:Rows.CrewPlacesUptoSaid:=
 OpenClaim.holds_of_cond_leaving 5 Try.f5 rfl rfl rfl rfl rfl rfl rfl ⟨rfl,rfl,rfl,rfl,rfl⟩ rfl rfl rfl rfl rfl (by kernel_rfl) Try.func5 (by kernel_rfl)
  (of_decide_eq_true (by kernel_rfl)) (by unfold Func.isWrapper;first | (rw [if_pos (by decide+kernel)];kernel_rfl) | (rw [if_neg (by decide+kernel)];exact ⟨rfl,rfl⟩))
  (fun os started H enc _ F=>returnsInLeavingWide_of_cond (C:=Try.checked) (s:=Rows.OpenSpec.upto Rows.crewPlacesSpec) (k:=Rows.uptoSmall) rfl own_knob started Try.func5
   (OpenSpec.witness (enc:=enc) (C:=Try.checked) (s:=Rows.OpenSpec.upto Rows.crewPlacesSpec) (k:=Rows.uptoSmall) rfl false ⟨#[],#[.slice none 0 0],[]⟩ 8 (by kernel_rfl) (by kernel_rfl) (by kernel_rfl)
    (x:=([.nil],[],[])) (by kernel_rfl) rfl (by kernel_rfl))
   fun W args ds gs before hval hW hk hz=>crewPlaces_contract enc W args ds gs before hval hW (of_decide_eq_true hk) hz)
theorem crewPlacesUpto_holds:Rows.CrewPlacesUptoSaid:=crewPlacesUpto_said
end Go.Proofs.Ytpbbahplbgmbcaa
end
