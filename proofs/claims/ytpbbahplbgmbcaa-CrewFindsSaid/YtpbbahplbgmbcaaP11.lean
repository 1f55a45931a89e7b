/- Part of the proof of crewFinds_holds: the whole is true of every input. Conditions: none. -/
import Derived.Test.YtpbbahplbgmbcaaP10
set_option linter.all false
section
set_option maxRecDepth 100000
namespace Go.Proofs.Ytpbbahplbgmbcaa
open Go.Vc Go.Fu
theorem find_fault_hC:Cons Try.prog []:=trivial
theorem find_fault_con:Con Try.prog f_find_fault find_fault_ct:=find_fault_vc find_fault_hC fun t f _=>by
 simp only [findFault]
 refine ⟨fun q=>by rw [if_pos (by omega)],fun q=>?_⟩
 rw [if_neg (by omega)]
 exact ⟨fun r=>by rw [if_pos r],fun r=>by rw [if_neg r]⟩
theorem find_border_hC:Cons Try.prog []:=trivial
theorem find_border_con:Con Try.prog f_find_border find_border_ct:=find_border_vc find_border_hC fun s hs=>by
 simp only [inI_iff,true_and,and_true,ne_eq,Int.reduceEq,not_false_eq_true,Int.toNat_zero]
 refine ⟨by omega,by omega,fun n i out=>1≤i∧(i≤s.length∨i=1)∧out.length=s.length∧n=bord s i∧ ∀j,0≤j→j<i→j<s.length→gt out j=bord s (j+1),fun _ i _=>(s.length-i).toNat,?_,?_⟩
 ·have b1:bord s 1=0:=bord_eq ⟨isBord_zero (by omega),fun j hj=>by have:=hj.2.1;omega⟩
  refine ⟨by omega,by omega,by simp,b1.symm,fun j h0 h1 h2=>?_⟩
  rw [gt_rep h0 (by omega),show j+1=1 by omega,b1]
 ·rintro n i out ⟨h1,h2,h3,h4,h5⟩
  dsimp only
  refine ⟨fun q=>?_,fun q=>?_⟩
  ·have hb:=bord_ok (s:=s) h1
   rw [←h4] at hb
   refine ⟨fun m=>0≤m∧m<i∧isBord s i m∧ ∀k,1≤k→isBord s (i+1) k→k-1≤m,fun m=>m.toNat,⟨hb.1.1,hb.1.2.1,hb.1,fun k hk hbk=>hb.2 _ (isBord_pred hbk hk).1⟩,?_⟩
   rintro m ⟨m0,m1,m2,m3⟩
   dsimp only
   refine ⟨fun _=>by omega,fun _=>by omega,fun _=>by omega,fun _=>by omega,fun r=>?_,fun r=>?_⟩
   ·have e:gt out (m-1)=bord s m:=by rw [h5 (m-1) (by omega) (by omega) (by omega)];congr 1;omega
    have ok:=bord_ok (s:=s) (n:=m) (by omega)
    have lt:=ok.1.2.1
    have nn:=ok.1.1
    rw [e]
    refine ⟨by omega,by omega,by omega,⟨nn,by omega,isBord_trans m2 ok.1,fun k hk hbk=>?_⟩,by omega⟩
    obtain ⟨p1,p2⟩:=isBord_pred hbk hk
    have:=m3 k hk hbk
    have hne:k-1≠m:=fun e=>by rw [e] at p2;exact r.2 p2.symm
    exact ok.2 _ (isBord_down m2 p1 (by omega))
   ·have nx:iteP (gt s i=gt s m) (m+1) m=bord s (i+1):=by
     symm
     by_cases e:gt s i=gt s m
     ·rw [iteP_pos e]
      refine bord_eq ⟨isBord_succ m2 e.symm,fun j hj=>?_⟩
      by_cases hj1:1≤j
      ·have:=m3 j hj1 hj;omega
      ·omega
     ·rw [iteP_neg e]
      have hm:m=0:=Classical.byContradiction fun hm=>r ⟨by omega,e⟩
      rw [hm]
      refine bord_eq ⟨isBord_zero (by omega),fun j hj=>?_⟩
      by_cases hj1:1≤j
      ·have a1:=m3 j hj1 hj
       have a2:=(isBord_pred hj hj1).2
       rw [show j-1=m by omega] at a2
       exact (e a2.symm).elim
      ·omega
    rw [nx]
    refine ⟨by omega,q,m0,by omega,fun _=>by omega,by omega,by omega,by omega,⟨by omega,by omega,by simpa using h3,rfl,fun j j0 j1 j2=>?_⟩,by omega⟩
    by_cases e:j=i
    ·rw [e,gt_set_eq (by omega) (by omega)]
    ·rw [gt_set_ne (by omega) j0 (fun h=>e h.symm)]
     exact h5 j j0 (by omega) j2
  ·refine ext_gt (by rw [borders_len];exact h3) fun j j0 j1=>?_
   rw [borders_gt j0 (by omega)]
   exact h5 j j0 (by omega) (by omega)
theorem find_In_hC:Cons Try.prog [(f_find_border,find_border_ct)]:=⟨find_border_con,trivial⟩
theorem find_In_con:Con Try.prog f_find_In find_In_ct:=find_In_vc find_In_hC fun t f ⟨h1,h2,h3⟩=>by
 have hf:0<f.length:=List.length_pos_iff.2 h3
 have bl:=borders_len f
 simp only [inI_iff,true_and,and_true,ne_eq,Int.reduceEq,not_false_eq_true,Int.toNat_zero]
 refine ⟨by omega,fun n x out=>0≤x∧x≤t.length∧isPre t f x n∧(∀k,isPre t f x k→k≤n)∧out=pls (stands t f) (x-f.length+1),fun _ x _=>(t.length-x).toNat,⟨by omega,by omega,isPre_zero (by omega),fun k h=>by have:=h.2.1;omega,by rw [pls_zero (by omega)]⟩,?_⟩
 rintro n x out ⟨g0,g1,g2,g3,g4⟩
 dsimp only
 have hol:out.length≤100001:=by
  have:=pls_len (P:=stands t f) (x-f.length+1);rw [g4];omega
 refine ⟨fun u=>?_,fun u=>?_⟩
 ·refine ⟨fun m=>isPre t f x m∧ ∀k,1≤k→isPre t f (x+1) k→k-1≤m,fun m=>m.toNat,⟨g2,fun k hk hp=>g3 _ (isPre_pred hp hk).1⟩,?_⟩
  rintro m ⟨m1,m2⟩
  dsimp only
  have m0:=m1.1
  have mx:=m1.2.1
  have mf:=m1.2.2.1
  refine ⟨fun _=>g0,fun _=>u,fun _=>m0,fun _=>by omega,fun r=>?_,fun r=>?_⟩
  ·have e:gt (borders f) (m-1)=bord f m:=by rw [borders_gt (by omega) (by omega)];congr 1;omega
   rw [e]
   have ok:=bord_ok (s:=f) (n:=m) (by omega)
   refine ⟨by omega,by omega,by omega,⟨isPre_bord m1 ok.1,fun k hk hp=>?_⟩,by have:=ok.1.1;have:=ok.1.2.1;omega⟩
   obtain ⟨p1,p2⟩:=isPre_pred hp hk
   have:=m2 k hk hp
   have hkf:=hp.2.2.1
   have hne:k-1≠m:=fun e=>by
    rcases r.2 with r | r
    ·omega
    ·rw [e] at p2;exact r p2.symm
   exact ok.2 _ (isPre_down m1 p1 (by omega))
  ·have hmf:m<f.length:=by
    by_cases c:0<m
    ·have: ¬m=f.length:=fun e=>r ⟨c,.inl e⟩
     omega
    ·omega
   refine ⟨g0,u,m0,hmf,fun _=>by omega,?_⟩
   have nx:isPre t f (x+1) (iteP (gt t x=gt f m) (m+1) m)∧ ∀k,isPre t f (x+1) k→k≤iteP (gt t x=gt f m) (m+1) m:=by
    by_cases e:gt t x=gt f m
    ·rw [iteP_pos e]
     refine ⟨isPre_succ m1 hmf e.symm,fun k hk=>?_⟩
     by_cases c:1≤k
     ·have:=m2 k c hk;omega
     ·omega
    ·rw [iteP_neg e]
     have hm:m=0:=Classical.byContradiction fun c=>r ⟨by omega,.inr e⟩
     subst hm
     refine ⟨isPre_zero (by omega),fun k hk=>?_⟩
     by_cases c:1≤k
     ·have:=m2 k c hk
      have hk1:k=1:=by omega
      subst hk1
      have:=(isPre_pred hk (by omega)).2
      exact (e this.symm).elim
     ·omega
   generalize iteP (gt t x=gt f m) (m+1) m=nn at*
   obtain ⟨n1,n2⟩:=nx
   have nb:=n1.2.1
   refine ⟨fun w=>?_,fun w=>?_⟩
   ·have hs:stands t f (x+1-f.length):=(isPre_full (by omega)).1 (w▸n1)
    refine ⟨by omega,by omega,by omega,by omega,⟨by omega,by omega,n1,n2,?_⟩,by omega⟩
    have hxf:=hs.1
    rw [w,g4,show x+1-(f.length:Int)+1=(x+1-f.length)+1 by omega,pls_pos (n:=x+1-f.length) hxf hs,show x-(f.length:Int)+1=x+1-f.length by omega]
   ·refine ⟨by omega,⟨by omega,by omega,n1,n2,?_⟩,by omega⟩
    rw [g4,show x+1-(f.length:Int)+1=(x-f.length+1)+1 by omega]
    by_cases c:0≤x-(f.length:Int)+1
    ·rw [pls_neg c fun hs=>w ?_]
     have:=(isPre_full (text:=t) (find:=f) (i:=x+1) (by omega)).2 (by rw [show x+1-(f.length:Int)=x-f.length+1 by omega];exact hs)
     have:=n2 _ this
     have:=n1.2.2.1
     omega
    ·rw [pls_zero (by omega),pls_zero (by omega)]
 ·rw [g4]
  unfold findAt
  have hx:x=t.length:=by omega
  subst hx
  by_cases c:0≤(t.length:Int)-f.length+1
  ·exact (pls_more c (by omega) fun i a b h=>by have:=h.2.1;omega).symm
  ·rw [pls_zero (by omega),pls_more (P:=stands t f) (n:=0) (m:=t.length) (by omega) (by omega) fun i a b h=>by have:=h.2.1;omega,pls_zero (by omega)]
theorem find_All_hC:Cons Try.prog [(f_find_fault,find_fault_ct),(f_find_In,find_In_ct)]:=⟨find_fault_con,find_In_con,trivial⟩
theorem find_All_con:Con Try.prog f_find_All find_All_ct:=find_All_vc find_All_hC fun t f _=>by
 simp only [findAll]
 refine ⟨trivial,fun q=>by rw [if_neg q];exact ⟨rfl,rfl⟩,fun q=>?_⟩
 have q:findFault t f=0:=Classical.byContradiction q
 rw [if_pos q]
 obtain ⟨a,b,c⟩:=findFault_ok.1 q
 exact ⟨⟨by omega,by omega,c⟩,rfl,rfl⟩
theorem ref_findFault_hC:Cons Try.prog []:=trivial
theorem ref_findFault_con:Con Try.prog f_ref_findFault ref_findFault_ct:=ref_findFault_vc ref_findFault_hC fun t f _=>by
 simp only [findFault]
 refine ⟨fun q=>by rw [if_pos (by omega)],fun q=>?_⟩
 rw [if_neg (by omega)]
 exact ⟨fun r=>by rw [if_pos r],fun r=>by rw [if_neg r]⟩
theorem ref_standsAt_hC:Cons Try.prog []:=trivial
theorem ref_standsAt_con:Con Try.prog f_ref_standsAt ref_standsAt_ct:=ref_standsAt_vc ref_standsAt_hC fun t f at_ ⟨h1,h2,h3⟩=>by
 simp only [inI_iff,true_and,and_true,ne_eq,Int.reduceEq,not_false_eq_true,Int.toNat_zero,bo_eq_bo,fitS,standPre] at*
 refine ⟨fun _=>by omega,fun _=>by omega,fun q=>q.1,fun _=>by omega,fun q=>q.2,?_⟩
 constructor
 ·rintro ⟨⟨a,b⟩,c⟩;exact (stands_part a b).1 c
 ·intro c;exact ⟨⟨c.1,c.2.1⟩,(stands_part c.1 c.2.1).2 c⟩
theorem ref_FindAll_hC:Cons Try.prog [(f_ref_findFault,ref_findFault_ct),(f_ref_standsAt,ref_standsAt_ct)]:=⟨ref_findFault_con,ref_standsAt_con,trivial⟩
theorem ref_FindAll_con:Con Try.prog f_ref_FindAll ref_FindAll_ct:=ref_FindAll_vc ref_FindAll_hC fun t f _=>by
 simp only [inI_iff,true_and,and_true,ne_eq,Int.reduceEq,not_false_eq_true,Int.toNat_zero,findAll,bo_true]
 refine ⟨fun q=>by rw [if_neg q];exact ⟨rfl,rfl⟩,fun q=>?_⟩
 have q:findFault t f=0:=Classical.byContradiction q
 rw [if_pos q]
 obtain ⟨a,b,c⟩:=findFault_ok.1 q
 refine ⟨fun x out=>0≤x∧x≤t.length∧out=pls (stands t f) x,fun x _=>(t.length-x).toNat,⟨by omega,by omega,by rw [pls_zero (by omega)]⟩,?_⟩
 rintro x out ⟨h0,h1,h2⟩
 dsimp only
 have hol:out.length≤1000:=by
  have:=pls_len (P:=stands t f) x;rw [h2];omega
 refine ⟨fun u=>⟨⟨by simp only [fitS];omega,by simp only [fitS];omega,by simp only [standPre];omega⟩,fun v=>⟨by omega,by omega,⟨by omega,by omega,by rw [h2,pls_pos h0 v]⟩,by omega⟩,fun v=>⟨by omega,⟨by omega,by omega,by rw [h2,pls_neg h0 v]⟩,by omega⟩⟩,fun u=>?_⟩
 have e:x=t.length:=by omega
 rw [h2,e];exact ⟨rfl,rfl⟩
theorem law_sameInts_hC:Cons Try.prog []:=trivial
theorem law_sameInts_con:Con Try.prog f_law_sameInts law_sameInts_ct:=law_sameInts_vc law_sameInts_hC fun a b h=>by
 simp only [inI_iff,true_and,and_true,ne_eq,Int.reduceEq,not_false_eq_true,Int.toNat_zero,false_bo,true_bo,fitL] at*
 refine ⟨fun q e=>q (by rw [e]),fun q=>⟨fun i=>0≤i∧i≤a.length∧ ∀j:Int,0≤j→j<i→gt a j=gt b j,fun i=>(a.length-i).toNat,⟨by omega,by omega,fun j h1 h2=>by omega⟩,fun i ⟨h0,h1,h2⟩=>?_⟩⟩
 dsimp only
 refine ⟨fun r=>⟨h0,r,h0,by omega,fun t e=>t (by rw [e]),fun t=>⟨by omega,⟨by omega,by omega,fun j j0 j1=>?_⟩,by omega⟩⟩,fun r=>?_⟩
 ·by_cases e:j=i
  ·rw [e];exact Classical.byContradiction t
  ·exact h2 j j0 (by omega)
 ·exact ext_gt (by omega) fun j j0 j1=>h2 j j0 (by omega)
end Go.Proofs.Ytpbbahplbgmbcaa
end
section
set_option maxRecDepth 100000
namespace Go.Proofs.Ytpbbahplbgmbcaa
open Go.Conc Go.ChangeShapes Go.WideShapes Go.ChangeAt Go.RowKit Go.Vc Go.Vk
theorem seen_start (W : World) : Seen (C0 (viewOf (oldG W) W)) (viewOf (oldG W) W) := ⟨fun a x h => h.2, fun a x h => h.1, fun a x h => by
  obtain ⟨h1, h2⟩ := h
  by_cases hb : (oldG W).fz a.block
  · obtain ⟨c, e, fr, _, q⟩ := oldG_vt.shared _ hb
    exact .inr ⟨c, e, q⟩
  · exfalso
    obtain ⟨b, o, s⟩ := a
    simp only at h1
    subst h1
    have := oldG_vt.other b (by rw [← oldG_size]; exact cell_lt h2) (fun q => q) hb
    unfold World.cell? at h2
    rw [this] at h2
    simp [poison] at h2⟩
theorem strs_flat (l : List Go.Fu.Bytes) : l.flatMap (fun s => [AVal.str s]) = K.strs l := by
  induction l with
  | nil => rfl
  | cons a l ih => rw [List.flatMap_cons, ih]; rfl
theorem encS (l : List Go.Fu.Bytes) : encA (.sl .str) l = .ros l.length (K.strs l) := congrArg (AVal.ros l.length) (strs_flat l)
theorem crewFinds_contract {H : Type} (enc : TypeId × Value → H)
    (W : World) (args : Array Value) (ds gs : List (DataW H)) (before : List MemPlace) (hval : ∀ (j : Nat) t v, Try.f3.params[j]? = some t → args[j]? = some v → Value.okWide Try.prog W .any 0 t v)
    (hW : DataW.Whole enc Try.prog Try.f3.params.toList Rows.crewFindsSpec.vars false W args.toList ds gs before)
    (hz : (DataW.weightsEach Try.prog (Try.f3.params.toList ++ Rows.crewFindsSpec.plain.varTypes Try.prog) (ds ++ gs)).all (· ≤ reachBytes) = true) :
    ∃ M last o w' t', runNT Try.prog (M + 1) (solo (G (Go.Frame.enter Try.prog 3 args .normal) []) W) #[] = (.ended o w', t') ∧ runN Try.prog M (solo (G (Go.Frame.enter Try.prog 3 args .normal) []) W) = .next last ∧ Go.step Try.prog last = .ended o w' ∧
      Go.Conc.Good Try.prog (fun v W' => Rows.crewFindsSpec.post enc Try.prog Try.f3 false true false false W args v W') last o w' t' :=
  crew_contract (us := crewFinds_tys) (n := 8) (tb := 4) Try.params3 (bulk_law H) laid_out (par_ok (by kernel_rfl)) rfl (fun ds h => match ds, h with | [d0, d1], _ => rfl) (by kernel_rfl) (by kernel_rfl) (by kernel_rfl)
    (fun x hx hr => by
      obtain ⟨texts, s⟩ : List Go.Fu.Bytes × Go.Fu.Bytes := x
      obtain ⟨T, us1, e1, hT, S, us2, e2, hS, e3⟩ := hr
      have hS : Rel noE (allF (viewOf (oldG W) W)) (viewOf (oldG W) W) (.str s) S := hS
      have hS : S = .string ⟨s.toArray⟩ := by simpa only [Rel] using hS
      have hT : Rel noE (allF (viewOf (oldG W) W)) (viewOf (oldG W) W) (.ros texts.length (K.strs texts)) T := (encS texts) ▸ hT
      have ea : args = #[T, .string ⟨s.toArray⟩] := by
        have : args.toList = [T, .string ⟨s.toArray⟩] := by rw [e1, e2, show us2 = [] from e3, hS]
        exact Array.ext' this
      rw [ea]
      have hl : texts.length ≤ 140737488351232 := hx.1.1
      exact law_finds find_All_con ref_FindAll_con law_sameInts_con hl hT (seen_start W))
    hval hW hz
theorem crewFinds_said : Rows.CrewFindsSaid :=
  OpenClaim.holds_of_wide_leaving 3 Try.f3 rfl rfl rfl rfl rfl rfl rfl ⟨rfl, rfl, rfl, rfl, rfl⟩ rfl rfl rfl rfl rfl (by kernel_rfl) Try.func3 (by kernel_rfl)
    (of_decide_eq_true (by kernel_rfl)) (by unfold Func.isWrapper; first | (rw [if_pos (by decide +kernel)]; kernel_rfl) | (rw [if_neg (by decide +kernel)]; exact ⟨rfl, rfl⟩))
    (fun os started H enc _ => returnsInLeavingWide_of_change_sized (C := Try.checked) own_knob started Try.func3
      (ChangeSpec.witness6 (enc := enc) (C := Try.checked) false ⟨#[], #[.slice none 0 0, .string ⟨#[]⟩], []⟩ 8 (by kernel_rfl) (by kernel_rfl) (by kernel_rfl) (by kernel_rfl))
      fun W base args ds gs before hval hW _ hz _ => crewFinds_contract enc W args ds gs before hval hW hz)
theorem crewFinds_holds : Rows.CrewFindsSaid := crewFinds_said
end Go.Proofs.Ytpbbahplbgmbcaa
end
