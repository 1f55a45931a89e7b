/- Part of the proof of enginePlays_holds: the whole is true of every input. Conditions: none. -/
import Derived.Test.YtlibocgedgdmlaaGreatP7
set_option linter.all false
section
namespace Go.Vc
def kF (AW:List Nat) (A:Frame):Frame:=AW.map fun t=>(t,A.get t)
theorem ph {A:Frame}: ∀ {AW:List Nat} {s:Nat},s∈AW->Frame.get (kF AW A) s=A.get s
 | [],s,h=>by cases h
 | t::AW,s,h=>by
  simp only [kF,List.map_cons];rw [HU];split
  ·rename_i e;rw [e]
  ·rename_i e;exact ph (by rcases List.mem_cons.1 h with q | q;exact (e q.symm).elim;exact q)
theorem MI {F:RF}: ∀ {AW:List Nat} {s:Nat} {gs:List (Nat×Bool)} {P:Prop} {x:TV},(s,gs,P,x)∈GQ F AW->s∈AW/\gs=[]/\P=True/\ ∃Q,BL F s=some ([],Q,x)
 | [],s,gs,P,x,h=>by simp [GQ] at h
 | t::AW,s,gs,P,x,h=>by
  simp only [GQ] at h;split at h
  ·rename_i Q y hl;rcases List.mem_cons.1 h with e | e
   ·cases e;exact ⟨by simp,rfl,rfl,Q,hl⟩
   ·obtain ⟨h1,h2⟩:=MI e;exact ⟨by simp [h1],h2⟩
  ·obtain ⟨h1,h2⟩:=MI h;exact ⟨by simp [h1],h2⟩
section
variable {H : HF} {F : RF} {A : Frame}
theorem Il {s:Nat} {x:TV} (h:AE H x (A.get s)):jr H A s [] True x:=⟨fun _=>h,fun q=>(q BD).elim,⟨fun _=>trivial,fun _=>BD⟩⟩
theorem Jl (hF:Cl H F A) (AW:List Nat):Cl H (GQ F AW) (kF AW A):=fun s gs P x hx=>by
 obtain ⟨h1,rfl,rfl,Q,hl⟩:=MI (MF hx);exact Il (by rw [ph h1];exact (hF _ _ _ _ hl).on BD)
theorem nN (hF:Cl H F A) (AW:List Nat):Cl H (GQ F AW) A:=fun s gs P x hx=>by
 obtain ⟨h1,rfl,rfl,Q,hl⟩:=MI (MF hx);exact Il ((hF _ _ _ _ hl).on BD)
theorem S6 (hF:Cl H F A) (t:Nat):AE H (Po F t) (A.get t):=by
 unfold Po;split
 ·rename_i x hl;exact (hF _ _ _ _ hl).on BD
 ·simp [AE]
theorem JB (hF:Cl H F A): ∀W:List Nat,AN H (LD F W) (W.map A.get)
 | []=>by simp [LD,AN]
 | t::W=>by simp only [LD,List.map_cons,AN];exact ⟨_,_,rfl,S6 hF t,JB hF W⟩
def ZX (F:RF):Prop:= ∀s gs P x,BL F s=some (gs,P,x)->gs=[]/\P=True
theorem NA (F:RF) (AW:List Nat):ZX (GQ F AW):=fun s gs P x hx=>by
 obtain ⟨_,h1,h2,_⟩:=MI (MF hx);exact ⟨h1,h2⟩
theorem SH {F0:RF} {A0:Frame} (h0:Cl H F0 A0) (hp:ZX F0): ∀(W:List Nat) {xs:List TV} {ys:List AA},AN H xs ys->Cl H (VF W xs F0) (Er W ys A0)/\ZX (VF W xs F0)
 | [],xs,ys,h=>by cases xs<;>cases ys<;>exact ⟨by simpa [VF,Er] using h0,by simpa [VF] using hp⟩
 | t::W,[],ys,h=>by simp only [AN] at h;subst h;exact ⟨by simpa [VF,Er] using h0,by simpa [VF] using hp⟩
 | t::W,x::xs,ys,h=>by
  simp only [AN] at h;obtain ⟨y,zs,rfl,h1,h2⟩:=h;obtain ⟨g1,g2⟩:=SH h0 hp W h2;refine ⟨fun s gs P z hz=>?_,fun s gs P z hz=>?_⟩<;>simp only [VF,BL] at hz
  ·simp only [Er];split at hz
   ·rename_i hb;cases hz;rw [<-beq_eq hb];exact Il (by rw [HU,if_pos rfl];exact h1)
   ·rename_i hb;have hne:t≠s:=fun e=>by subst e;simp at hb
    obtain ⟨rfl,rfl⟩:=g2 _ _ _ _ hz;exact Il (by rw [HU,if_neg hne];exact (g1 _ _ _ _ hz).on BD)
  ·split at hz
   ·cases hz;exact ⟨rfl,rfl⟩
   ·exact g2 _ _ _ _ hz
end
mutual
def JX (n:Nat):TV->Prop
 | .ptr l _=>l<n
 | .I0 l _ _=>l<n
 | .Xc l _=>l<n
 | .F7 l _ _ _ _=>l<n
 | .IU l=>l<n
 | .ifs _ l=>l<n
 | .sl l _ _=>l<n
 | .agg cs=>I9 n cs
 | .DH cs=>I9 n cs
 | .GX cs=>I9 n cs
 | .fn _ cs=>I9 n cs
 | _=>True
def I9 (n:Nat):List TV->Prop
 | []=>True
 | x::xs=>JX n x/\I9 n xs
end
def bt (n:Nat) (H:HF):Prop:= ∀l,n<=l->H l=none
theorem bt.lt {n l:Nat} {H:HF} {h:Hd} (ho:bt n H) (hl:H l=some h):l<n:=by
 rcases Nat.lt_or_ge l n with q | q
 ·exact q
 ·rw [ho l q] at hl;cases hl
def Fy (n:Nat) (H:HF):HF:=fun l=>if l<n then H l else none
theorem GF {n l:Nat} {H:HF} (h:l<n):Fy n H l=H l:=by simp [Fy,h]
mutual
theorem ku {H:HF} {n:Nat} (ho:bt n H): ∀ {x:TV} {y:AA},AE H x y->JX n x
 | .ptr l off,_,h=>by simp only [AE] at h;obtain ⟨_,_,_,h,_⟩:=h;exact ho.lt h
 | .I0 l _ _,_,h=>by simp only [AE] at h;obtain ⟨_,_,_,h,_⟩:=h;exact ho.lt h
 | .Xc l _,_,h=>by simp only [AE] at h;obtain ⟨_,_,h,_⟩:=h;exact ho.lt h
 | .F7 l _ _ _ _,_,h=>by simp only [AE] at h;obtain ⟨_,_,_,_,h,_⟩:=h;exact ho.lt h
 | .IU l,_,h=>by simp only [AE] at h;obtain ⟨_,h,_⟩:=h;exact ho.lt h
 | .ifs _ l,_,h=>by simp only [AE] at h;obtain ⟨_,h,_⟩:=h;exact ho.lt h
 | .sl l _ _,_,h=>by simp only [AE] at h;obtain ⟨_,h,_⟩:=h;exact ho.lt h
 | .agg cs,_,h=>by simp only [AE] at h;obtain ⟨_,_,h⟩:=h;exact Kl ho h
 | .DH cs,_,h=>by simp only [AE] at h;obtain ⟨_,_,h⟩:=h;exact Kl ho h
 | .GX cs,_,h=>by simp only [AE] at h;obtain ⟨_,_,h⟩:=h;exact Kl ho h
 | .fn _ cs,_,h=>by simp only [AE] at h;obtain ⟨_,_,h⟩:=h;exact Kl ho h
 | .C3,_,_ | .tt,_,_ | .ff,_,_ | .bb _,_,_ | .pr _,_,_ | .gd _,_,_ | .int _ _,_,_ | .byte _,_,_ | .str _,_,_ | .B4,_,_ | .I3,_,_ | .I4,_,_ | .M8,_,_ | .AL,_,_ | .bq _,_,_ | .Ez _ _,_,_=>trivial
theorem Kl {H:HF} {n:Nat} (ho:bt n H): ∀ {x:List TV} {y:List AA},AN H x y->I9 n x
 | [],_,_=>trivial
 | x::xs,_,h=>by simp only [AN] at h;obtain ⟨_,_,_,h1,h2⟩:=h;exact ⟨ku ho h1,Kl ho h2⟩
end
mutual
theorem PF {H:HF} {n:Nat}: ∀ {x:TV} {y:AA},JX n x->AE H x y->AE (Fy n H) x y
 | .ptr l off,_,r,h=>by simp only [JX] at r;simpa only [AE,GF r] using h
 | .I0 l _ _,_,r,h=>by simp only [JX] at r;simpa only [AE,GF r] using h
 | .Xc l _,_,r,h=>by simp only [JX] at r;simpa only [AE,GF r] using h
 | .F7 l _ _ _ _,_,r,h=>by simp only [JX] at r;simpa only [AE,GF r] using h
 | .IU l,_,r,h=>by simp only [JX] at r;simpa only [AE,GF r] using h
 | .ifs _ l,_,r,h=>by simp only [JX] at r;simpa only [AE,GF r] using h
 | .sl l _ _,_,r,h=>by simp only [JX] at r;simpa only [AE,GF r] using h
 | .agg cs,_,r,h=>by simp only [JX] at r;simp only [AE] at*;obtain ⟨a,b,h⟩:=h;exact ⟨a,b,JN r h⟩
 | .DH cs,_,r,h=>by simp only [JX] at r;simp only [AE] at*;obtain ⟨a,b,h⟩:=h;exact ⟨a,b,JN r h⟩
 | .GX cs,_,r,h=>by simp only [JX] at r;simp only [AE] at*;obtain ⟨a,b,h⟩:=h;exact ⟨a,b,JN r h⟩
 | .fn _ cs,_,r,h=>by simp only [JX] at r;simp only [AE] at*;obtain ⟨a,b,h⟩:=h;exact ⟨a,b,JN r h⟩
 | .C3,_,_,h | .tt,_,_,h | .ff,_,_,h | .bb _,_,_,h | .pr _,_,_,h | .gd _,_,_,h | .int _ _,_,_,h | .byte _,_,_,h | .str _,_,_,h | .B4,_,_,h | .I3,_,_,h | .I4,_,_,h | .M8,_,_,h | .AL,_,_,h | .bq _,_,_,h | .Ez _ _,_,_,h=>by simpa [AE] using h
theorem JN {H:HF} {n:Nat}: ∀ {x:List TV} {y:List AA},I9 n x->AN H x y->AN (Fy n H) x y
 | [],_,_,h=>by simpa [AN] using h
 | x::xs,_,r,h=>by
  simp only [AN,I9] at*;obtain ⟨a,b,c,h1,h2⟩:=h;exact ⟨a,b,c,PF r.1 h1,JN r.2 h2⟩
end
mutual
theorem eZ {H H':HF}: ∀ {x:TV} {y:AA},Ha x=true->AE H x y->AE H' x y
 | .ptr l off,_,r,h=>by simp [Ha] at r
 | .I0 l _ _,_,r,h=>by simp [Ha] at r
 | .Xc l _,_,r,h=>by simp [Ha] at r
 | .F7 l _ _ _ _,_,r,h=>by simp [Ha] at r
 | .IU l,_,r,h=>by simp [Ha] at r
 | .ifs _ l,_,r,h=>by simp [Ha] at r
 | .sl l _ _,_,r,h=>by simp [Ha] at r
 | .agg cs,_,r,h=>by simp only [Ha] at r;simp only [AE] at*;obtain ⟨a,b,h⟩:=h;exact ⟨a,b,MN r h⟩
 | .DH cs,_,r,h=>by simp only [Ha] at r;simp only [AE] at*;obtain ⟨a,b,h⟩:=h;exact ⟨a,b,MN r h⟩
 | .GX cs,_,r,h=>by simp only [Ha] at r;simp only [AE] at*;obtain ⟨a,b,h⟩:=h;exact ⟨a,b,MN r h⟩
 | .fn _ cs,_,r,h=>by simp only [Ha] at r;simp only [AE] at*;obtain ⟨a,b,h⟩:=h;exact ⟨a,b,MN r h⟩
 | .C3,_,_,h | .tt,_,_,h | .ff,_,_,h | .bb _,_,_,h | .pr _,_,_,h | .gd _,_,_,h | .int _ _,_,_,h | .byte _,_,_,h | .str _,_,_,h | .B4,_,_,h | .I3,_,_,h | .I4,_,_,h | .M8,_,_,h | .AL,_,_,h | .bq _,_,_,h | .Ez _ _,_,_,h=>by simpa [AE] using h
theorem MN {H H':HF}: ∀ {x:List TV} {y:List AA},KA x=true->AN H x y->AN H' x y
 | [],_,_,h=>by simpa [AN] using h
 | x::xs,_,r,h=>by
  simp only [AN,KA,Bool.and_eq_true] at*;obtain ⟨a,b,c,h1,h2⟩:=h;exact ⟨a,b,c,eZ r.1 h1,MN r.2 h2⟩
end
theorem ZF: ∀ {F F':RF},Ry F F'=true-> ∀ {s:Nat} {gs:List (Nat×Bool)} {P:Prop} {x:TV},BL F s=some (gs,P,x)-> ∃P' x',BL F' s=some (gs,P',x')/\(Ha x=true\/x=x')
 | [],F',h,s,gs,P,x,hx=>by simp [BL] at hx
 | (a,g,p,z)::F,[],h,s,gs,P,x,hx=>by simp [Ry] at h
 | (a,g,p,z)::F,(a',g',p',z')::F',h,s,gs,P,x,hx=>by
  simp only [Ry] at h;split at h
  ·rename_i hb he;have e1:=beq_eq hb;have e2:=SZ he;subst e1;subst e2;have step:(Ha z=true\/z=z')->Ry F F'=true-> ∃P' x',BL ((a,g,p',z')::F') s=some (gs,P',x')/\(Ha x=true\/x=x'):=fun hz hr=>by
    simp only [BL] at hx |-;split at hx
    ·cases hx;exact ⟨_,_,rfl,hz⟩
    ·exact ZF hr hx
   split at h
   ·rename_i hp;exact step (.inl hp) h
   ·split at h
    ·rename_i hs;exact step (.inr (MU hs)) h
    ·cases h
  ·cases h
theorem fB {H0 H':HF} {F F':RF} {A:Frame} {n:Nat} (h:Ry F F'=true) (h0:Cl H0 F A) (h1:Cl H' F' A) (ho:bt n H0):Cl (Fy n H') F A:=fun s gs P x hx=>by
 have e:=h0 _ _ _ _ hx;obtain ⟨P',x',g1,g2⟩:=ZF h hx;refine ⟨fun q=>?_,e.off,e.iff⟩;rcases g2 with g2 | rfl
 ·exact eZ g2 (e.on q)
 ·exact PF (ku ho (e.on q)) ((h1 _ _ _ _ g1).on q)
theorem ZE {H0 H':HF} {n:Nat} (ho:bt n H0): ∀ {G G':List RF} {AG:List Frame},ZD G G'=true->EE H0 G AG->EE H' G' AG->EE (Fy n H') G AG
 | [],[],AG,_,h0,h1=>by cases h0;exact .nil
 | [],_::_,AG,h,_,_=>by simp [ZD] at h
 | _::_,[],AG,h,_,_=>by simp [ZD] at h
 | F::G,F'::G',AG,h,h0,h1=>by
  simp only [ZD] at h;split at h
  ·rename_i hf;cases h0 with
   | cons a b=>cases h1 with
    | cons c d=>exact .cons (fB hf a c ho) (ZE ho h b d)
  ·cases h
theorem ve (a b l:Nat):ZM a b l=if l=a then b else if l=b then a else l:=by
 have hb: ∀x y:Nat,Nat.beq x y=decide (x=y):=fun x y=>by
  cases h:Nat.beq x y with
  | true=>simp [beq_eq h]
  | false=>simp [Nat.ne_of_beq_eq_false h]
 unfold ZM;simp only [hb];by_cases h1:l=a
 ·simp [h1]
 ·by_cases h2:l=b
  ·subst h2;simp [h1]
  ·simp [h1,h2]
theorem Iv (a b l:Nat):ZM a b (ZM a b l)=l:=by
 simp only [ve];split<;>split<;>(try split)<;>simp_all
def jc (a b:Nat) (H:HF):HF:=fun l=>H (ZM a b l)
mutual
theorem rH {H:HF} {a b:Nat}: ∀ {x:TV} {y:AA},AE H x y->AE (jc a b H) (fx a b x) y
 | .ptr l off,_,h=>by simpa only [fx,AE,jc,Iv] using h
 | .I0 l _ _,_,h=>by simpa only [fx,AE,jc,Iv] using h
 | .Xc l _,_,h=>by simpa only [fx,AE,jc,Iv] using h
 | .F7 l _ _ _ _,_,h=>by simpa only [fx,AE,jc,Iv] using h
 | .IU l,_,h=>by simpa only [fx,AE,jc,Iv] using h
 | .ifs _ l,_,h=>by simpa only [fx,AE,jc,Iv] using h
 | .sl l _ _,_,h=>by simpa only [fx,AE,jc,Iv] using h
 | .agg cs,_,h=>by simp only [fx,AE] at*;obtain ⟨u,v,h⟩:=h;exact ⟨u,v,PE h⟩
 | .DH cs,_,h=>by simp only [fx,AE] at*;obtain ⟨u,v,h⟩:=h;exact ⟨u,v,PE h⟩
 | .GX cs,_,h=>by simp only [fx,AE] at*;obtain ⟨u,v,h⟩:=h;exact ⟨u,v,PE h⟩
 | .fn _ cs,_,h=>by simp only [fx,AE] at*;obtain ⟨u,v,h⟩:=h;exact ⟨u,v,PE h⟩
 | .C3,_,h | .tt,_,h | .ff,_,h | .bb _,_,h | .pr _,_,h | .gd _,_,h | .int _ _,_,h | .byte _,_,h | .str _,_,h | .B4,_,h | .I3,_,h | .I4,_,h | .M8,_,h | .AL,_,h | .bq _,_,h | .Ez _ _,_,h=>by simpa [fx,AE] using h
theorem PE {H:HF} {a b:Nat}: ∀ {x:List TV} {y:List AA},AN H x y->AN (jc a b H) (rG a b x) y
 | [],_,h=>by simpa [rG,AN] using h
 | x::xs,_,h=>by
  simp only [rG,AN] at*;obtain ⟨u,v,w,h1,h2⟩:=h;exact ⟨u,v,w,rH h1,PE h2⟩
end
theorem XC {a b:Nat}: ∀xs:List TV,(rG a b xs).length=xs.length
 | []=>rfl
 | x::xs=>by simp [rG,XC xs]
theorem kU {a b:Nat}: ∀ {F:RF} {s:Nat} {gs:List (Nat×Bool)} {P:Prop} {x:TV},BL (vd a b F) s=some (gs,P,x)-> ∃x0,BL F s=some (gs,P,x0)/\x=fx a b x0
 | [],s,gs,P,x,h=>by simp [vd,BL] at h
 | (t,g,q,z)::F,s,gs,P,x,h=>by
  simp only [vd,BL] at h |-;split at h
  ·cases h;exact ⟨z,rfl,rfl⟩
  ·exact kU h
theorem Cl.sw {H:HF} {a b:Nat} {F:RF} {A:Frame} (h:Cl H F A):Cl (jc a b H) (vd a b F) A:=fun s gs P x hx=>by
 obtain ⟨x0,h1,rfl⟩:=kU hx;have e:=h _ _ _ _ h1;exact ⟨fun q=>rH (e.on q),e.off,e.iff⟩
theorem EE.sw {H:HF} {a b:Nat} {G:List RF} {AG:List Frame} (h:EE H G AG):EE (jc a b H) (xy a b G) AG:=by
 induction h with
 | nil=>exact .nil
 | cons h _ ih=>exact .cons h.sw ih
theorem Qm.sw {H:HF} {S:AB} {a b l:Nat} {o:CI} (h:Qm H S (ZM a b l) o):Qm (jc a b H) S l (fV a b o):=by
 cases o with
 | dead=>exact h
 | cells k cs=>
  obtain ⟨p,v,xs,h1,h2,h3⟩:=h;exact ⟨p,v,xs,by simp only [jc,XC];exact h1,h2,PE h3⟩
 | row t ls=>exact h
 | Eg t ls=>exact h
theorem k_ (a b:Nat): ∀TS:List CI,wo a b TS=TS.map (fV a b)
 | []=>rfl
 | o::TS=>by simp [wo,k_ a b TS]
theorem Dn.sw {H:HF} {TS:List CI} {S:AB} (st:Dn H TS S) {a b:Nat} {x y:CI} (ha:B5 TS a=some x) (hb:B5 TS b=some y) (hne:Nat.beq a b=false):Dn (jc a b H) (xD a b TS) S:=by
 have hab:a≠b:=Nat.ne_of_beq_eq_false hne;have la:=JH ha;have lb:=JH hb;have e:xD a b TS=((TS.map (fV a b)).set a (fV a b y)).set b (fV a b x):=by
  simp only [xD,ha,hb,Fk,k_]
 have sa:ZM a b a=b:=by simp [ZM]
 have sb:ZM a b b=a:=by
  have:Nat.beq b a=false:=by
   cases h:Nat.beq b a with
   | true=>exact (hab (beq_eq h).symm).elim
   | false=>rfl
  simp [ZM,this]
 have so: ∀l,l≠a->l≠b->ZM a b l=l:=fun l h1 h2=>by
  have e1:Nat.beq l a=false:=by
   cases h:Nat.beq l a with
   | true=>exact (h1 (beq_eq h)).elim
   | false=>rfl
  have e2:Nat.beq l b=false:=by
   cases h:Nat.beq l b with
   | true=>exact (h2 (beq_eq h)).elim
   | false=>rfl
  simp [ZM,e1,e2]
 rw [Jk] at ha hb;rw [e];refine ⟨fun l o hl=>?_,fun l hl=>?_,fun l l' h h' p v v' e1 e2 e3 e4=>?_,fun l i h p v n e1 e2=>?_⟩
 ·by_cases h1:l=b
  ·subst h1;rw [List.getElem?_set_self (by simpa using lb)] at hl;cases hl;exact Qm.sw (by rw [sb];exact st.ob _ _ ha)
  ·rw [List.getElem?_set_ne (Ne.symm h1)] at hl;by_cases h2:l=a
   ·subst h2;rw [List.getElem?_set_self (by simpa using la)] at hl;cases hl;exact Qm.sw (by rw [sa];exact st.ob _ _ hb)
   ·rw [List.getElem?_set_ne (Ne.symm h2),List.getElem?_map] at hl;cases hx:TS[l]? with
    | none=>rw [hx] at hl;cases hl
    | some o0=>
     rw [hx] at hl;simp at hl;subst hl;exact Qm.sw (by rw [so l h2 h1];exact st.ob _ _ hx)
 ·simp at hl;simp only [jc];rw [so l (by omega) (by omega)];exact st.out l hl
 ·have:=st.inj _ _ _ _ _ _ _ e1 e2 e3 e4;rw [<-Iv a b l,this,Iv]
 ·obtain ⟨g1,g2,g3⟩:=st.sub (ZM a b l) i h p v n e1 e2;refine ⟨g1,fun l' h' v' q1 q2=>g2 _ _ _ q1 q2,fun l' i' h' v' n' q1 q2=>?_⟩;obtain ⟨k1,k2⟩:=g3 _ _ _ _ _ q1 q2;exact ⟨by rw [<-Iv a b l',k1,Iv],k2⟩
theorem Of {K:TK}: ∀(ps:List (Nat×Nat)) {F:RF} {G:List RF} {TS:List CI} {H:HF} {A:Frame} {AG:List Frame} {S:AB},Ua ps K F G TS->Dn H TS S->Cl H F A->EE H G AG->
  ∃H' F' G' TS',Dn H' TS' S/\Cl H' F' A/\EE H' G' AG/\K F' G' TS'
 | [],F,G,TS,H,A,AG,S,h,st,hF,hG=>⟨H,F,G,TS,st,hF,hG,h⟩
 | p::ps,F,G,TS,H,A,AG,S,h,st,hF,hG=>by
  simp only [Ua] at h;split at h
  ·exact Of ps h st hF hG
  ·rename_i hne;split at h
   ·rename_i x y hx hy;exact Of ps h (st.sw hx hy hne) hF.sw hG.sw
   ·exact h.elim
end Go.Vc
end
section
namespace Go.Vc
def eV {A B:Type}:(ws:List Sh)->PT ws A->PT ws B->(A->B->List TV->Prop)->Prop
 | [],p,m,f=>f p m []
 | .val t::r,p,m,f=> ∃x:T t,eV r (p x) (m x) fun p m xs=>f p m (bY t x::xs)
 | .sub l::r,p,m,f=> ∃(off:Int) (len:Int),eV r (p off len) (m off len) fun p m xs=>f p m (.sl l off len::xs)
 | .gz x::r,p,m,f=>eV r p m fun p m xs=>f p m (x::xs)
def eO {A B:Type}:(os:List oW)->PO os A->PO os B->(A->B->List CI->Prop)->Prop
 | [],p,m,f=>f p m []
 | .AW o::r,p,m,f=>eO r p m fun p m S=>f p m (o::S)
 | .row _ t::r,p,m,f=> ∃l:List (T t),eO r (p l) (m l) fun p m S=>f p m (.row t l::S)
 | .Eg _ t::r,p,m,f=> ∃l:List (List (T t)),eO r (p l) (m l) fun p m S=>f p m (.Eg t l::S)
 | .cells _ k shs::r,p,m,f=>eV shs p m fun p m cs=>eO r p m fun p m S=>f p m (.cells k cs::S)
theorem eh {A B:Type}: ∀(ws:List Sh) (ns:List String) (p:PT ws A) (m:PT ws B) {f g:A->B->List TV->Prop},qV ns ws p m f->eV ws p m g-> ∃a b xs,f a b xs/\g a b xs
 | [],ns,p,m,f,g,h,h'=>⟨p,m,[],h,h'⟩
 | .val t::r,ns,p,m,f,g,h,h'=>by
  simp only [qV,eV] at h h';obtain ⟨x,h'⟩:=h';obtain ⟨a,b,xs,h1,h2⟩:=eh r _ _ _ (h x) h';exact ⟨a,b,_,h1,h2⟩
 | .sub l::r,ns,p,m,f,g,h,h'=>by
  simp only [qV,eV] at h h';obtain ⟨x,y,h'⟩:=h';obtain ⟨a,b,xs,h1,h2⟩:=eh r _ _ _ (h x y) h';exact ⟨a,b,_,h1,h2⟩
 | .gz x::r,ns,p,m,f,g,h,h'=>by
  simp only [qV,eV] at h h';obtain ⟨a,b,xs,h1,h2⟩:=eh r _ _ _ h h';exact ⟨a,b,_,h1,h2⟩
theorem eg {A B:Type}: ∀(os:List oW) (p:PO os A) (m:PO os B) {f g:A->B->List CI->Prop},qO os p m f->eO os p m g-> ∃a b xs,f a b xs/\g a b xs
 | [],p,m,f,g,h,h'=>⟨p,m,[],h,h'⟩
 | .AW o::r,p,m,f,g,h,h'=>by
  simp only [qO,eO] at h h';obtain ⟨a,b,xs,h1,h2⟩:=eg r _ _ h h';exact ⟨a,b,_,h1,h2⟩
 | .row nm t::r,p,m,f,g,h,h'=>by
  simp only [qO,eO] at h h';obtain ⟨x,h'⟩:=h';obtain ⟨a,b,xs,h1,h2⟩:=eg r _ _ (h x) h';exact ⟨a,b,_,h1,h2⟩
 | .Eg nm t::r,p,m,f,g,h,h'=>by
  simp only [qO,eO] at h h';obtain ⟨x,h'⟩:=h';obtain ⟨a,b,xs,h1,h2⟩:=eg r _ _ (h x) h';exact ⟨a,b,_,h1,h2⟩
 | .cells nm k shs::r,p,m,f,g,h,h'=>by
  simp only [qO,eO] at h h';obtain ⟨p',m',cs,h1,h2⟩:=eh shs _ _ _ h h';obtain ⟨a,b,xs,g1,g2⟩:=eg r _ _ h1 h2;exact ⟨a,b,_,g1,g2⟩
theorem Gx {A B:Type}: ∀(ws:List Sh) (p:PT ws A) (m:PT ws B) {f g:A->B->List TV->Prop},(∀a b xs,f a b xs->g a b xs)->eV ws p m f->eV ws p m g
 | [],p,m,f,g,hm,h=>hm _ _ _ h
 | .val t::r,p,m,f,g,hm,h=>by
  simp only [eV] at*;obtain ⟨x,h⟩:=h;exact ⟨x,Gx r _ _ (fun a b xs=>hm a b _) h⟩
 | .sub l::r,p,m,f,g,hm,h=>by
  simp only [eV] at*;obtain ⟨x,y,h⟩:=h;exact ⟨x,y,Gx r _ _ (fun a b xs=>hm a b _) h⟩
 | .gz x::r,p,m,f,g,hm,h=>by
  simp only [eV] at*;exact Gx r _ _ (fun a b xs=>hm a b _) h
theorem Hm {A B:Type}: ∀(os:List oW) (p:PO os A) (m:PO os B) {f g:A->B->List CI->Prop},(∀a b xs,f a b xs->g a b xs)->eO os p m f->eO os p m g
 | [],p,m,f,g,hm,h=>hm _ _ _ h
 | .AW o::r,p,m,f,g,hm,h=>by
  simp only [eO] at*;exact Hm r _ _ (fun a b xs=>hm a b _) h
 | .row nm t::r,p,m,f,g,hm,h=>by
  simp only [eO] at*;obtain ⟨x,h⟩:=h;exact ⟨x,Hm r _ _ (fun a b xs=>hm a b _) h⟩
 | .Eg nm t::r,p,m,f,g,hm,h=>by
  simp only [eO] at*;obtain ⟨x,h⟩:=h;exact ⟨x,Hm r _ _ (fun a b xs=>hm a b _) h⟩
 | .cells nm k shs::r,p,m,f,g,hm,h=>by
  simp only [eO] at*;exact Gx shs _ _ (fun a b cs h=>Hm r _ _ (fun a b xs=>hm a b _) h) h
theorem ly {H:HF} {t:Ty} {x:TV} {a:T t} {y:AA} (h:Vj t x=some a) (hs:AE H x y) {H':HF}:AE H' (bY t a) y:=by
 cases t with
 | int k=>
  simp only [Vj,cP] at h;split at h
  ·rename_i k' n hi;split at h<;>cases h;rename_i hk;have hk:=H7 hk;subst hk;rw [E9 hi hs];simp [bY,AE]
  ·cases h
 | str=>
  simp only [Vj] at h;unfold cQ at h;split at h<;>cases h;simp only [AE] at hs;simpa [bY,AE] using hs
 | bool=>
  simp only [Vj] at h;rw [VH h hs];simp [bY,AE]
 | st fs=>
  simp only [Vj] at h;unfold cT at h;split at h
  ·split at h<;>cases h;rename_i hd;simp only [AE] at hs;obtain ⟨xs,rfl,hs⟩:=hs;obtain ⟨zs,rfl,hz⟩:=L8 fs hd hs;simp only [AN] at hz;subst hz;simp only [bY,AE];exact ⟨_,rfl,by rw [List.append_nil];exact LA fs _⟩
  ·cases h
 | sl e=>
  simp only [Vj] at h;split at h
  ·split at h<;>cases h;rename_i hh _;subst hh;simp only [AE] at hs;simpa only [bY,AE] using hs
  ·cases h
def og (n:Nat):Sh->Prop
 | .val _=>True
 | .sub l=>l<n
 | .gz x=>JX n x
def oh (n:Nat):oW->Prop
 | .AW (.cells _ cs)=>I9 n cs
 | .cells _ _ shs=> ∀s∈shs,og n s
 | _=>True
mutual
theorem pI: ∀ {x y:TV} {ps:List Prop},xA x y=some ps->GI ps->x=y
 | x,y,ps,h,hp=>by
  unfold xA at h;split at h
  ·split at h<;>cases h;rename_i hk;have hk:=H7 hk;subst hk;rw [hp.cons.1]
  ·cases h;rw [hp.cons.1]
  ·cases h;rw [hp.cons.1]
  ·cases h;rw [hp.cons.1]
  ·split at h<;>cases h;rename_i hh _;subst hh;have:=hp.cons.1;simp only at this;rw [this]
  ·split at h<;>cases h;rename_i hb;rw [beq_eq hb,hp.cons.1,hp.cons.2.cons.1]
  ·split at h
   ·rename_i hb;rw [beq_eq hb,RD h hp]
   ·cases h
  ·rw [RD h hp]
  ·rw [RD h hp]
  ·split at h<;>cases h;rename_i hs;exact MU hs
theorem RD: ∀ {xs ys:List TV} {ps:List Prop},Z_ xs ys=some ps->GI ps->xs=ys
 | [],[],_,_,_=>rfl
 | [],_::_,_,h,_=>by simp [Z_] at h
 | _::_,[],_,h,_=>by simp [Z_] at h
 | x::xs,y::ys,ps,h,hp=>by
  simp only [Z_] at h;split at h<;>cases h;rename_i h1 h2;rw [pI h1 fun q hq=>hp q (by simp [hq]),RD h2 fun q hq=>hp q (by simp [hq])]
end
theorem Nq {A B:Type} {H:HF} {TS:List CI} {S:AB} {n:Nat} (st:Dn H TS S): ∀(ws:List Sh) (p:PT ws A) (m:PT ws B) {xs:List TV} {ys:List AA} {f:A->B->Prop},(∀s∈ws,og n s)->aV TS ws p m xs f->AN H xs ys->
  eV ws p m fun a b xs'=>f a b/\AN (Fy n H) xs' ys
 | [],p,m,xs,ys,f,hn,h,hs=>by
  cases xs with
  | nil=>simp only [aV] at h;simp only [eV];exact ⟨h,by simpa [AN] using hs⟩
  | cons=>simp [aV] at h
 | .val t::r,p,m,xs,ys,f,hn,h,hs=>by
  cases xs with
  | nil=>simp [aV] at h
  | cons x xs=>
   simp only [aV] at h;split at h
   ·rename_i a ha;simp only [AN] at hs;obtain ⟨y,zs,rfl,h1,h2⟩:=hs;simp only [eV];exact ⟨a,Gx r _ _ (fun a b xs' ⟨g1,g2⟩=>⟨g1,by simp only [AN];exact ⟨_,_,rfl,ly ha h1,g2⟩⟩) (Nq st r _ _ (fun s hs=>hn s (by simp [hs])) h h2)⟩
   ·exact h.elim
 | .sub l::r,p,m,xs,ys,f,hn,h,hs=>by
  have hl:l<n:=hn (.sub l) (by simp);have go: ∀ {x:TV} {xs:List TV} {off len:Int},AN H (x::xs) ys->(∀y,AE H x y->AE H (.sl l off len) y)->aV TS r (p off len) (m off len) xs f->eV (.sub l::r) p m fun a b xs'=>f a b/\AN (Fy n H) xs' ys:=fun {x xs off len} hs hx h=>by
   simp only [AN] at hs;obtain ⟨y,zs,rfl,h1,h2⟩:=hs;simp only [eV];refine ⟨off,len,Gx r _ _ (fun a b xs' ⟨g1,g2⟩=>⟨g1,?_⟩) (Nq st r _ _ (fun s hs=>hn s (by simp [hs])) h h2)⟩;simp only [AN];exact ⟨_,_,rfl,PF hl (hx y h1),g2⟩
  cases xs with
  | nil=>simp [aV] at h
  | cons x xs=>
   cases x<;>simp only [aV] at h<;>first | exact h.elim | skip
   ·split at h
    ·rename_i hb ho;have e:=beq_eq hb;subst e;refine go hs (fun y hy=>?_) h;obtain ⟨loc,q1,q2⟩:=Dl st ho;simp only [AE] at hy |-;obtain ⟨hd,e1,rfl⟩:=hy;rw [q1] at e1;cases e1;exact ⟨_,q1,by omega,by omega,by simp only;omega,by simp⟩
    ·exact h.elim
   ·split at h
    ·rename_i hb;have e:=beq_eq hb;subst e;exact go hs (fun _ h=>h) h
    ·exact h.elim
 | .gz x0::r,p,m,xs,ys,f,hn,h,hs=>by
  have hl:JX n x0:=hn (.gz x0) (by simp);cases xs with
  | nil=>simp [aV] at h
  | cons x xs=>
   simp only [aV] at h;have fin:x0=x->aV TS r p m xs f->eV (.gz x0::r) p m fun a b xs'=>f a b/\AN (Fy n H) xs' ys:=fun e hk=>by
    subst e;simp only [AN] at hs;obtain ⟨y,zs,rfl,h1,h2⟩:=hs;simp only [eV];exact Gx r _ _ (fun a b xs' ⟨g1,g2⟩=>⟨g1,by simp only [AN];exact ⟨_,_,rfl,PF hl h1,g2⟩⟩) (Nq st r _ _ (fun s hs=>hn s (by simp [hs])) hk h2)
   split at h
   ·rename_i hsame;exact fin (MU hsame) h
   ·split at h
    ·rename_i ps FL;obtain ⟨h1,h2⟩:=Ef.1 h;exact fin (pI FL h1) h2
    ·exact h.elim
theorem uz {o o':CI} {ps:List Prop} (h:xO o o'=some ps) (hp:GI ps):o=o':=by
 unfold xO at h;split at h
 ·rfl
 ·split at h<;>cases h;rename_i hh _;subst hh;have:=hp.cons.1;simp only at this;rw [this]
 ·split at h<;>cases h;rename_i hh _;subst hh;have:=hp.cons.1;simp only at this;rw [this]
 ·split at h
  ·rename_i hb;rw [beq_eq hb,RD h hp]
  ·cases h
 ·cases h
theorem Qm.XE {H:HF} {S:AB} {n l:Nat} {o:CI} (h:Qm H S l o) (hl:l<n) (hr: ∀k cs,o= .cells k cs->I9 n cs):Qm (Fy n H) S l o:=by
 cases o with
 | dead=>simp only [Qm,GF hl] at*;exact h
 | cells k cs=>
  obtain ⟨p,v,xs,h1,h2,h3⟩:=h;exact ⟨p,v,xs,by rw [GF hl];exact h1,h2,JN (hr k cs rfl) h3⟩
 | row t ls=>
  obtain ⟨loc,h1,h2⟩:=h;exact ⟨loc,by rw [GF hl];exact h1,h2⟩
 | Eg t ls=>
  obtain ⟨p,v,sub,h1,h2,h3⟩:=h;exact ⟨p,v,sub,by rw [GF hl];exact h1,h2,h3⟩
theorem oi {H:HF} {cs cs':List TV} {xs:List AA} (h:AN H cs xs) {H':HF} (h':AN H' cs' xs):cs'.length=cs.length:=by rw [<-h.length,h'.length]
theorem Np {A B:Type} {H:HF} {TS:List CI} {S:AB} {n:Nat} (st:Dn H TS S): ∀(os:List oW) (p:PO os A) (m:PO os B) (i:Nat) {TL:List CI} {f:A->B->Prop},(∀s∈os,oh n s)->i+os.length<=n->(∀(l:Nat) o,TL[l]?=some o->Qm H S (i+l) o)->aO TS os p m TL f->
  eO os p m fun a b TS1=>f a b/\TS1.length=os.length/\ ∀(l:Nat) o,TS1[l]?=some o->Qm (Fy n H) S (i+l) o
 | [],p,m,i,TL,f,hn,hi,ho,h=>by simp only [aO] at h;simp only [eO];exact ⟨h,rfl,by simp⟩
 | .AW o::r,p,m,i,TL,f,hn,hi,ho,h=>by
  cases TL with
  | nil=>simp [aO] at h
  | cons o' TL=>
   simp only [aO] at h;split at h
   ·rename_i ps he;rw [Ef] at h;have e:=uz he h.1;subst e;simp only [eO];refine Hm r _ _ (fun a b TS1 ⟨g1,g2,g3⟩=>⟨g1,by simp [g2],fun l o1 hl=>?_⟩) (Np st r _ _ (i+1) (fun s hs=>hn s (by simp [hs])) (by simp at hi;omega) (fun l o1 hl=>by
     have:=ho (l+1) o1 (by simpa using hl);rwa [show i+(l+1)=i+1+l by omega] at this) h.2)
    cases l with
    | zero=>
     simp at hl;subst hl;refine (ho 0 o (by simp)).XE (by simp at hi;omega) fun k cs e=>?_;subst e;exact hn (.AW (.cells k cs)) (by simp)
    | succ l=>
     have:=g3 l o1 (by simpa using hl);rwa [show i+1+l=i+(l+1) by omega] at this
   ·exact h.elim
 | .row nm t::r,p,m,i,TL,f,hn,hi,ho,h=>by
  cases TL with
  | nil=>simp [aO] at h
  | cons o' TL=>
   cases o'<;>simp only [aO] at h<;>first | exact h.elim | skip
   split at h
   ·rename_i hh _;subst hh;simp only [eO];refine ⟨_,Hm r _ _ (fun a b TS1 ⟨g1,g2,g3⟩=>⟨g1,by simp [g2],fun l o1 hl=>?_⟩) (Np st r _ _ (i+1) (fun s hs=>hn s (by simp [hs])) (by simp at hi;omega) (fun l o1 hl=>by
     have:=ho (l+1) o1 (by simpa using hl);rwa [show i+(l+1)=i+1+l by omega] at this) h)⟩
    cases l with
    | zero=>
     simp at hl;subst hl;exact (ho 0 _ (by simp)).XE (by simp at hi;omega) (fun k cs e=>by cases e)
    | succ l=>
     have:=g3 l o1 (by simpa using hl);rwa [show i+1+l=i+(l+1) by omega] at this
   ·exact h.elim
 | .Eg nm t::r,p,m,i,TL,f,hn,hi,ho,h=>by
  cases TL with
  | nil=>simp [aO] at h
  | cons o' TL=>
   cases o'<;>simp only [aO] at h<;>first | exact h.elim | skip
   split at h
   ·rename_i hh _;subst hh;simp only [eO];refine ⟨_,Hm r _ _ (fun a b TS1 ⟨g1,g2,g3⟩=>⟨g1,by simp [g2],fun l o1 hl=>?_⟩) (Np st r _ _ (i+1) (fun s hs=>hn s (by simp [hs])) (by simp at hi;omega) (fun l o1 hl=>by
     have:=ho (l+1) o1 (by simpa using hl);rwa [show i+(l+1)=i+1+l by omega] at this) h)⟩
    cases l with
    | zero=>
     simp at hl;subst hl;exact (ho 0 _ (by simp)).XE (by simp at hi;omega) (fun k cs e=>by cases e)
    | succ l=>
     have:=g3 l o1 (by simpa using hl);rwa [show i+1+l=i+(l+1) by omega] at this
   ·exact h.elim
 | .cells nm k shs::r,p,m,i,TL,f,hn,hi,ho,h=>by
  cases TL with
  | nil=>simp [aO] at h
  | cons o' TL=>
   cases o'<;>simp only [aO] at h<;>first | exact h.elim | skip
   split at h
   ·rename_i k' cs hb;have e:=beq_eq hb;subst e;obtain ⟨q,v,xs,q1,q2,q3⟩:=ho 0 _ rfl;simp only [eO];refine Gx shs _ _ (fun a b cs' ⟨g1,g2⟩=>?_) (Nq (n:=n) st shs _ _ (hn (.cells nm k shs) (by simp)) h q3);refine Hm r _ _ (fun a b TS1 ⟨g1,g3,g4⟩=>⟨g1,by simp [g3],fun l o1 hl=>?_⟩) (Np st r _ _ (i+1) (fun s hs=>hn s (by simp [hs])) (by simp at hi;omega) (fun l o1 hl=>by
     have:=ho (l+1) o1 (by simpa using hl);rwa [show i+(l+1)=i+1+l by omega] at this) g1)
    cases l with
    | zero=>
     simp at hl;subst hl;refine ⟨q,v,xs,?_,q2,g2⟩;rw [GF (by simp at hi;omega),q1,oi q3 g2]
    | succ l=>
     have:=g4 l o1 (by simpa using hl);rwa [show i+1+l=i+(l+1) by omega] at this
   ·exact h.elim
theorem vX {n:Nat} {KL:List Nat} {x:TV} (h:JX n x):og n (xw KL x):=by
 unfold xw;split
 ·split
  ·trivial
  ·exact h
 ·exact h
 ·split
  ·exact h
  ·exact h
 ·split
  ·trivial
  ·exact h
theorem bL {n:Nat} {KL:List Nat}: ∀ {xs:List TV},I9 n xs-> ∀s∈X0 KL xs,og n s
 | [],_,s,hs=>by simp [X0] at hs
 | x::xs,h,s,hs=>by
  simp only [X0] at hs;rcases List.mem_cons.1 hs with rfl | hs
  ·exact vX h.1
  ·exact bL h.2 s hs
theorem fK {ms:List (Nat×String)} {KL:List Nat}: ∀(i:Nat) (TS:List CI),(R4 ms KL i TS).length=TS.length
 | _,[]=>rfl
 | i,o::TS=>by simp [R4,fK (i+1) TS]
theorem kq {n:Nat} {ms:List (Nat×String)} {KL:List Nat}: ∀(i:Nat) {TS:List CI},(∀o∈TS,∀k cs,o= .cells k cs->I9 n cs)-> ∀s∈R4 ms KL i TS,oh n s
 | _,[],_,s,hs=>by simp [R4] at hs
 | i,o::TS,h,s,hs=>by
  simp only [R4] at hs;rcases List.mem_cons.1 hs with rfl | hs
  ·split
   ·cases o with
    | dead=>trivial
    | row t l=>trivial
    | Eg t l=>trivial
    | cells k cs=>exact bL (h _ (by simp) k cs rfl)
   ·cases o with
    | dead=>trivial
    | row t l=>trivial
    | Eg t l=>trivial
    | cells k cs=>exact h _ (by simp) k cs rfl
  ·exact kq (i+1) (fun o ho=>h o (by simp [ho])) s hs
theorem uB {H:HF} {TS:List CI} {S:AB} (st:Dn H TS S): ∀o∈TS,∀k cs,o= .cells k cs->I9 TS.length cs:=fun o ho k cs e=>by
 subst e;obtain ⟨l,hl⟩:=List.getElem?_of_mem ho;obtain ⟨p,v,xs,h1,h2,h3⟩:=st.ob l _ hl;exact Kl st.out h3
end Go.Vc
end
section
namespace Go.Vc
theorem Kv {n l:Nat} {H:HF} {h:Hd} (e:Fy n H l=some h):H l=some h:=by
 simp only [Fy] at e;split at e
 ·exact e
 ·cases e
theorem vr {A B:Type}: ∀(ws:List Sh) (p:PT ws A) (m:PT ws B) (g:A->B->Nat->List TV->Prop),(eV ws p m fun a b xs=> ∃k,g a b k xs)-> ∃k,eV ws p m fun a b xs=>g a b k xs
 | [],p,m,g,h=>h
 | .val t::ws,p,m,g,h=>by simp only [eV] at*;obtain ⟨x,h⟩:=h;obtain ⟨k,h⟩:=vr ws _ _ _ h;exact ⟨k,x,h⟩
 | .sub l::ws,p,m,g,h=>by simp only [eV] at*;obtain ⟨x,y,h⟩:=h;obtain ⟨k,h⟩:=vr ws _ _ _ h;exact ⟨k,x,y,h⟩
 | .gz x::ws,p,m,g,h=>by simp only [eV] at*;exact vr ws _ _ _ h
theorem vp {A B:Type}: ∀(os:List oW) (p:PO os A) (m:PO os B) (g:A->B->Nat->List CI->Prop),(eO os p m fun a b xs=> ∃k,g a b k xs)-> ∃k,eO os p m fun a b xs=>g a b k xs
 | [],p,m,g,h=>h
 | .AW o::os,p,m,g,h=>by simp only [eO] at*;exact vp os _ _ _ h
 | .row nm t::os,p,m,g,h=>by simp only [eO] at*;obtain ⟨x,h⟩:=h;obtain ⟨k,h⟩:=vp os _ _ _ h;exact ⟨k,x,h⟩
 | .Eg nm t::os,p,m,g,h=>by simp only [eO] at*;obtain ⟨x,h⟩:=h;obtain ⟨k,h⟩:=vp os _ _ _ h;exact ⟨k,x,h⟩
 | .cells nm k shs::os,p,m,g,h=>by
  simp only [eO] at*;obtain ⟨k,h⟩:=vr shs _ _ _ (Gx _ _ _ (fun a b cs h=>vp os _ _ _ h) h);exact ⟨k,h⟩
theorem oq {A B:Type} {C:Prop}: ∀(ws:List Sh) (p:PT ws A) (m:PT ws B) {g:A->B->List TV->Prop},(∀a b xs,g a b xs->C)->eV ws p m g->C
 | [],p,m,g,hg,h=>hg _ _ _ h
 | .val t::ws,p,m,g,hg,h=>by simp only [eV] at h;obtain ⟨x,h⟩:=h;exact oq ws _ _ (fun a b xs=>hg a b _) h
 | .sub l::ws,p,m,g,hg,h=>by simp only [eV] at h;obtain ⟨x,y,h⟩:=h;exact oq ws _ _ (fun a b xs=>hg a b _) h
 | .gz x::ws,p,m,g,hg,h=>by simp only [eV] at h;exact oq ws _ _ (fun a b xs=>hg a b _) h
theorem oo {A B:Type} {C:Prop}: ∀(os:List oW) (p:PO os A) (m:PO os B) {g:A->B->List CI->Prop},(∀a b xs,g a b xs->C)->eO os p m g->C
 | [],p,m,g,hg,h=>hg _ _ _ h
 | .AW o::os,p,m,g,hg,h=>by simp only [eO] at h;exact oo os _ _ (fun a b xs=>hg a b _) h
 | .row nm t::os,p,m,g,hg,h=>by simp only [eO] at h;obtain ⟨x,h⟩:=h;exact oo os _ _ (fun a b xs=>hg a b _) h
 | .Eg nm t::os,p,m,g,hg,h=>by simp only [eO] at h;obtain ⟨x,h⟩:=h;exact oo os _ _ (fun a b xs=>hg a b _) h
 | .cells nm k shs::os,p,m,g,hg,h=>by simp only [eO] at h;exact oq shs _ _ (fun a b cs h=>oo os _ _ (fun a b xs=>hg a b _) h) h
section
variable {P : Program} {Γ : List (Nat × Ct)} {call : Nat -> List TV -> List RF -> List CI -> (TV -> List RF -> List CI -> Prop) -> Prop}
theorem jm {l:List C9} {d:Option (Nat×Nat×List Nat)} {AW:List Nat} {Q:Be->Frame->AB->Prop} {A:Frame} {S:AB}
  (h:Aj P (fun F' S'=>Q .normal (kF AW F') S') (match d with | some m=>m.1 | none=>0) l A (S++List.replicate (dQ d) .dead)):vc P (.ops l d AW) Q A S:=by
 have e: ∀(K:Frame->Prop) (F:Frame),Kh AW F K=K (kF AW F):=fun K F=>propext Fh;cases d with
 | none=>simpa only [vc,e,Aj,dQ,List.replicate_zero,List.append_nil] using h
 | some m=>simpa only [vc,e,dQ] using h
theorem Dn.vT {H:HF} {TS:List CI} {S:AB} (st:Dn H TS S) {l k:Nat} {cs cs':List TV} {p v:Nat} {xs:List AA} (hl:l<TS.length) (h1:H l=some ⟨some (p,v),k,cs'.length,[]⟩) (h2:S[p]?=some (.row v k xs)) (h3:AN H cs' xs):Dn H (TS.set l (.cells k cs')) S:=by
 refine ⟨fun m o hm=>?_,fun m hm=>st.out m (by simpa using hm),st.inj,st.sub⟩;by_cases e:m=l
 ·subst e;rw [List.getElem?_set_self hl] at hm;cases hm;exact ⟨p,v,xs,h1,h2,h3⟩
 ·rw [List.getElem?_set_ne (Ne.symm e)] at hm;exact st.ob m o hm
theorem Ug.trans' {H1 H2 H3:HF} (h:Ug H1 H2) (g:Ug H2 H3):Ug H1 H3:=fun l x e=>g l x (h l x e)
theorem TE: ∀(n:Nat) (ts:List Ty) (cs:List TV),(MM n ts cs).1.length=cs.length
 | n,[],cs=>by cases cs<;>rfl
 | n,t::ts,[]=>rfl
 | n,t::ts,c::cs=>by
  simp only [MM];split
  ·simp [TE (n+1) ts cs]
  ·simp [TE n ts cs]
theorem OI: ∀(ts:List Ty) {cs:List TV} {ys:List AA} {H:HF} {TS:List CI} {S:AB},Dn H TS S->AN H cs ys-> ∃H',Ug H H'/\Dn H' (TS++(MM TS.length ts cs).2) S/\AN H' (MM TS.length ts cs).1 ys
 | [],cs,ys,H,TS,S,st,hs=>by
  have e:MM TS.length [] cs=(cs,[]):=by cases cs<;>rfl
  rw [e];exact ⟨H,fun _ _ h=>h,by simpa using st,hs⟩
 | t::ts,[],ys,H,TS,S,st,hs=>⟨H,fun _ _ h=>h,by simpa [MM] using st,hs⟩
 | t::ts,c::cs,ys,H,TS,S,st,hs=>by
  simp only [AN] at hs;obtain ⟨y,zs,rfl,h1,h2⟩:=hs;simp only [MM];split
  ·rename_i e;simp only [AE] at h1;subst h1;obtain ⟨H1,g1,g2,g3⟩:=st.aq e;obtain ⟨H2,k1,k2,k3⟩:=OI ts g2 (h2.ext g1);have el:(TS++[CI.row e []]).length=TS.length+1:=by simp
   rw [el] at k2 k3;refine ⟨H2,g1.trans' k1,by simpa using k2,?_⟩;simp only [AN,AE];exact ⟨_,zs,rfl,⟨_,k1 _ _ g3,rfl⟩,k3⟩
  ·obtain ⟨H2,k1,k2,k3⟩:=OI ts st h2;refine ⟨H2,k1,k2,?_⟩;simp only [AN];exact ⟨y,zs,rfl,h1.ext k1,k3⟩
theorem LN {ty:List (Nat×Ty)} {F:RF}: ∀(Xk:List Nat) {H:HF} {TS:List CI} {S:AB},Dn H TS S-> ∃H',Ug H H'/\Dn H' (Wk ty F Xk TS) S
 | [],H,TS,S,st=>⟨H,fun _ _ h=>h,st⟩
 | s::ss,H,TS,S,st=>by
  simp only [Wk];split
  ·rename_i l t _ _;split
   ·rename_i k cs ho;obtain ⟨p,v,xs,q1,q2,q3⟩:=Oo st ho;obtain ⟨H1,g1,g2,g3⟩:=OI (kM t) st q3;rw [Fk,Wl,GP];have st2:=g2.vT (l:=l) (k:=k) (cs:=cs) (p:=p) (v:=v) (xs:=xs) (by have:=JH ho;simp;omega) (by rw [g1 _ _ q1,TE]) q2 g3;obtain ⟨H2,k1,k2⟩:=LN ss st2;exact ⟨H2,g1.trans' k1,k2⟩
   ·exact LN ss st
  ·exact LN ss st
theorem S9 {c:Prop} {Fb:RF}: ∀ {F:RF} {s:Nat} {gs:List (Nat×Bool)} {P:Prop} {z:TV},(s,gs,P,z)∈OB c Fb F->gs=[]/\P=True/\ ∃g p x Q y,(s,g,p,x)∈F/\BL Fb s=some ([],Q,y)/\Pq c x y=some z
 | [],s,gs,P,z,h=>by simp [OB] at h
 | (t,g,p,x)::F,s,gs,P,z,h=>by
  simp only [OB] at h;have rec_:(s,gs,P,z)∈OB c Fb F->gs=[]/\P=True/\ ∃g' p' x' Q y,(s,g',p',x')∈(t,g,p,x)::F/\BL Fb s=some ([],Q,y)/\Pq c x' y=some z:=fun h=>by
   obtain ⟨h1,h2,g',p',x',Q,y,h3,h4⟩:=S9 h;exact ⟨h1,h2,g',p',x',Q,y,by simp [h3],h4⟩
  split at h
  ·rename_i Q y hl;split at h
   ·rename_i w hw;rcases List.mem_cons.1 h with e | e
    ·cases e;exact ⟨rfl,rfl,g,p,x,Q,y,by simp,hl,hw⟩
    ·exact rec_ e
   ·exact rec_ h
  ·exact rec_ h
theorem VS {H:HF} {F:RF} {A:Frame} (hF:Cl H F A) {x:AO} {p:Prop} {y:TV} (hx:O_ F [] x=some y) (hy:oY y=some p):(p->Cl H (jS F x .tt) A)/\(¬p->Cl H (jS F x .ff) A):=by
 cases x with
 | c z=>exact ⟨fun _=>hF,fun _=>hF⟩
 | t n=>
  have key: ∀ {Q:Prop} {z:TV} {v:TV},BL F n=some ([],Q,z)->AE H v (A.get n)->Cl H ((n,[],True,v)::F) A:=fun {Q z v} hl hv s gs P u hu=>by
   simp only [BL] at hu;split at hu
   ·rename_i hb;cases hu;rw [<-beq_eq hb];exact Il hv
   ·exact hF _ _ _ _ hu
  have same: ∀ {Q:Prop} {z:TV},BL F n=some ([],Q,z)->y=z:=fun {Q z} hl=>by
   simp only [O_,hl,jb] at hx;cases hx;rfl
  simp only [jS];split
  ·rename_i Q q hl;have e:=same hl;subst e;simp only [oY] at hy;cases hy;have hs:=(hF _ _ _ _ hl).on BD;simp only [AE] at hs;obtain ⟨b,e,hb⟩:=hs;exact ⟨fun h=>key hl (by simp only [AE];rw [e,hb.2 h]),fun h=>key hl (by simp only [AE];rw [e];cases b;rfl;exact (h (hb.1 rfl)).elim)⟩
  ·rename_i Q b hl;have e:=same hl;subst e;simp only [oY] at hy;cases hy;have hs:=(hF _ _ _ _ hl).on BD;simp only [AE] at hs;exact ⟨fun h=>key hl (by simp only [AE];rw [hs,h]),fun h=>key hl (by simp only [AE];rw [hs];cases b;rfl;exact (h rfl).elim)⟩
  ·exact ⟨fun _=>hF,fun _=>hF⟩
theorem mB (hΓ:Cons P Γ) (hi:Hi) {TS:List CI} {H:HF} {S:AB} (st:Dn H TS S): ∀(c:Ag) {F F':RF} {ps:List Prop} {A:Frame} {Q':Be->Frame->AB->Prop},Cl H F A->YT Γ hi TS c F=some (ps,F')->GI ps->
  (∀A',Cl H F' A'->Q' .normal A' S)->vc P c Q' A S:=by
 have app: ∀ {a b:List Prop},GI (a++b)->GI a/\GI b:=fun {a b} h=>⟨fun p hp=>h p (by simp [hp]),fun p hp=>h p (by simp [hp])⟩
 intro c
 induction c with
 | skip=>
  intro F F' ps A Q' hF h FL hk;simp only [YT,Option.some.injEq,Prod.mk.injEq] at h;obtain ⟨_,rfl⟩:=h;exact hk _ hF
 | ops l d AW=>
  intro F F' ps A Q' hF h FL hk;simp only [YT] at h;split at h
  ·cases h
  ·rename_i h0;split at h<;>cases h;rename_i F1 he;refine jm ?_;rw [h0,List.replicate_zero,List.append_nil];exact IB hΓ hi st l _ hF he FL fun A' hA=>hk _ (Jl hA AW)
 | seq a b iha ihb=>
  intro F F' ps A Q' hF h FL hk;simp only [YT] at h;split at h
  ·rename_i ps1 F1 h1;split at h<;>cases h;rename_i qs h2;obtain ⟨p1,p2⟩:=app FL;simp only [vc];exact iha hF h1 p1 fun A1 hA=>ihb hA h2 p2 hk
  ·cases h
 | join AW W n a b iha ihb=>
  intro F F' ps A Q' hF h FL hk;simp only [YT] at h;split at h
  ·rename_i ps1 F1 h1;split at h<;>cases h;rename_i qs h2;obtain ⟨p1,p2⟩:=app FL;simp only [vc];intro K hK;rw [Fh,KX] at hK;refine iha hF h1 p1 fun A1 hA=>?_;simp only [Be.D_,FY];refine hK _ (by simp) S (ihb ?_ h2 p2 hk);exact (SH (Jl hF AW) (NA F AW) W (JB hA W)).1
  ·cases h
 | cond x a b iha ihb=>
  intro F F' ps A Q' hF h FL hk;simp only [YT] at h;simp only [vc,AD];split at h
  ·rename_i hx;have:=Bm hF BD hx;simp only [AE] at this;rw [this];exact ⟨fun _=>iha hF h FL hk,fun e=>by cases e⟩
  ·rename_i hx;have:=Bm hF BD hx;simp only [AE] at this;rw [this];exact ⟨fun e=>(by cases e),fun _=>ihb hF h FL hk⟩
  ·rename_i y _ _ hx;split at h
   ·rename_i p psa Fa psb Fb hp ha hb;cases h;obtain ⟨p1,p2⟩:=app FL;rw [PH] at p1 p2;have hs:=Bm hF BD hx;have ya:p->vc P a Q' A S:=fun hp'=>iha ((VS hF hx hp).1 hp') ha (p1 hp') fun A' hA=>hk _ fun s gs Q z hz=>by
     obtain ⟨rfl,rfl,g,q,u,Q2,v,m1,m2,m3⟩:=S9 (MF hz);obtain ⟨_,_,_,Q3,m4⟩:=MI m1;exact Il ((Jp m3).1 hp' _ ((hA _ _ _ _ m4).on BD))
    have yb: ¬p->vc P b Q' A S:=fun hp'=>ihb ((VS hF hx hp).2 hp') hb (p2 hp') fun A' hA=>hk _ fun s gs Q z hz=>by
     obtain ⟨rfl,rfl,g,q,u,Q2,v,m1,m2,m3⟩:=S9 (MF hz);exact Il ((Jp m3).2 hp' _ ((hA _ _ _ _ m2).on BD))
    cases y<;>simp only [oY] at hp<;>cases hp<;>simp only [AE] at hs
    ·rw [hs];exact ⟨fun _=>ya trivial,fun e=>by cases e⟩
    ·rw [hs];exact ⟨fun e=>(by cases e),fun _=>yb id⟩
    ·rw [hs];exact ⟨fun e=>ya e,fun e=>yb (by simp [e])⟩
    ·obtain ⟨w,e,hw⟩:=hs;rw [e];exact ⟨fun e=>ya (hw.1 e),fun e=>yb fun q=>by rw [hw.2 q] at e;cases e⟩
    ·rcases hs with ⟨e,hq⟩ | ⟨e,hq⟩<;>rw [e]
     ·exact ya hq
     ·exact yb hq
   ·cases h
  ·cases h
 | block id a iha=>
  intro F F' ps A Q' hF h FL hk;simp only [YT] at h;simp only [vc];exact iha hF h FL fun A' hA=>hk _ hA
 | loop AW W n a _=>intro F F' ps A Q' hF h;simp [YT] at h
 | exit id=>intro F F' ps A Q' hF h;simp [YT] at h
 | ret=>intro F F' ps A Q' hF h;simp [YT] at h
def uh (AG:List Frame) (Q:Be->TK) (Q':Be->Frame->AB->Prop):Prop:=
 ∀e A' S' H' F' G' TS',Dn H' TS' S'->Cl H' F' A'->EE H' G' AG->Q e F' G' TS'->Q' e A' S'
theorem O7 {AG:List Frame} {Q:Be->TK} {Q':Be->Frame->AB->Prop} {A0:Frame} (h:uh AG Q Q'):uh (A0::AG) (vK Q) Q':=fun e A' S' H' F' G' TS' st hF hG hq=>by
 cases hG with
 | cons a b=>exact h e A' S' H' F' _ TS' st hF b hq
theorem n_ (hΓ:Cons P Γ) (hC:ZV P call) (hi:Hi): ∀(c:Ag) (an:An) {Q:Be->TK} {Q':Be->Frame->AB->Prop} {F:RF} {G:List RF} {TS:List CI} {H:HF} {A:Frame} {AG:List Frame} {S:AB},
  Dn H TS S->Cl H F A->EE H G AG->bZ Γ call hi c an Q F G TS->uh AG Q Q'->vc P c Q' A S:=by
 intro c
 induction c with
 | skip=>intro an Q Q' F G TS H A AG S st hF hG h hk;exact hk _ _ _ _ _ _ _ st hF hG h
 | exit id=>intro an Q Q' F G TS H A AG S st hF hG h hk;exact hk _ _ _ _ _ _ _ st hF hG h
 | ret=>intro an Q Q' F G TS H A AG S st hF hG h hk;exact hk _ _ _ _ _ _ _ st hF hG h
 | ops l d AW=>
  intro an Q Q' F G TS H A AG S st hF hG h hk;simp only [bZ] at h;split at h
  ·rename_i h0;refine jm ?_;rw [h0,List.replicate_zero,List.append_nil];exact Eo hΓ hC hi l _ st hF hG h fun A' S' H' F' G' TS' q1 q2 q3 q4=>hk _ _ _ _ _ _ _ q1 (Jl q2 AW) q3 q4
  ·rename_i r h0;split at h
   ·rename_i m;split at h
    ·rename_i ps F1 hb he;have hb:=beq_eq hb;rw [Ef] at h;refine jm ?_;rw [h0];have el:l=l.take m.1++l.drop m.1:=(List.take_append_drop _ _).symm;have st':Dn H TS (S++List.replicate (r+1) .dead):=⟨fun j o hj=>(st.ob j o hj).ext (fun _ _ h=>h) (fun p x hp=>by rw [List.getElem?_append_left (List.getElem?_eq_some_iff.1 hp).1];exact hp) (fun h=>h),st.out,st.inj,fun l i h p v n e1 e2=>by rw [List.length_append];have g:=st.sub l i h p v n e1 e2;exact ⟨by have:=g.1;omega,g.2⟩⟩
     have main:Aj P (fun A' S'=>BK P (fun F' S'=>Q' .normal (kF AW F') S') (l.drop m.1) A' S') (l.take m.1).length (l.take m.1) A (S++List.replicate (r+1) .dead):=by
      refine IB hΓ hi st' _ _ hF he h.1 fun A' hA=>?_;refine NK hΓ hi _ (r+1) st' hA hG h.2 (by simp) (fun d h1 h2=>?_) fun rest A2 S2 H2 F2 G2 TS2 q1 q2 q3 q4=>?_
      ·simp only [List.length_append,List.length_replicate];rw [List.getElem?_append_right (by omega),List.getElem?_replicate,if_pos (by omega)]
      ·have:=Eo hΓ hC hi rest 0 q1 q2 q3 q4 (K':=fun F' S'=>Q' .normal (kF AW F') S') fun A' S' H' F' G' TS' q1 q2 q3 q4=>hk _ _ _ _ _ _ _ q1 (Jl q2 AW) q3 q4;simpa only [Aj] using this
     have main:=Qd _ main;rw [hb,<-el] at main;exact main
    ·exact h.elim
   ·exact h.elim
 | seq a b iha ihb=>
  intro an Q Q' F G TS H A AG S st hF hG h hk;simp only [bZ] at h;simp only [vc];refine iha _ st hF hG h fun e A' S' H' F' G' TS' q1 q2 q3 q4=>?_;cases e with
  | normal=>exact ihb _ q1 q2 q3 q4 hk
  | exit id=>exact hk _ _ _ _ _ _ _ q1 q2 q3 q4
  | ret=>exact hk _ _ _ _ _ _ _ q1 q2 q3 q4
 | join AW W n a b iha ihb=>
  intro an Q Q' F G TS H A AG S st hF hG h hk;simp only [bZ] at h;simp only [vc];intro K hK;rw [Fh,KX] at hK;split at h
  ·rename_i ps F' he;rw [Ef] at h;refine mB hΓ hi st a hF he h.1 fun A1 hA=>?_;simp only [Be.D_,FY];exact hK _ (by simp) S (ihb _ st (SH (Jl hF AW) (NA F AW) W (JB hA W)).1 hG h.2 hk)
  ·refine iha _ st hF (.cons (Jl hF AW) hG) h fun e A' S' H' F' G' TS' q1 q2 q3 q4=>?_;cases e with
   | normal=>
    simp only [Be.D_,FY];cases q3 with
    | cons f1 f2=>exact hK _ (by simp) S' (ihb _ q1 (SH (nN f1 AW) (NA _ AW) W (JB q2 W)).1 f2 q4 hk)
   | exit id=>exact O7 hk _ _ _ _ _ _ _ q1 q2 q3 q4
   | ret=>exact O7 hk _ _ _ _ _ _ _ q1 q2 q3 q4
 | cond x a b iha ihb=>
  intro an Q Q' F G TS H A AG S st hF hG h hk;simp only [bZ] at h;simp only [vc,AD];split at h
  ·rename_i hx;have:=Bm hF BD hx;simp only [AE] at this;rw [this];exact ⟨fun _=>iha _ st hF hG h hk,fun e=>by cases e⟩
  ·rename_i hx;have:=Bm hF BD hx;simp only [AE] at this;rw [this];exact ⟨fun e=>(by cases e),fun _=>ihb _ st hF hG h hk⟩
  ·rename_i y _ _ hx;split at h
   ·rename_i p hp;have hs:=Bm hF BD hx;have ya:p->vc P a Q' A S:=fun hp'=>iha _ st ((VS hF hx hp).1 hp') hG (h.1 hp') hk;have yb: ¬p->vc P b Q' A S:=fun hp'=>ihb _ st ((VS hF hx hp).2 hp') hG (h.2 hp') hk;cases y<;>simp only [oY] at hp<;>cases hp<;>simp only [AE] at hs
    ·rw [hs];exact ⟨fun _=>ya trivial,fun e=>by cases e⟩
    ·rw [hs];exact ⟨fun e=>(by cases e),fun _=>yb id⟩
    ·rw [hs];exact ⟨fun e=>ya e,fun e=>yb (by simp [e])⟩
    ·obtain ⟨w,e,hw⟩:=hs;rw [e];exact ⟨fun e=>ya (hw.1 e),fun e=>yb fun q=>by rw [hw.2 q] at e;cases e⟩
    ·rcases hs with ⟨e,hq⟩ | ⟨e,hq⟩<;>rw [e]
     ·exact ya hq
     ·exact yb hq
   ·exact h.elim
  ·exact h.elim
 | block id a iha=>
  intro an Q Q' F G TS H A AG S st hF hG h hk;simp only [bZ] at h;simp only [vc];refine iha _ st hF hG h fun e A' S' H' F' G' TS' q1 q2 q3 q4=>?_;cases e with
  | normal=>exact hk _ _ _ _ _ _ _ q1 q2 q3 q4
  | exit id'=>
   simp only [yD] at q4;simp only [Be.Hr];cases hb:Nat.beq id' id<;>rw [hb] at q4<;>exact hk _ _ _ _ _ _ _ q1 q2 q3 q4
  | ret=>exact hk _ _ _ _ _ _ _ q1 q2 q3 q4
 | loop AW W n a iha=>
  intro an Q Q' F G TS H A AG S st hF hG h hk;simp only [bZ,rJ] at h;obtain ⟨H2,hle,st2⟩:=LN (ty:=hi.ty) (F:=F) an.Xk st;replace hF:=hF.ext hle;replace hG:=hG.ext hle;clear st hle;generalize Wk hi.ty F an.Xk TS=TS3 at h st2;clear TS H
  revert H2 hF hG TS3 h st2
  intro H hF hG TS h st;simp only [uc] at h;generalize si (mO hi.nm F TS an.KL)=SB at h;generalize mO hi.nm F TS an.Xk=MS at h;obtain ⟨I,m,h0,hstep⟩:=h;have ho:bt TS.length H:=st.out;have hws: ∀s∈X0 SB (LD F W),og TS.length s:=bL (Kl ho (JB hF W));have hos: ∀s∈R4 MS SB 0 TS,oh TS.length s:=kq 0 (uB st);have hol:(R4 MS SB 0 TS).length=TS.length:=fK 0 TS;have back: ∀ {H':HF} {TS':List CI} {xs:List TV} {ys:List AA} {S':AB} {f:Prop->Nat->Prop},Dn H' TS' S'->AN H' xs ys->Cl (Fy TS.length H') (GQ F AW) (kF AW A)->EE (Fy TS.length H') G AG->
    (aV TS' (X0 SB (LD F W)) I m xs fun I' m'=>aO TS' (R4 MS SB 0 TS) I' m' TS' f)->
    eV (X0 SB (LD F W)) I m fun I1 m1 txs=>eO (R4 MS SB 0 TS) I1 m1 fun I2 m2 TS1=>f I2 m2/\ ∃H1,Dn H1 TS1 S'/\AN H1 txs ys/\Cl H1 (GQ F AW) (kF AW A)/\EE H1 G AG:=by
   intro H' TS' xs ys S' f st' hs hF0 hG0 ha;refine Gx _ _ _ (fun I1 m1 txs ⟨g1,g2⟩=>?_) (Nq (n:=TS.length) st' _ _ _ hws ha hs);refine Hm _ _ _ (fun I2 m2 TS1 ⟨g3,g4,g5⟩=>?_) (Np (n:=TS.length) st' _ _ _ 0 hos (by rw [hol];omega) (fun l o hl=>by rw [Nat.zero_add];exact st'.ob l o hl) g1);refine ⟨g3,Fy TS.length H',⟨fun l o hl=>?_,fun l hl=>?_,fun l l' h h' p v v' e1 e2 e3 e4=>?_,fun l i h p v n e1 e2=>?_⟩,g2,hF0,hG0⟩
   ·have:=g5 l o hl;rwa [Nat.zero_add] at this
   ·rw [g4,hol] at hl;simp only [Fy];rw [if_neg (by omega)]
   ·exact st'.inj _ _ _ _ _ _ _ (Kv e1) (Kv e2) e3 e4
   ·obtain ⟨k1,k2,k3⟩:=st'.sub _ _ _ _ _ _ (Kv e1) e2;exact ⟨k1,fun l' h' v' q1 q2=>k2 _ _ _ (Kv q1) q2,fun l' i' h' v' n' q1 q2=>k3 _ _ _ _ _ (Kv q1) q2⟩
  have tr:Fy TS.length H=H:=by
   funext l;simp only [Fy];split
   ·rfl
   ·rename_i hl;exact (ho l (by omega)).symm
  simp only [vc];refine ⟨fun k xs os=>eV (X0 SB (LD F W)) I m fun I1 m1 txs=>eO (R4 MS SB 0 TS) I1 m1 fun I2 m2 TS1=>(I2/\m2=k)/\ ∃H1,Dn H1 TS1 os/\AN H1 txs xs/\Cl H1 (GQ F AW) (kF AW A)/\EE H1 G AG,?_,?_⟩
  ·rw [FY];have b:=back (f:=fun I _=>I) st (JB hF W) (by rw [tr];exact Jl hF AW) (by rw [tr];exact hG) h0;obtain ⟨k,hk⟩:=vr _ _ _ (fun I1 m1 k txs=>eO (R4 MS SB 0 TS) I1 m1 fun I2 m2 TS1=>(I2/\m2=k)/\ ∃H1,Dn H1 TS1 S/\AN H1 txs (W.map A.get)/\Cl H1 (GQ F AW) (kF AW A)/\EE H1 G AG)
    (Gx _ _ _ (fun a b txs h=>vp _ _ _ _ (Hm _ _ _ (fun I2 m2 TS1 ⟨g1,g2⟩=>⟨m2,⟨g1,rfl⟩,g2⟩) h)) b)
   exact ⟨k,hk⟩
  ·rw [Fh,KX];intro xs _ k os hI;obtain ⟨I1,m1,txs,q1,q2⟩:=eh _ _ _ _ hstep hI;obtain ⟨I2,m2,TS1,q3,⟨q4,q5⟩,H1,q6,q7,q8,q9⟩:=eg _ _ _ q1 q2;have ho1:bt TS1.length H1:=q6.out;refine iha _ q6 (SH q8 (NA F AW) W q7).1 (.cons q8 q9) (q3 q4) fun e A' S' H' F' G' TS' r1 r2 r3 r4=>?_;cases e with
   | normal=>
    simp only [Be.D_,FY];obtain ⟨H2,F2,G2,TS2,s1,s2,s3,s4⟩:=Of _ r4 r1 r2 r3;cases s3 with
    | cons f1 f2=>
     simp only at s4;split at s4
     ·rename_i e1 e2;have b:=back s1 (JB s2 W) (fB e1 (Jl hF AW) f1 ho) (ZE ho e2 hG f2) s4;obtain ⟨k',hk'⟩:=vr _ _ _ (fun J1 n1 k' txs=>eO (R4 MS SB 0 TS) J1 n1 fun J2 n2 TS1=>(k'<k/\J2/\n2=k')/\ ∃H1,Dn H1 TS1 S'/\AN H1 txs (W.map A'.get)/\Cl H1 (GQ F AW) (kF AW A)/\EE H1 G AG)
       (Gx _ _ _ (fun a b txs h=>vp _ _ _ _ (Hm _ _ _ (fun J2 n2 TS1 ⟨⟨g1,g1'⟩,g2⟩=>⟨n2,⟨by rw [<-q5];exact g1',g1,rfl⟩,g2⟩) h)) b)
      have lt:k'<k:=by
       exact oq _ _ _ (fun a b xs h=>oo _ _ _ (fun J2 n2 TS1 h=>h.1.1) h) hk'
      exact ⟨k',lt,Gx _ _ _ (fun a b txs h=>Hm _ _ _ (fun J2 n2 TS1 ⟨⟨_,g1,g2⟩,g3⟩=>⟨⟨g1,g2⟩,g3⟩) h) hk'⟩
     ·exact s4.elim
   | exit id=>exact O7 hk _ _ _ _ _ _ _ r1 r2 r3 r4
   | ret=>exact O7 hk _ _ _ _ _ _ _ r1 r2 r3 r4
end
end Go.Vc
end
