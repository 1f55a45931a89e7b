/- Part of the proof of topEngine_holds: the whole is true of every input. Conditions: none. -/
import Derived.Test.YtlibocgedgdmlaaGreatQ7
set_option linter.all false
section
namespace Go.Vc
def kF (AW:List Nat) (A:Frame):Frame:=AW.map fun t=>(t,A.get t)
theorem oD {A:Frame}: ∀ {AW:List Nat} {s:Nat},s∈AW->Frame.get (kF AW A) s=A.get s
 | [],s,h=>by cases h
 | t::AW,s,h=>by
  simp only [kF,List.map_cons];rw [Gj];split
  ·rename_i e;rw [e]
  ·rename_i e;exact oD (by rcases List.mem_cons.1 h with q | q;exact (e q.symm).elim;exact q)
theorem La {F:RF}: ∀ {AW:List Nat} {s:Nat} {gs:List (Nat×Bool)} {P:Prop} {x:TV},(s,gs,P,x)∈Fh F AW->s∈AW/\gs=[]/\P=True/\ ∃Q,BE F s=some ([],Q,x)
 | [],s,gs,P,x,h=>by simp [Fh] at h
 | t::AW,s,gs,P,x,h=>by
  simp only [Fh] at h;split at h
  ·rename_i Q y hl;rcases List.mem_cons.1 h with e | e
   ·cases e;exact ⟨by simp,rfl,rfl,Q,hl⟩
   ·obtain ⟨h1,h2⟩:=La e;exact ⟨by simp [h1],h2⟩
  ·obtain ⟨h1,h2⟩:=La h;exact ⟨by simp [h1],h2⟩
section
variable {H : HF} {F : RF} {A : Frame}
theorem Hr {s:Nat} {x:TV} (h:AE H x (A.get s)):iA H A s [] True x:=⟨fun _=>h,fun q=>(q A9).elim,⟨fun _=>trivial,fun _=>A9⟩⟩
theorem Iv (hF:CS H F A) (AW:List Nat):CS H (Fh F AW) (kF AW A):=fun s gs P x hx=>by
 obtain ⟨h1,rfl,rfl,Q,hl⟩:=La (LW hx);exact Hr (by rw [oD h1];exact (hF _ _ _ _ hl).on A9)
theorem lR (hF:CS H F A) (AW:List Nat):CS H (Fh F AW) A:=fun s gs P x hx=>by
 obtain ⟨h1,rfl,rfl,Q,hl⟩:=La (LW hx);exact Hr ((hF _ _ _ _ hl).on A9)
theorem Rw (hF:CS H F A) (t:Nat):AE H (PA F t) (A.get t):=by
 unfold PA;split
 ·rename_i x hl;exact (hF _ _ _ _ hl).on A9
 ·simp [AE]
theorem IH (hF:CS H F A): ∀W:List Nat,AJ H (KZ F W) (W.map A.get)
 | []=>by simp [KZ,AJ]
 | t::W=>by simp only [KZ,List.map_cons,AJ];exact ⟨_,_,rfl,Rw hF t,IH hF W⟩
def YD (F:RF):Prop:= ∀s gs P x,BE F s=some (gs,P,x)->gs=[]/\P=True
theorem MQ (F:RF) (AW:List Nat):YD (Fh F AW):=fun s gs P x hx=>by
 obtain ⟨_,h1,h2,_⟩:=La (LW hx);exact ⟨h1,h2⟩
theorem RN {F0:RF} {A0:Frame} (h0:CS H F0 A0) (hp:YD F0): ∀(W:List Nat) {xs:List TV} {ys:List AA},AJ H xs ys->CS H (T1 W xs F0) (Ei W ys A0)/\YD (T1 W xs F0)
 | [],xs,ys,h=>by cases xs<;>cases ys<;>exact ⟨by simpa [T1,Ei] using h0,by simpa [T1] using hp⟩
 | t::W,[],ys,h=>by simp only [AJ] at h;subst h;exact ⟨by simpa [T1,Ei] using h0,by simpa [T1] using hp⟩
 | t::W,x::xs,ys,h=>by
  simp only [AJ] at h;obtain ⟨y,zs,rfl,h1,h2⟩:=h;obtain ⟨g1,g2⟩:=RN h0 hp W h2;refine ⟨fun s gs P z hz=>?_,fun s gs P z hz=>?_⟩<;>simp only [T1,BE] at hz
  ·simp only [Ei];split at hz
   ·rename_i hb;cases hz;rw [<-beq_eq hb];exact Hr (by rw [Gj,if_pos rfl];exact h1)
   ·rename_i hb;have hne:t≠s:=fun e=>by subst e;simp at hb
    obtain ⟨rfl,rfl⟩:=g2 _ _ _ _ hz;exact Hr (by rw [Gj,if_neg hne];exact (g1 _ _ _ _ hz).on A9)
  ·split at hz
   ·cases hz;exact ⟨rfl,rfl⟩
   ·exact g2 _ _ _ _ hz
end
mutual
def Ij (n:Nat):TV->Prop
 | .ptr l _=>l<n
 | .H7 l _ _=>l<n
 | .WL l _=>l<n
 | .FN l _ _ _ _=>l<n
 | .HW l=>l<n
 | .ifs _ l=>l<n
 | .sl l _ _=>l<n
 | .agg cs=>IE n cs
 | .DG cs=>IE n cs
 | .Fm cs=>IE n cs
 | .fn _ cs=>IE n cs
 | _=>True
def IE (n:Nat):List TV->Prop
 | []=>True
 | x::xs=>Ij n x/\IE n xs
end
def Zu (n:Nat) (H:HF):Prop:= ∀l,n<=l->H l=none
theorem Zu.lt {n l:Nat} {H:HF} {h:Hd} (ho:Zu n H) (hl:H l=some h):l<n:=by
 rcases Nat.lt_or_ge l n with q | q
 ·exact q
 ·rw [ho l q] at hl;cases hl
def FL (n:Nat) (H:HF):HF:=fun l=>if l<n then H l else none
theorem FT {n l:Nat} {H:HF} (h:l<n):FL n H l=H l:=by simp [FL,h]
mutual
theorem jT {H:HF} {n:Nat} (ho:Zu n H): ∀ {x:TV} {y:AA},AE H x y->Ij n x
 | .ptr l off,_,h=>by simp only [AE] at h;obtain ⟨_,_,_,h,_⟩:=h;exact ho.lt h
 | .H7 l _ _,_,h=>by simp only [AE] at h;obtain ⟨_,_,_,h,_⟩:=h;exact ho.lt h
 | .WL l _,_,h=>by simp only [AE] at h;obtain ⟨_,_,h,_⟩:=h;exact ho.lt h
 | .FN l _ _ _ _,_,h=>by simp only [AE] at h;obtain ⟨_,_,_,_,h,_⟩:=h;exact ho.lt h
 | .HW l,_,h=>by simp only [AE] at h;obtain ⟨_,h,_⟩:=h;exact ho.lt h
 | .ifs _ l,_,h=>by simp only [AE] at h;obtain ⟨_,h,_⟩:=h;exact ho.lt h
 | .sl l _ _,_,h=>by simp only [AE] at h;obtain ⟨_,h,_⟩:=h;exact ho.lt h
 | .agg cs,_,h=>by simp only [AE] at h;obtain ⟨_,_,h⟩:=h;exact J7 ho h
 | .DG cs,_,h=>by simp only [AE] at h;obtain ⟨_,_,h⟩:=h;exact J7 ho h
 | .Fm cs,_,h=>by simp only [AE] at h;obtain ⟨_,_,h⟩:=h;exact J7 ho h
 | .fn _ cs,_,h=>by simp only [AE] at h;obtain ⟨_,_,h⟩:=h;exact J7 ho h
 | .Ci,_,_ | .tt,_,_ | .ff,_,_ | .bb _,_,_ | .pr _,_,_ | .gd _,_,_ | .int _ _,_,_ | .byte _,_,_ | .str _,_,_ | .Bp,_,_ | .H8,_,_ | .H9,_,_ | .MN,_,_ | .AM,_,_ | .Zs _,_,_ | .Em _ _,_,_=>trivial
theorem J7 {H:HF} {n:Nat} (ho:Zu n H): ∀ {x:List TV} {y:List AA},AJ H x y->IE n x
 | [],_,_=>trivial
 | x::xs,_,h=>by simp only [AJ] at h;obtain ⟨_,_,_,h1,h2⟩:=h;exact ⟨jT ho h1,J7 ho h2⟩
end
mutual
theorem OZ {H:HF} {n:Nat}: ∀ {x:TV} {y:AA},Ij n x->AE H x y->AE (FL n H) x y
 | .ptr l off,_,r,h=>by simp only [Ij] at r;simpa only [AE,FT r] using h
 | .H7 l _ _,_,r,h=>by simp only [Ij] at r;simpa only [AE,FT r] using h
 | .WL l _,_,r,h=>by simp only [Ij] at r;simpa only [AE,FT r] using h
 | .FN l _ _ _ _,_,r,h=>by simp only [Ij] at r;simpa only [AE,FT r] using h
 | .HW l,_,r,h=>by simp only [Ij] at r;simpa only [AE,FT r] using h
 | .ifs _ l,_,r,h=>by simp only [Ij] at r;simpa only [AE,FT r] using h
 | .sl l _ _,_,r,h=>by simp only [Ij] at r;simpa only [AE,FT r] using h
 | .agg cs,_,r,h=>by simp only [Ij] at r;simp only [AE] at*;obtain ⟨a,b,h⟩:=h;exact ⟨a,b,IX r h⟩
 | .DG cs,_,r,h=>by simp only [Ij] at r;simp only [AE] at*;obtain ⟨a,b,h⟩:=h;exact ⟨a,b,IX r h⟩
 | .Fm cs,_,r,h=>by simp only [Ij] at r;simp only [AE] at*;obtain ⟨a,b,h⟩:=h;exact ⟨a,b,IX r h⟩
 | .fn _ cs,_,r,h=>by simp only [Ij] at r;simp only [AE] at*;obtain ⟨a,b,h⟩:=h;exact ⟨a,b,IX r h⟩
 | .Ci,_,_,h | .tt,_,_,h | .ff,_,_,h | .bb _,_,_,h | .pr _,_,_,h | .gd _,_,_,h | .int _ _,_,_,h | .byte _,_,_,h | .str _,_,_,h | .Bp,_,_,h | .H8,_,_,h | .H9,_,_,h | .MN,_,_,h | .AM,_,_,h | .Zs _,_,_,h | .Em _ _,_,_,h=>by simpa [AE] using h
theorem IX {H:HF} {n:Nat}: ∀ {x:List TV} {y:List AA},IE n x->AJ H x y->AJ (FL n H) x y
 | [],_,_,h=>by simpa [AJ] using h
 | x::xs,_,r,h=>by
  simp only [AJ,IE] at*;obtain ⟨a,b,c,h1,h2⟩:=h;exact ⟨a,b,c,OZ r.1 h1,IX r.2 h2⟩
end
mutual
theorem cj {H H':HF}: ∀ {x:TV} {y:AA},Gn x=true->AE H x y->AE H' x y
 | .ptr l off,_,r,h=>by simp [Gn] at r
 | .H7 l _ _,_,r,h=>by simp [Gn] at r
 | .WL l _,_,r,h=>by simp [Gn] at r
 | .FN l _ _ _ _,_,r,h=>by simp [Gn] at r
 | .HW l,_,r,h=>by simp [Gn] at r
 | .ifs _ l,_,r,h=>by simp [Gn] at r
 | .sl l _ _,_,r,h=>by simp [Gn] at r
 | .agg cs,_,r,h=>by simp only [Gn] at r;simp only [AE] at*;obtain ⟨a,b,h⟩:=h;exact ⟨a,b,Ld r h⟩
 | .DG cs,_,r,h=>by simp only [Gn] at r;simp only [AE] at*;obtain ⟨a,b,h⟩:=h;exact ⟨a,b,Ld r h⟩
 | .Fm cs,_,r,h=>by simp only [Gn] at r;simp only [AE] at*;obtain ⟨a,b,h⟩:=h;exact ⟨a,b,Ld r h⟩
 | .fn _ cs,_,r,h=>by simp only [Gn] at r;simp only [AE] at*;obtain ⟨a,b,h⟩:=h;exact ⟨a,b,Ld r h⟩
 | .Ci,_,_,h | .tt,_,_,h | .ff,_,_,h | .bb _,_,_,h | .pr _,_,_,h | .gd _,_,_,h | .int _ _,_,_,h | .byte _,_,_,h | .str _,_,_,h | .Bp,_,_,h | .H8,_,_,h | .H9,_,_,h | .MN,_,_,h | .AM,_,_,h | .Zs _,_,_,h | .Em _ _,_,_,h=>by simpa [AE] using h
theorem Ld {H H':HF}: ∀ {x:List TV} {y:List AA},JM x=true->AJ H x y->AJ H' x y
 | [],_,_,h=>by simpa [AJ] using h
 | x::xs,_,r,h=>by
  simp only [AJ,JM,Bool.and_eq_true] at*;obtain ⟨a,b,c,h1,h2⟩:=h;exact ⟨a,b,c,cj r.1 h1,Ld r.2 h2⟩
end
theorem Xu: ∀ {F F':RF},Q6 F F'=true-> ∀ {s:Nat} {gs:List (Nat×Bool)} {P:Prop} {x:TV},BE F s=some (gs,P,x)-> ∃P' x',BE F' s=some (gs,P',x')/\(Gn x=true\/x=x')
 | [],F',h,s,gs,P,x,hx=>by simp [BE] at hx
 | (a,g,p,z)::F,[],h,s,gs,P,x,hx=>by simp [Q6] at h
 | (a,g,p,z)::F,(a',g',p',z')::F',h,s,gs,P,x,hx=>by
  simp only [Q6] at h;split at h
  ·rename_i hb he;have e1:=beq_eq hb;have e2:=Rc he;subst e1;subst e2;have step:(Gn z=true\/z=z')->Q6 F F'=true-> ∃P' x',BE ((a,g,p',z')::F') s=some (gs,P',x')/\(Gn x=true\/x=x'):=fun hz hr=>by
    simp only [BE] at hx |-;split at hx
    ·cases hx;exact ⟨_,_,rfl,hz⟩
    ·exact Xu hr hx
   split at h
   ·rename_i hp;exact step (.inl hp) h
   ·split at h
    ·rename_i hs;exact step (.inr (Lh hs)) h
    ·cases h
  ·cases h
theorem dB {H0 H':HF} {F F':RF} {A:Frame} {n:Nat} (h:Q6 F F'=true) (h0:CS H0 F A) (h1:CS H' F' A) (ho:Zu n H0):CS (FL n H') F A:=fun s gs P x hx=>by
 have e:=h0 _ _ _ _ hx;obtain ⟨P',x',g1,g2⟩:=Xu h hx;refine ⟨fun q=>?_,e.off,e.iff⟩;rcases g2 with g2 | rfl
 ·exact cj g2 (e.on q)
 ·exact OZ (jT ho (e.on q)) ((h1 _ _ _ _ g1).on q)
theorem Xt {H0 H':HF} {n:Nat} (ho:Zu n H0): ∀ {G G':List RF} {AG:List Frame},Xs G G'=true->Dr H0 G AG->Dr H' G' AG->Dr (FL n H') G AG
 | [],[],AG,_,h0,h1=>by cases h0;exact .nil
 | [],_::_,AG,h,_,_=>by simp [Xs] at h
 | _::_,[],AG,h,_,_=>by simp [Xs] at h
 | F::G,F'::G',AG,h,h0,h1=>by
  simp only [Xs] at h;split at h
  ·rename_i hf;cases h0 with
   | cons a b=>cases h1 with
    | cons c d=>exact .cons (dB hf a c ho) (Xt ho h b d)
  ·cases h
theorem ua (a b l:Nat):X3 a b l=if l=a then b else if l=b then a else l:=by
 have hb: ∀x y:Nat,Nat.beq x y=decide (x=y):=fun x y=>by
  cases h:Nat.beq x y with
  | true=>simp [beq_eq h]
  | false=>simp [Nat.ne_of_beq_eq_false h]
 unfold X3;simp only [hb];by_cases h1:l=a
 ·simp [h1]
 ·by_cases h2:l=b
  ·subst h2;simp [h1]
  ·simp [h1,h2]
theorem Hy (a b l:Nat):X3 a b (X3 a b l)=l:=by
 simp only [ua];split<;>split<;>(try split)<;>simp_all
def gZ (a b:Nat) (H:HF):HF:=fun l=>H (X3 a b l)
mutual
theorem pn {H:HF} {a b:Nat}: ∀ {x:TV} {y:AA},AE H x y->AE (gZ a b H) (du a b x) y
 | .ptr l off,_,h=>by simpa only [du,AE,gZ,Hy] using h
 | .H7 l _ _,_,h=>by simpa only [du,AE,gZ,Hy] using h
 | .WL l _,_,h=>by simpa only [du,AE,gZ,Hy] using h
 | .FN l _ _ _ _,_,h=>by simpa only [du,AE,gZ,Hy] using h
 | .HW l,_,h=>by simpa only [du,AE,gZ,Hy] using h
 | .ifs _ l,_,h=>by simpa only [du,AE,gZ,Hy] using h
 | .sl l _ _,_,h=>by simpa only [du,AE,gZ,Hy] using h
 | .agg cs,_,h=>by simp only [du,AE] at*;obtain ⟨u,v,h⟩:=h;exact ⟨u,v,OY h⟩
 | .DG cs,_,h=>by simp only [du,AE] at*;obtain ⟨u,v,h⟩:=h;exact ⟨u,v,OY h⟩
 | .Fm cs,_,h=>by simp only [du,AE] at*;obtain ⟨u,v,h⟩:=h;exact ⟨u,v,OY h⟩
 | .fn _ cs,_,h=>by simp only [du,AE] at*;obtain ⟨u,v,h⟩:=h;exact ⟨u,v,OY h⟩
 | .Ci,_,h | .tt,_,h | .ff,_,h | .bb _,_,h | .pr _,_,h | .gd _,_,h | .int _ _,_,h | .byte _,_,h | .str _,_,h | .Bp,_,h | .H8,_,h | .H9,_,h | .MN,_,h | .AM,_,h | .Zs _,_,h | .Em _ _,_,h=>by simpa [du,AE] using h
theorem OY {H:HF} {a b:Nat}: ∀ {x:List TV} {y:List AA},AJ H x y->AJ (gZ a b H) (pk a b x) y
 | [],_,h=>by simpa [pk,AJ] using h
 | x::xs,_,h=>by
  simp only [pk,AJ] at*;obtain ⟨u,v,w,h1,h2⟩:=h;exact ⟨u,v,w,pn h1,OY h2⟩
end
theorem Vu {a b:Nat}: ∀xs:List TV,(pk a b xs).length=xs.length
 | []=>rfl
 | x::xs=>by simp [pk,Vu xs]
theorem i_ {a b:Nat}: ∀ {F:RF} {s:Nat} {gs:List (Nat×Bool)} {P:Prop} {x:TV},BE (uZ a b F) s=some (gs,P,x)-> ∃x0,BE F s=some (gs,P,x0)/\x=du a b x0
 | [],s,gs,P,x,h=>by simp [uZ,BE] at h
 | (t,g,q,z)::F,s,gs,P,x,h=>by
  simp only [uZ,BE] at h |-;split at h
  ·cases h;exact ⟨z,rfl,rfl⟩
  ·exact i_ h
theorem CS.sw {H:HF} {a b:Nat} {F:RF} {A:Frame} (h:CS H F A):CS (gZ a b H) (uZ a b F) A:=fun s gs P x hx=>by
 obtain ⟨x0,h1,rfl⟩:=i_ hx;have e:=h _ _ _ _ h1;exact ⟨fun q=>pn (e.on q),e.off,e.iff⟩
theorem Dr.sw {H:HF} {a b:Nat} {G:List RF} {AG:List Frame} (h:Dr H G AG):Dr (gZ a b H) (wo a b G) AG:=by
 induction h with
 | nil=>exact .nil
 | cons h _ ih=>exact .cons h.sw ih
theorem P6.sw {H:HF} {S:AB} {a b l:Nat} {o:B4} (h:P6 H S (X3 a b l) o):P6 (gZ a b H) S l (dU a b o):=by
 cases o with
 | dead=>exact h
 | cells k cs=>
  obtain ⟨p,v,xs,h1,h2,h3⟩:=h;exact ⟨p,v,xs,by simp only [gZ,Vu];exact h1,h2,OY h3⟩
 | row t ls=>exact h
 | ED t ls=>exact h
theorem jX (a b:Nat): ∀TS:List B4,vS a b TS=TS.map (dU a b)
 | []=>rfl
 | o::TS=>by simp [vS,jX a b TS]
theorem DO.sw {H:HF} {TS:List B4} {S:AB} (st:DO H TS S) {a b:Nat} {x y:B4} (ha:Bq TS a=some x) (hb:Bq TS b=some y) (hne:Nat.beq a b=false):DO (gZ a b H) (vt a b TS) S:=by
 have hab:a≠b:=Nat.ne_of_beq_eq_false hne;have la:=IM ha;have lb:=IM hb;have e:vt a b TS=((TS.map (dU a b)).set a (dU a b y)).set b (dU a b x):=by
  simp only [vt,ha,hb,E7,jX]
 have sa:X3 a b a=b:=by simp [X3]
 have sb:X3 a b b=a:=by
  have:Nat.beq b a=false:=by
   cases h:Nat.beq b a with
   | true=>exact (hab (beq_eq h).symm).elim
   | false=>rfl
  simp [X3,this]
 have so: ∀l,l≠a->l≠b->X3 a b l=l:=fun l h1 h2=>by
  have e1:Nat.beq l a=false:=by
   cases h:Nat.beq l a with
   | true=>exact (h1 (beq_eq h)).elim
   | false=>rfl
  have e2:Nat.beq l b=false:=by
   cases h:Nat.beq l b with
   | true=>exact (h2 (beq_eq h)).elim
   | false=>rfl
  simp [X3,e1,e2]
 rw [Iu] at ha hb;rw [e];refine ⟨fun l o hl=>?_,fun l hl=>?_,fun l l' h h' p v v' e1 e2 e3 e4=>?_,fun l i h p v n e1 e2=>?_⟩
 ·by_cases h1:l=b
  ·subst h1;rw [List.getElem?_set_self (by simpa using lb)] at hl;cases hl;exact P6.sw (by rw [sb];exact st.ob _ _ ha)
  ·rw [List.getElem?_set_ne (Ne.symm h1)] at hl;by_cases h2:l=a
   ·subst h2;rw [List.getElem?_set_self (by simpa using la)] at hl;cases hl;exact P6.sw (by rw [sa];exact st.ob _ _ hb)
   ·rw [List.getElem?_set_ne (Ne.symm h2),List.getElem?_map] at hl;cases hx:TS[l]? with
    | none=>rw [hx] at hl;cases hl
    | some o0=>
     rw [hx] at hl;simp at hl;subst hl;exact P6.sw (by rw [so l h2 h1];exact st.ob _ _ hx)
 ·simp at hl;simp only [gZ];rw [so l (by omega) (by omega)];exact st.out l hl
 ·have:=st.inj _ _ _ _ _ _ _ e1 e2 e3 e4;rw [<-Hy a b l,this,Hy]
 ·obtain ⟨g1,g2,g3⟩:=st.sub (X3 a b l) i h p v n e1 e2;refine ⟨g1,fun l' h' v' q1 q2=>g2 _ _ _ q1 q2,fun l' i' h' v' n' q1 q2=>?_⟩;obtain ⟨k1,k2⟩:=g3 _ _ _ _ _ q1 q2;exact ⟨by rw [<-Hy a b l',k1,Hy],k2⟩
theorem N3 {K:TK}: ∀(ps:List (Nat×Nat)) {F:RF} {G:List RF} {TS:List B4} {H:HF} {A:Frame} {AG:List Frame} {S:AB},TI ps K F G TS->DO H TS S->CS H F A->Dr H G AG->
  ∃H' F' G' TS',DO H' TS' S/\CS H' F' A/\Dr H' G' AG/\K F' G' TS'
 | [],F,G,TS,H,A,AG,S,h,st,hF,hG=>⟨H,F,G,TS,st,hF,hG,h⟩
 | p::ps,F,G,TS,H,A,AG,S,h,st,hF,hG=>by
  simp only [TI] at h;split at h
  ·exact N3 ps h st hF hG
  ·rename_i hne;split at h
   ·rename_i x y hx hy;exact N3 ps h (st.sw hx hy hne) hF.sw hG.sw
   ·exact h.elim
end Go.Vc
end
section
namespace Go.Vc
def eV {A B:Type}:(ws:List Sh)->PT ws A->PT ws B->(A->B->List TV->Prop)->Prop
 | [],p,m,f=>f p m []
 | .val t::r,p,m,f=> ∃x:T t,eV r (p x) (m x) fun p m xs=>f p m (Zh t x::xs)
 | .sub l::r,p,m,f=> ∃(off:Int) (len:Int),eV r (p off len) (m off len) fun p m xs=>f p m (.sl l off len::xs)
 | .eh x::r,p,m,f=>eV r p m fun p m xs=>f p m (x::xs)
def eO {A B:Type}:(os:List mP)->PO os A->PO os B->(A->B->List B4->Prop)->Prop
 | [],p,m,f=>f p m []
 | .AW o::r,p,m,f=>eO r p m fun p m S=>f p m (o::S)
 | .row _ t::r,p,m,f=> ∃l:List (T t),eO r (p l) (m l) fun p m S=>f p m (.row t l::S)
 | .ED _ t::r,p,m,f=> ∃l:List (List (T t)),eO r (p l) (m l) fun p m S=>f p m (.ED t l::S)
 | .cells _ k shs::r,p,m,f=>eV shs p m fun p m cs=>eO r p m fun p m S=>f p m (.cells k cs::S)
theorem cx {A B:Type}: ∀(ws:List Sh) (ns:List String) (p:PT ws A) (m:PT ws B) {f g:A->B->List TV->Prop},qV ns ws p m f->eV ws p m g-> ∃a b xs,f a b xs/\g a b xs
 | [],ns,p,m,f,g,h,h'=>⟨p,m,[],h,h'⟩
 | .val t::r,ns,p,m,f,g,h,h'=>by
  simp only [qV,eV] at h h';obtain ⟨x,h'⟩:=h';obtain ⟨a,b,xs,h1,h2⟩:=cx r _ _ _ (h x) h';exact ⟨a,b,_,h1,h2⟩
 | .sub l::r,ns,p,m,f,g,h,h'=>by
  simp only [qV,eV] at h h';obtain ⟨x,y,h'⟩:=h';obtain ⟨a,b,xs,h1,h2⟩:=cx r _ _ _ (h x y) h';exact ⟨a,b,_,h1,h2⟩
 | .eh x::r,ns,p,m,f,g,h,h'=>by
  simp only [qV,eV] at h h';obtain ⟨a,b,xs,h1,h2⟩:=cx r _ _ _ h h';exact ⟨a,b,_,h1,h2⟩
theorem cv {A B:Type}: ∀(os:List mP) (p:PO os A) (m:PO os B) {f g:A->B->List B4->Prop},qO os p m f->eO os p m g-> ∃a b xs,f a b xs/\g a b xs
 | [],p,m,f,g,h,h'=>⟨p,m,[],h,h'⟩
 | .AW o::r,p,m,f,g,h,h'=>by
  simp only [qO,eO] at h h';obtain ⟨a,b,xs,h1,h2⟩:=cv r _ _ h h';exact ⟨a,b,_,h1,h2⟩
 | .row nm t::r,p,m,f,g,h,h'=>by
  simp only [qO,eO] at h h';obtain ⟨x,h'⟩:=h';obtain ⟨a,b,xs,h1,h2⟩:=cv r _ _ (h x) h';exact ⟨a,b,_,h1,h2⟩
 | .ED nm t::r,p,m,f,g,h,h'=>by
  simp only [qO,eO] at h h';obtain ⟨x,h'⟩:=h';obtain ⟨a,b,xs,h1,h2⟩:=cv r _ _ (h x) h';exact ⟨a,b,_,h1,h2⟩
 | .cells nm k shs::r,p,m,f,g,h,h'=>by
  simp only [qO,eO] at h h';obtain ⟨p',m',cs,h1,h2⟩:=cx shs _ _ _ h h';obtain ⟨a,b,xs,g1,g2⟩:=cv r _ _ h1 h2;exact ⟨a,b,_,g1,g2⟩
theorem GB {A B:Type}: ∀(ws:List Sh) (p:PT ws A) (m:PT ws B) {f g:A->B->List TV->Prop},(∀a b xs,f a b xs->g a b xs)->eV ws p m f->eV ws p m g
 | [],p,m,f,g,hm,h=>hm _ _ _ h
 | .val t::r,p,m,f,g,hm,h=>by
  simp only [eV] at*;obtain ⟨x,h⟩:=h;exact ⟨x,GB r _ _ (fun a b xs=>hm a b _) h⟩
 | .sub l::r,p,m,f,g,hm,h=>by
  simp only [eV] at*;obtain ⟨x,y,h⟩:=h;exact ⟨x,y,GB r _ _ (fun a b xs=>hm a b _) h⟩
 | .eh x::r,p,m,f,g,hm,h=>by
  simp only [eV] at*;exact GB r _ _ (fun a b xs=>hm a b _) h
theorem Gv {A B:Type}: ∀(os:List mP) (p:PO os A) (m:PO os B) {f g:A->B->List B4->Prop},(∀a b xs,f a b xs->g a b xs)->eO os p m f->eO os p m g
 | [],p,m,f,g,hm,h=>hm _ _ _ h
 | .AW o::r,p,m,f,g,hm,h=>by
  simp only [eO] at*;exact Gv r _ _ (fun a b xs=>hm a b _) h
 | .row nm t::r,p,m,f,g,hm,h=>by
  simp only [eO] at*;obtain ⟨x,h⟩:=h;exact ⟨x,Gv r _ _ (fun a b xs=>hm a b _) h⟩
 | .ED nm t::r,p,m,f,g,hm,h=>by
  simp only [eO] at*;obtain ⟨x,h⟩:=h;exact ⟨x,Gv r _ _ (fun a b xs=>hm a b _) h⟩
 | .cells nm k shs::r,p,m,f,g,hm,h=>by
  simp only [eO] at*;exact GB shs _ _ (fun a b cs h=>Gv r _ _ (fun a b xs=>hm a b _) h) h
theorem kG {H:HF} {t:Ty} {x:TV} {a:T t} {y:AA} (h:UO t x=some a) (hs:AE H x y) {H':HF}:AE H' (Zh t a) y:=by
 cases t with
 | int k=>
  simp only [UO,aQ] at h;split at h
  ·rename_i k' n hi;split at h<;>cases h;rename_i hk;have hk:=G_ hk;subst hk;rw [Eb hi hs];simp [Zh,AE]
  ·cases h
 | str=>
  simp only [UO] at h;unfold aR at h;split at h<;>cases h;simp only [AE] at hs;simpa [Zh,AE] using hs
 | bool=>
  simp only [UO] at h;rw [T3 h hs];simp [Zh,AE]
 | st fs=>
  simp only [UO] at h;unfold aT at h;split at h
  ·split at h<;>cases h;rename_i hd;simp only [AE] at hs;obtain ⟨xs,rfl,hs⟩:=hs;obtain ⟨zs,rfl,hz⟩:=LN fs hd hs;simp only [AJ] at hz;subst hz;simp only [Zh,AE];exact ⟨_,rfl,by rw [List.append_nil];exact KX fs _⟩
  ·cases h
 | sl e=>
  simp only [UO] at h;split at h
  ·split at h<;>cases h;rename_i hh _;subst hh;simp only [AE] at hs;simpa only [Zh,AE] using hs
  ·cases h
def mX (n:Nat):Sh->Prop
 | .val _=>True
 | .sub l=>l<n
 | .eh x=>Ij n x
def mY (n:Nat):mP->Prop
 | .AW (.cells _ cs)=>IE n cs
 | .cells _ _ shs=> ∀s∈shs,mX n s
 | _=>True
mutual
theorem nZ: ∀ {x y:TV} {ps:List Prop},vl x y=some ps->FW ps->x=y
 | x,y,ps,h,hp=>by
  unfold vl at h;split at h
  ·split at h<;>cases h;rename_i hk;have hk:=G_ hk;subst hk;rw [hp.cons.1]
  ·cases h;rw [hp.cons.1]
  ·cases h;rw [hp.cons.1]
  ·cases h;rw [hp.cons.1]
  ·split at h<;>cases h;rename_i hh _;subst hh;have:=hp.cons.1;simp only at this;rw [this]
  ·split at h<;>cases h;rename_i hb;rw [beq_eq hb,hp.cons.1,hp.cons.2.cons.1]
  ·split at h
   ·rename_i hb;rw [beq_eq hb,QS h hp]
   ·cases h
  ·rw [QS h hp]
  ·rw [QS h hp]
  ·split at h<;>cases h;rename_i hs;exact Lh hs
theorem QS: ∀ {xs ys:List TV} {ps:List Prop},Yj xs ys=some ps->FW ps->xs=ys
 | [],[],_,_,_=>rfl
 | [],_::_,_,h,_=>by simp [Yj] at h
 | _::_,[],_,h,_=>by simp [Yj] at h
 | x::xs,y::ys,ps,h,hp=>by
  simp only [Yj] at h;split at h<;>cases h;rename_i h1 h2;rw [nZ h1 fun q hq=>hp q (by simp [hq]),QS h2 fun q hq=>hp q (by simp [hq])]
end
theorem M_ {A B:Type} {H:HF} {TS:List B4} {S:AB} {n:Nat} (st:DO H TS S): ∀(ws:List Sh) (p:PT ws A) (m:PT ws B) {xs:List TV} {ys:List AA} {f:A->B->Prop},(∀s∈ws,mX n s)->aV TS ws p m xs f->AJ H xs ys->
  eV ws p m fun a b xs'=>f a b/\AJ (FL n H) xs' ys
 | [],p,m,xs,ys,f,hn,h,hs=>by
  cases xs with
  | nil=>simp only [aV] at h;simp only [eV];exact ⟨h,by simpa [AJ] using hs⟩
  | cons=>simp [aV] at h
 | .val t::r,p,m,xs,ys,f,hn,h,hs=>by
  cases xs with
  | nil=>simp [aV] at h
  | cons x xs=>
   simp only [aV] at h;split at h
   ·rename_i a ha;simp only [AJ] at hs;obtain ⟨y,zs,rfl,h1,h2⟩:=hs;simp only [eV];exact ⟨a,GB r _ _ (fun a b xs' ⟨g1,g2⟩=>⟨g1,by simp only [AJ];exact ⟨_,_,rfl,kG ha h1,g2⟩⟩) (M_ st r _ _ (fun s hs=>hn s (by simp [hs])) h h2)⟩
   ·exact h.elim
 | .sub l::r,p,m,xs,ys,f,hn,h,hs=>by
  have hl:l<n:=hn (.sub l) (by simp);have go: ∀ {x:TV} {xs:List TV} {off len:Int},AJ H (x::xs) ys->(∀y,AE H x y->AE H (.sl l off len) y)->aV TS r (p off len) (m off len) xs f->eV (.sub l::r) p m fun a b xs'=>f a b/\AJ (FL n H) xs' ys:=fun {x xs off len} hs hx h=>by
   simp only [AJ] at hs;obtain ⟨y,zs,rfl,h1,h2⟩:=hs;simp only [eV];refine ⟨off,len,GB r _ _ (fun a b xs' ⟨g1,g2⟩=>⟨g1,?_⟩) (M_ st r _ _ (fun s hs=>hn s (by simp [hs])) h h2)⟩;simp only [AJ];exact ⟨_,_,rfl,OZ hl (hx y h1),g2⟩
  cases xs with
  | nil=>simp [aV] at h
  | cons x xs=>
   cases x<;>simp only [aV] at h<;>first | exact h.elim | skip
   ·split at h
    ·rename_i hb ho;have e:=beq_eq hb;subst e;refine go hs (fun y hy=>?_) h;obtain ⟨loc,q1,q2⟩:=DN st ho;simp only [AE] at hy |-;obtain ⟨hd,e1,rfl⟩:=hy;rw [q1] at e1;cases e1;exact ⟨_,q1,by omega,by omega,by simp only;omega,by simp⟩
    ·exact h.elim
   ·split at h
    ·rename_i hb;have e:=beq_eq hb;subst e;exact go hs (fun _ h=>h) h
    ·exact h.elim
 | .eh x0::r,p,m,xs,ys,f,hn,h,hs=>by
  have hl:Ij n x0:=hn (.eh x0) (by simp);cases xs with
  | nil=>simp [aV] at h
  | cons x xs=>
   simp only [aV] at h;have fin:x0=x->aV TS r p m xs f->eV (.eh x0::r) p m fun a b xs'=>f a b/\AJ (FL n H) xs' ys:=fun e hk=>by
    subst e;simp only [AJ] at hs;obtain ⟨y,zs,rfl,h1,h2⟩:=hs;simp only [eV];exact GB r _ _ (fun a b xs' ⟨g1,g2⟩=>⟨g1,by simp only [AJ];exact ⟨_,_,rfl,OZ hl h1,g2⟩⟩) (M_ st r _ _ (fun s hs=>hn s (by simp [hs])) hk h2)
   split at h
   ·rename_i hsame;exact fin (Lh hsame) h
   ·split at h
    ·rename_i ps Ej;obtain ⟨h1,h2⟩:=EC.1 h;exact fin (nZ Ej h1) h2
    ·exact h.elim
theorem tk {o o':B4} {ps:List Prop} (h:wK o o'=some ps) (hp:FW ps):o=o':=by
 unfold wK at h;split at h
 ·rfl
 ·split at h<;>cases h;rename_i hh _;subst hh;have:=hp.cons.1;simp only at this;rw [this]
 ·split at h<;>cases h;rename_i hh _;subst hh;have:=hp.cons.1;simp only at this;rw [this]
 ·split at h
  ·rename_i hb;rw [beq_eq hb,QS h hp]
  ·cases h
 ·cases h
theorem P6.Vy {H:HF} {S:AB} {n l:Nat} {o:B4} (h:P6 H S l o) (hl:l<n) (hr: ∀k cs,o= .cells k cs->IE n cs):P6 (FL n H) S l o:=by
 cases o with
 | dead=>simp only [P6,FT hl] at*;exact h
 | cells k cs=>
  obtain ⟨p,v,xs,h1,h2,h3⟩:=h;exact ⟨p,v,xs,by rw [FT hl];exact h1,h2,IX (hr k cs rfl) h3⟩
 | row t ls=>
  obtain ⟨loc,h1,h2⟩:=h;exact ⟨loc,by rw [FT hl];exact h1,h2⟩
 | ED t ls=>
  obtain ⟨p,v,sub,h1,h2,h3⟩:=h;exact ⟨p,v,sub,by rw [FT hl];exact h1,h2,h3⟩
theorem mZ {H:HF} {cs cs':List TV} {xs:List AA} (h:AJ H cs xs) {H':HF} (h':AJ H' cs' xs):cs'.length=cs.length:=by rw [<-h.length,h'.length]
theorem M9 {A B:Type} {H:HF} {TS:List B4} {S:AB} {n:Nat} (st:DO H TS S): ∀(os:List mP) (p:PO os A) (m:PO os B) (i:Nat) {TL:List B4} {f:A->B->Prop},(∀s∈os,mY n s)->i+os.length<=n->(∀(l:Nat) o,TL[l]?=some o->P6 H S (i+l) o)->aO TS os p m TL f->
  eO os p m fun a b TS1=>f a b/\TS1.length=os.length/\ ∀(l:Nat) o,TS1[l]?=some o->P6 (FL n H) S (i+l) o
 | [],p,m,i,TL,f,hn,hi,ho,h=>by simp only [aO] at h;simp only [eO];exact ⟨h,rfl,by simp⟩
 | .AW o::r,p,m,i,TL,f,hn,hi,ho,h=>by
  cases TL with
  | nil=>simp [aO] at h
  | cons o' TL=>
   simp only [aO] at h;split at h
   ·rename_i ps he;rw [EC] at h;have e:=tk he h.1;subst e;simp only [eO];refine Gv r _ _ (fun a b TS1 ⟨g1,g2,g3⟩=>⟨g1,by simp [g2],fun l o1 hl=>?_⟩) (M9 st r _ _ (i+1) (fun s hs=>hn s (by simp [hs])) (by simp at hi;omega) (fun l o1 hl=>by
     have:=ho (l+1) o1 (by simpa using hl);rwa [show i+(l+1)=i+1+l by omega] at this) h.2)
    cases l with
    | zero=>
     simp at hl;subst hl;refine (ho 0 o (by simp)).Vy (by simp at hi;omega) fun k cs e=>?_;subst e;exact hn (.AW (.cells k cs)) (by simp)
    | succ l=>
     have:=g3 l o1 (by simpa using hl);rwa [show i+1+l=i+(l+1) by omega] at this
   ·exact h.elim
 | .row nm t::r,p,m,i,TL,f,hn,hi,ho,h=>by
  cases TL with
  | nil=>simp [aO] at h
  | cons o' TL=>
   cases o'<;>simp only [aO] at h<;>first | exact h.elim | skip
   split at h
   ·rename_i hh _;subst hh;simp only [eO];refine ⟨_,Gv r _ _ (fun a b TS1 ⟨g1,g2,g3⟩=>⟨g1,by simp [g2],fun l o1 hl=>?_⟩) (M9 st r _ _ (i+1) (fun s hs=>hn s (by simp [hs])) (by simp at hi;omega) (fun l o1 hl=>by
     have:=ho (l+1) o1 (by simpa using hl);rwa [show i+(l+1)=i+1+l by omega] at this) h)⟩
    cases l with
    | zero=>
     simp at hl;subst hl;exact (ho 0 _ (by simp)).Vy (by simp at hi;omega) (fun k cs e=>by cases e)
    | succ l=>
     have:=g3 l o1 (by simpa using hl);rwa [show i+1+l=i+(l+1) by omega] at this
   ·exact h.elim
 | .ED nm t::r,p,m,i,TL,f,hn,hi,ho,h=>by
  cases TL with
  | nil=>simp [aO] at h
  | cons o' TL=>
   cases o'<;>simp only [aO] at h<;>first | exact h.elim | skip
   split at h
   ·rename_i hh _;subst hh;simp only [eO];refine ⟨_,Gv r _ _ (fun a b TS1 ⟨g1,g2,g3⟩=>⟨g1,by simp [g2],fun l o1 hl=>?_⟩) (M9 st r _ _ (i+1) (fun s hs=>hn s (by simp [hs])) (by simp at hi;omega) (fun l o1 hl=>by
     have:=ho (l+1) o1 (by simpa using hl);rwa [show i+(l+1)=i+1+l by omega] at this) h)⟩
    cases l with
    | zero=>
     simp at hl;subst hl;exact (ho 0 _ (by simp)).Vy (by simp at hi;omega) (fun k cs e=>by cases e)
    | succ l=>
     have:=g3 l o1 (by simpa using hl);rwa [show i+1+l=i+(l+1) by omega] at this
   ·exact h.elim
 | .cells nm k shs::r,p,m,i,TL,f,hn,hi,ho,h=>by
  cases TL with
  | nil=>simp [aO] at h
  | cons o' TL=>
   cases o'<;>simp only [aO] at h<;>first | exact h.elim | skip
   split at h
   ·rename_i k' cs hb;have e:=beq_eq hb;subst e;obtain ⟨q,v,xs,q1,q2,q3⟩:=ho 0 _ rfl;simp only [eO];refine GB shs _ _ (fun a b cs' ⟨g1,g2⟩=>?_) (M_ (n:=n) st shs _ _ (hn (.cells nm k shs) (by simp)) h q3);refine Gv r _ _ (fun a b TS1 ⟨g1,g3,g4⟩=>⟨g1,by simp [g3],fun l o1 hl=>?_⟩) (M9 st r _ _ (i+1) (fun s hs=>hn s (by simp [hs])) (by simp at hi;omega) (fun l o1 hl=>by
     have:=ho (l+1) o1 (by simpa using hl);rwa [show i+(l+1)=i+1+l by omega] at this) g1)
    cases l with
    | zero=>
     simp at hl;subst hl;refine ⟨q,v,xs,?_,q2,g2⟩;rw [FT (by simp at hi;omega),q1,mZ q3 g2]
    | succ l=>
     have:=g4 l o1 (by simpa using hl);rwa [show i+1+l=i+(l+1) by omega] at this
   ·exact h.elim
theorem uU {n:Nat} {JX:List Nat} {x:TV} (h:Ij n x):mX n (wm JX x):=by
 unfold wm;split
 ·split
  ·trivial
  ·exact h
 ·exact h
 ·split
  ·exact h
  ·exact h
 ·split
  ·trivial
  ·exact h
theorem ZU {n:Nat} {JX:List Nat}: ∀ {xs:List TV},IE n xs-> ∀s∈Wf JX xs,mX n s
 | [],_,s,hs=>by simp [Wf] at hs
 | x::xs,h,s,hs=>by
  simp only [Wf] at hs;rcases List.mem_cons.1 hs with rfl | hs
  ·exact uU h.1
  ·exact ZU h.2 s hs
theorem dJ {ms:List (Nat×String)} {JX:List Nat}: ∀(i:Nat) (TS:List B4),(Q_ ms JX i TS).length=TS.length
 | _,[]=>rfl
 | i,o::TS=>by simp [Q_,dJ (i+1) TS]
theorem jS {n:Nat} {ms:List (Nat×String)} {JX:List Nat}: ∀(i:Nat) {TS:List B4},(∀o∈TS,∀k cs,o= .cells k cs->IE n cs)-> ∀s∈Q_ ms JX i TS,mY n s
 | _,[],_,s,hs=>by simp [Q_] at hs
 | i,o::TS,h,s,hs=>by
  simp only [Q_] at hs;rcases List.mem_cons.1 hs with rfl | hs
  ·split
   ·cases o with
    | dead=>trivial
    | row t l=>trivial
    | ED t l=>trivial
    | cells k cs=>exact ZU (h _ (by simp) k cs rfl)
   ·cases o with
    | dead=>trivial
    | row t l=>trivial
    | ED t l=>trivial
    | cells k cs=>exact h _ (by simp) k cs rfl
  ·exact jS (i+1) (fun o ho=>h o (by simp [ho])) s hs
theorem sP {H:HF} {TS:List B4} {S:AB} (st:DO H TS S): ∀o∈TS,∀k cs,o= .cells k cs->IE TS.length cs:=fun o ho k cs e=>by
 subst e;obtain ⟨l,hl⟩:=List.getElem?_of_mem ho;obtain ⟨p,v,xs,h1,h2,h3⟩:=st.ob l _ hl;exact J7 st.out h3
end Go.Vc
end
section
namespace Go.Vc
theorem KG {n l:Nat} {H:HF} {h:Hd} (e:FL n H l=some h):H l=some h:=by
 simp only [FL] at e;split at e
 ·exact e
 ·cases e
theorem uh {A B:Type}: ∀(ws:List Sh) (p:PT ws A) (m:PT ws B) (g:A->B->Nat->List TV->Prop),(eV ws p m fun a b xs=> ∃k,g a b k xs)-> ∃k,eV ws p m fun a b xs=>g a b k xs
 | [],p,m,g,h=>h
 | .val t::ws,p,m,g,h=>by simp only [eV] at*;obtain ⟨x,h⟩:=h;obtain ⟨k,h⟩:=uh ws _ _ _ h;exact ⟨k,x,h⟩
 | .sub l::ws,p,m,g,h=>by simp only [eV] at*;obtain ⟨x,y,h⟩:=h;obtain ⟨k,h⟩:=uh ws _ _ _ h;exact ⟨k,x,y,h⟩
 | .eh x::ws,p,m,g,h=>by simp only [eV] at*;exact uh ws _ _ _ h
theorem ug {A B:Type}: ∀(os:List mP) (p:PO os A) (m:PO os B) (g:A->B->Nat->List B4->Prop),(eO os p m fun a b xs=> ∃k,g a b k xs)-> ∃k,eO os p m fun a b xs=>g a b k xs
 | [],p,m,g,h=>h
 | .AW o::os,p,m,g,h=>by simp only [eO] at*;exact ug os _ _ _ h
 | .row nm t::os,p,m,g,h=>by simp only [eO] at*;obtain ⟨x,h⟩:=h;obtain ⟨k,h⟩:=ug os _ _ _ h;exact ⟨k,x,h⟩
 | .ED nm t::os,p,m,g,h=>by simp only [eO] at*;obtain ⟨x,h⟩:=h;obtain ⟨k,h⟩:=ug os _ _ _ h;exact ⟨k,x,h⟩
 | .cells nm k shs::os,p,m,g,h=>by
  simp only [eO] at*;obtain ⟨k,h⟩:=uh shs _ _ _ (GB _ _ _ (fun a b cs h=>ug os _ _ _ h) h);exact ⟨k,h⟩
theorem mw {A B:Type} {C:Prop}: ∀(ws:List Sh) (p:PT ws A) (m:PT ws B) {g:A->B->List TV->Prop},(∀a b xs,g a b xs->C)->eV ws p m g->C
 | [],p,m,g,hg,h=>hg _ _ _ h
 | .val t::ws,p,m,g,hg,h=>by simp only [eV] at h;obtain ⟨x,h⟩:=h;exact mw ws _ _ (fun a b xs=>hg a b _) h
 | .sub l::ws,p,m,g,hg,h=>by simp only [eV] at h;obtain ⟨x,y,h⟩:=h;exact mw ws _ _ (fun a b xs=>hg a b _) h
 | .eh x::ws,p,m,g,hg,h=>by simp only [eV] at h;exact mw ws _ _ (fun a b xs=>hg a b _) h
theorem mq {A B:Type} {C:Prop}: ∀(os:List mP) (p:PO os A) (m:PO os B) {g:A->B->List B4->Prop},(∀a b xs,g a b xs->C)->eO os p m g->C
 | [],p,m,g,hg,h=>hg _ _ _ h
 | .AW o::os,p,m,g,hg,h=>by simp only [eO] at h;exact mq os _ _ (fun a b xs=>hg a b _) h
 | .row nm t::os,p,m,g,hg,h=>by simp only [eO] at h;obtain ⟨x,h⟩:=h;exact mq os _ _ (fun a b xs=>hg a b _) h
 | .ED nm t::os,p,m,g,hg,h=>by simp only [eO] at h;obtain ⟨x,h⟩:=h;exact mq os _ _ (fun a b xs=>hg a b _) h
 | .cells nm k shs::os,p,m,g,hg,h=>by simp only [eO] at h;exact mw shs _ _ (fun a b cs h=>mq os _ _ (fun a b xs=>hg a b _) h) h
section
variable {P : Program} {Γ : List (Nat × Ct)} {call : Nat -> List TV -> List RF -> List B4 -> (TV -> List RF -> List B4 -> Prop) -> Prop}
theorem gy {l:List Cs} {d:Option (Nat×Nat×List Nat)} {AW:List Nat} {Q:BU->Frame->AB->Prop} {A:Frame} {S:AB}
  (h:Ah P (fun F' S'=>Q .normal (kF AW F') S') (match d with | some m=>m.1 | none=>0) l A (S++List.replicate (bV d) .dead)):vc P (.ops l d AW) Q A S:=by
 have e: ∀(K:Frame->Prop) (F:Frame),J0 AW F K=K (kF AW F):=fun K F=>propext E6;cases d with
 | none=>simpa only [vc,e,Ah,bV,List.replicate_zero,List.append_nil] using h
 | some m=>simpa only [vc,e,bV] using h
theorem DO.uQ {H:HF} {TS:List B4} {S:AB} (st:DO H TS S) {l k:Nat} {cs cs':List TV} {p v:Nat} {xs:List AA} (hl:l<TS.length) (h1:H l=some ⟨some (p,v),k,cs'.length,[]⟩) (h2:S[p]?=some (.row v k xs)) (h3:AJ H cs' xs):DO H (TS.set l (.cells k cs')) S:=by
 refine ⟨fun m o hm=>?_,fun m hm=>st.out m (by simpa using hm),st.inj,st.sub⟩;by_cases e:m=l
 ·subst e;rw [List.getElem?_set_self hl] at hm;cases hm;exact ⟨p,v,xs,h1,h2,h3⟩
 ·rw [List.getElem?_set_ne (Ne.symm e)] at hm;exact st.ob m o hm
theorem TT.trans' {H1 H2 H3:HF} (h:TT H1 H2) (g:TT H2 H3):TT H1 H3:=fun l x e=>g l x (h l x e)
theorem R6: ∀(n:Nat) (ts:List Ty) (cs:List TV),(Lc n ts cs).1.length=cs.length
 | n,[],cs=>by cases cs<;>rfl
 | n,t::ts,[]=>rfl
 | n,t::ts,c::cs=>by
  simp only [Lc];split
  ·simp [R6 (n+1) ts cs]
  ·simp [R6 n ts cs]
theorem Ng: ∀(ts:List Ty) {cs:List TV} {ys:List AA} {H:HF} {TS:List B4} {S:AB},DO H TS S->AJ H cs ys-> ∃H',TT H H'/\DO H' (TS++(Lc TS.length ts cs).2) S/\AJ H' (Lc TS.length ts cs).1 ys
 | [],cs,ys,H,TS,S,st,hs=>by
  have e:Lc TS.length [] cs=(cs,[]):=by cases cs<;>rfl
  rw [e];exact ⟨H,fun _ _ h=>h,by simpa using st,hs⟩
 | t::ts,[],ys,H,TS,S,st,hs=>⟨H,fun _ _ h=>h,by simpa [Lc] using st,hs⟩
 | t::ts,c::cs,ys,H,TS,S,st,hs=>by
  simp only [AJ] at hs;obtain ⟨y,zs,rfl,h1,h2⟩:=hs;simp only [Lc];split
  ·rename_i e;simp only [AE] at h1;subst h1;obtain ⟨H1,g1,g2,g3⟩:=st.ZN e;obtain ⟨H2,k1,k2,k3⟩:=Ng ts g2 (h2.ext g1);have el:(TS++[B4.row e []]).length=TS.length+1:=by simp
   rw [el] at k2 k3;refine ⟨H2,g1.trans' k1,by simpa using k2,?_⟩;simp only [AJ,AE];exact ⟨_,zs,rfl,⟨_,k1 _ _ g3,rfl⟩,k3⟩
  ·obtain ⟨H2,k1,k2,k3⟩:=Ng ts st h2;refine ⟨H2,k1,k2,?_⟩;simp only [AJ];exact ⟨y,zs,rfl,h1.ext k1,k3⟩
theorem Kh {ty:List (Nat×Ty)} {F:RF}: ∀(Wb:List Nat) {H:HF} {TS:List B4} {S:AB},DO H TS S-> ∃H',TT H H'/\DO H' (VX ty F Wb TS) S
 | [],H,TS,S,st=>⟨H,fun _ _ h=>h,st⟩
 | s::ss,H,TS,S,st=>by
  simp only [VX];split
  ·rename_i l t _ _;split
   ·rename_i k cs ho;obtain ⟨p,v,xs,q1,q2,q3⟩:=OA st ho;obtain ⟨H1,g1,g2,g3⟩:=Ng (iq t) st q3;rw [E7,VY,Fg];have st2:=g2.uQ (l:=l) (k:=k) (cs:=cs) (p:=p) (v:=v) (xs:=xs) (by have:=IM ho;simp;omega) (by rw [g1 _ _ q1,R6]) q2 g3;obtain ⟨H2,k1,k2⟩:=Kh ss st2;exact ⟨H2,g1.trans' k1,k2⟩
   ·exact Kh ss st
  ·exact Kh ss st
theorem R1 {c:Prop} {Fb:RF}: ∀ {F:RF} {s:Nat} {gs:List (Nat×Bool)} {P:Prop} {z:TV},(s,gs,P,z)∈Na c Fb F->gs=[]/\P=True/\ ∃g p x Q y,(s,g,p,x)∈F/\BE Fb s=some ([],Q,y)/\PC c x y=some z
 | [],s,gs,P,z,h=>by simp [Na] at h
 | (t,g,p,x)::F,s,gs,P,z,h=>by
  simp only [Na] at h;have rec_:(s,gs,P,z)∈Na c Fb F->gs=[]/\P=True/\ ∃g' p' x' Q y,(s,g',p',x')∈(t,g,p,x)::F/\BE Fb s=some ([],Q,y)/\PC c x' y=some z:=fun h=>by
   obtain ⟨h1,h2,g',p',x',Q,y,h3,h4⟩:=R1 h;exact ⟨h1,h2,g',p',x',Q,y,by simp [h3],h4⟩
  split at h
  ·rename_i Q y hl;split at h
   ·rename_i w hw;rcases List.mem_cons.1 h with e | e
    ·cases e;exact ⟨rfl,rfl,g,p,x,Q,y,by simp,hl,hw⟩
    ·exact rec_ e
   ·exact rec_ h
  ·exact rec_ h
theorem UB {H:HF} {F:RF} {A:Frame} (hF:CS H F A) {x:AL} {p:Prop} {y:TV} (hx:OS F [] x=some y) (hy:mS y=some p):(p->CS H (gO F x .tt) A)/\(¬p->CS H (gO F x .ff) A):=by
 cases x with
 | c z=>exact ⟨fun _=>hF,fun _=>hF⟩
 | t n=>
  have key: ∀ {Q:Prop} {z:TV} {v:TV},BE F n=some ([],Q,z)->AE H v (A.get n)->CS H ((n,[],True,v)::F) A:=fun {Q z v} hl hv s gs P u hu=>by
   simp only [BE] at hu;split at hu
   ·rename_i hb;cases hu;rw [<-beq_eq hb];exact Hr hv
   ·exact hF _ _ _ _ hu
  have same: ∀ {Q:Prop} {z:TV},BE F n=some ([],Q,z)->y=z:=fun {Q z} hl=>by
   simp only [OS,hl,gY] at hx;cases hx;rfl
  simp only [gO];split
  ·rename_i Q q hl;have e:=same hl;subst e;simp only [mS] at hy;cases hy;have hs:=(hF _ _ _ _ hl).on A9;simp only [AE] at hs;obtain ⟨b,e,hb⟩:=hs;exact ⟨fun h=>key hl (by simp only [AE];rw [e,hb.2 h]),fun h=>key hl (by simp only [AE];rw [e];cases b;rfl;exact (h (hb.1 rfl)).elim)⟩
  ·rename_i Q b hl;have e:=same hl;subst e;simp only [mS] at hy;cases hy;have hs:=(hF _ _ _ _ hl).on A9;simp only [AE] at hs;exact ⟨fun h=>key hl (by simp only [AE];rw [hs,h]),fun h=>key hl (by simp only [AE];rw [hs];cases b;rfl;exact (h rfl).elim)⟩
  ·exact ⟨fun _=>hF,fun _=>hF⟩
theorem kN (hΓ:Cons P Γ) (hi:Hi) {TS:List B4} {H:HF} {S:AB} (st:DO H TS S): ∀(c:Ak) {F F':RF} {ps:List Prop} {A:Frame} {Q':BU->Frame->AB->Prop},CS H F A->W7 Γ hi TS c F=some (ps,F')->FW ps->
  (∀A',CS H F' A'->Q' .normal A' S)->vc P c Q' A S:=by
 have app: ∀ {a b:List Prop},FW (a++b)->FW a/\FW b:=fun {a b} h=>⟨fun p hp=>h p (by simp [hp]),fun p hp=>h p (by simp [hp])⟩
 intro c
 induction c with
 | skip=>
  intro F F' ps A Q' hF h Ej hk;simp only [W7,Option.some.injEq,Prod.mk.injEq] at h;obtain ⟨_,rfl⟩:=h;exact hk _ hF
 | ops l d AW=>
  intro F F' ps A Q' hF h Ej hk;simp only [W7] at h;split at h
  ·cases h
  ·rename_i h0;split at h<;>cases h;rename_i F1 he;refine gy ?_;rw [h0,List.replicate_zero,List.append_nil];exact HH hΓ hi st l _ hF he Ej fun A' hA=>hk _ (Iv hA AW)
 | seq a b iha ihb=>
  intro F F' ps A Q' hF h Ej hk;simp only [W7] at h;split at h
  ·rename_i ps1 F1 h1;split at h<;>cases h;rename_i qs h2;obtain ⟨p1,p2⟩:=app Ej;simp only [vc];exact iha hF h1 p1 fun A1 hA=>ihb hA h2 p2 hk
  ·cases h
 | join AW W n a b iha ihb=>
  intro F F' ps A Q' hF h Ej hk;simp only [W7] at h;split at h
  ·rename_i ps1 F1 h1;split at h<;>cases h;rename_i qs h2;obtain ⟨p1,p2⟩:=app Ej;simp only [vc];intro K hK;rw [E6,Jo] at hK;refine iha hF h1 p1 fun A1 hA=>?_;simp only [BU.Dj,Ex];refine hK _ (by simp) S (ihb ?_ h2 p2 hk);exact (RN (Iv hF AW) (MQ F AW) W (IH hA W)).1
  ·cases h
 | cond x a b iha ihb=>
  intro F F' ps A Q' hF h Ej hk;simp only [W7] at h;simp only [vc,AD];split at h
  ·rename_i hx;have:=Bd hF A9 hx;simp only [AE] at this;rw [this];exact ⟨fun _=>iha hF h Ej hk,fun e=>by cases e⟩
  ·rename_i hx;have:=Bd hF A9 hx;simp only [AE] at this;rw [this];exact ⟨fun e=>(by cases e),fun _=>ihb hF h Ej hk⟩
  ·rename_i y _ _ hx;split at h
   ·rename_i p psa Fa psb Fb hp ha hb;cases h;obtain ⟨p1,p2⟩:=app Ej;rw [Od] at p1 p2;have hs:=Bd hF A9 hx;have ya:p->vc P a Q' A S:=fun hp'=>iha ((UB hF hx hp).1 hp') ha (p1 hp') fun A' hA=>hk _ fun s gs Q z hz=>by
     obtain ⟨rfl,rfl,g,q,u,Q2,v,m1,m2,m3⟩:=R1 (LW hz);obtain ⟨_,_,_,Q3,m4⟩:=La m1;exact Hr ((Ix m3).1 hp' _ ((hA _ _ _ _ m4).on A9))
    have yb: ¬p->vc P b Q' A S:=fun hp'=>ihb ((UB hF hx hp).2 hp') hb (p2 hp') fun A' hA=>hk _ fun s gs Q z hz=>by
     obtain ⟨rfl,rfl,g,q,u,Q2,v,m1,m2,m3⟩:=R1 (LW hz);exact Hr ((Ix m3).2 hp' _ ((hA _ _ _ _ m2).on A9))
    cases y<;>simp only [mS] at hp<;>cases hp<;>simp only [AE] at hs
    ·rw [hs];exact ⟨fun _=>ya trivial,fun e=>by cases e⟩
    ·rw [hs];exact ⟨fun e=>(by cases e),fun _=>yb id⟩
    ·rw [hs];exact ⟨fun e=>ya e,fun e=>yb (by simp [e])⟩
    ·obtain ⟨w,e,hw⟩:=hs;rw [e];exact ⟨fun e=>ya (hw.1 e),fun e=>yb fun q=>by rw [hw.2 q] at e;cases e⟩
    ·rcases hs with ⟨e,hq⟩ | ⟨e,hq⟩<;>rw [e]
     ·exact ya hq
     ·exact yb hq
   ·cases h
  ·cases h
 | block id a iha=>
  intro F F' ps A Q' hF h Ej hk;simp only [W7] at h;simp only [vc];exact iha hF h Ej fun A' hA=>hk _ hA
 | loop AW W n a _=>intro F F' ps A Q' hF h;simp [W7] at h
 | exit id=>intro F F' ps A Q' hF h;simp [W7] at h
 | ret=>intro F F' ps A Q' hF h;simp [W7] at h
def tU (AG:List Frame) (Q:BU->TK) (Q':BU->Frame->AB->Prop):Prop:=
 ∀e A' S' H' F' G' TS',DO H' TS' S'->CS H' F' A'->Dr H' G' AG->Q e F' G' TS'->Q' e A' S'
theorem OP {AG:List Frame} {Q:BU->TK} {Q':BU->Frame->AB->Prop} {A0:Frame} (h:tU AG Q Q'):tU (A0::AG) (uL Q) Q':=fun e A' S' H' F' G' TS' st hF hG hq=>by
 cases hG with
 | cons a b=>exact h e A' S' H' F' _ TS' st hF b hq
theorem mH (hΓ:Cons P Γ) (hC:YB P call) (hi:Hi): ∀(c:Ak) (an:An) {Q:BU->TK} {Q':BU->Frame->AB->Prop} {F:RF} {G:List RF} {TS:List B4} {H:HF} {A:Frame} {AG:List Frame} {S:AB},
  DO H TS S->CS H F A->Dr H G AG->Zi Γ call hi c an Q F G TS->tU AG Q Q'->vc P c Q' A S:=by
 intro c
 induction c with
 | skip=>intro an Q Q' F G TS H A AG S st hF hG h hk;exact hk _ _ _ _ _ _ _ st hF hG h
 | exit id=>intro an Q Q' F G TS H A AG S st hF hG h hk;exact hk _ _ _ _ _ _ _ st hF hG h
 | ret=>intro an Q Q' F G TS H A AG S st hF hG h hk;exact hk _ _ _ _ _ _ _ st hF hG h
 | ops l d AW=>
  intro an Q Q' F G TS H A AG S st hF hG h hk;simp only [Zi] at h;split at h
  ·rename_i h0;refine gy ?_;rw [h0,List.replicate_zero,List.append_nil];exact EJ hΓ hC hi l _ st hF hG h fun A' S' H' F' G' TS' q1 q2 q3 q4=>hk _ _ _ _ _ _ _ q1 (Iv q2 AW) q3 q4
  ·rename_i r h0;split at h
   ·rename_i m;split at h
    ·rename_i ps F1 hb he;have hb:=beq_eq hb;rw [EC] at h;refine gy ?_;rw [h0];have el:l=l.take m.1++l.drop m.1:=(List.take_append_drop _ _).symm;have st':DO H TS (S++List.replicate (r+1) .dead):=⟨fun j o hj=>(st.ob j o hj).ext (fun _ _ h=>h) (fun p x hp=>by rw [List.getElem?_append_left (List.getElem?_eq_some_iff.1 hp).1];exact hp) (fun h=>h),st.out,st.inj,fun l i h p v n e1 e2=>by rw [List.length_append];have g:=st.sub l i h p v n e1 e2;exact ⟨by have:=g.1;omega,g.2⟩⟩
     have main:Ah P (fun A' S'=>BC P (fun F' S'=>Q' .normal (kF AW F') S') (l.drop m.1) A' S') (l.take m.1).length (l.take m.1) A (S++List.replicate (r+1) .dead):=by
      refine HH hΓ hi st' _ _ hF he h.1 fun A' hA=>?_;refine Mf hΓ hi _ (r+1) st' hA hG h.2 (by simp) (fun d h1 h2=>?_) fun rest A2 S2 H2 F2 G2 TS2 q1 q2 q3 q4=>?_
      ·simp only [List.length_append,List.length_replicate];rw [List.getElem?_append_right (by omega),List.getElem?_replicate,if_pos (by omega)]
      ·have:=EJ hΓ hC hi rest 0 q1 q2 q3 q4 (K':=fun F' S'=>Q' .normal (kF AW F') S') fun A' S' H' F' G' TS' q1 q2 q3 q4=>hk _ _ _ _ _ _ _ q1 (Iv q2 AW) q3 q4;simpa only [Ah] using this
     have main:=Pw _ main;rw [hb,<-el] at main;exact main
    ·exact h.elim
   ·exact h.elim
 | seq a b iha ihb=>
  intro an Q Q' F G TS H A AG S st hF hG h hk;simp only [Zi] at h;simp only [vc];refine iha _ st hF hG h fun e A' S' H' F' G' TS' q1 q2 q3 q4=>?_;cases e with
  | normal=>exact ihb _ q1 q2 q3 q4 hk
  | exit id=>exact hk _ _ _ _ _ _ _ q1 q2 q3 q4
  | ret=>exact hk _ _ _ _ _ _ _ q1 q2 q3 q4
 | join AW W n a b iha ihb=>
  intro an Q Q' F G TS H A AG S st hF hG h hk;simp only [Zi] at h;simp only [vc];intro K hK;rw [E6,Jo] at hK;split at h
  ·rename_i ps F' he;rw [EC] at h;refine kN hΓ hi st a hF he h.1 fun A1 hA=>?_;simp only [BU.Dj,Ex];exact hK _ (by simp) S (ihb _ st (RN (Iv hF AW) (MQ F AW) W (IH hA W)).1 hG h.2 hk)
  ·refine iha _ st hF (.cons (Iv hF AW) hG) h fun e A' S' H' F' G' TS' q1 q2 q3 q4=>?_;cases e with
   | normal=>
    simp only [BU.Dj,Ex];cases q3 with
    | cons f1 f2=>exact hK _ (by simp) S' (ihb _ q1 (RN (lR f1 AW) (MQ _ AW) W (IH q2 W)).1 f2 q4 hk)
   | exit id=>exact OP hk _ _ _ _ _ _ _ q1 q2 q3 q4
   | ret=>exact OP hk _ _ _ _ _ _ _ q1 q2 q3 q4
 | cond x a b iha ihb=>
  intro an Q Q' F G TS H A AG S st hF hG h hk;simp only [Zi] at h;simp only [vc,AD];split at h
  ·rename_i hx;have:=Bd hF A9 hx;simp only [AE] at this;rw [this];exact ⟨fun _=>iha _ st hF hG h hk,fun e=>by cases e⟩
  ·rename_i hx;have:=Bd hF A9 hx;simp only [AE] at this;rw [this];exact ⟨fun e=>(by cases e),fun _=>ihb _ st hF hG h hk⟩
  ·rename_i y _ _ hx;split at h
   ·rename_i p hp;have hs:=Bd hF A9 hx;have ya:p->vc P a Q' A S:=fun hp'=>iha _ st ((UB hF hx hp).1 hp') hG (h.1 hp') hk;have yb: ¬p->vc P b Q' A S:=fun hp'=>ihb _ st ((UB hF hx hp).2 hp') hG (h.2 hp') hk;cases y<;>simp only [mS] at hp<;>cases hp<;>simp only [AE] at hs
    ·rw [hs];exact ⟨fun _=>ya trivial,fun e=>by cases e⟩
    ·rw [hs];exact ⟨fun e=>(by cases e),fun _=>yb id⟩
    ·rw [hs];exact ⟨fun e=>ya e,fun e=>yb (by simp [e])⟩
    ·obtain ⟨w,e,hw⟩:=hs;rw [e];exact ⟨fun e=>ya (hw.1 e),fun e=>yb fun q=>by rw [hw.2 q] at e;cases e⟩
    ·rcases hs with ⟨e,hq⟩ | ⟨e,hq⟩<;>rw [e]
     ·exact ya hq
     ·exact yb hq
   ·exact h.elim
  ·exact h.elim
 | block id a iha=>
  intro an Q Q' F G TS H A AG S st hF hG h hk;simp only [Zi] at h;simp only [vc];refine iha _ st hF hG h fun e A' S' H' F' G' TS' q1 q2 q3 q4=>?_;cases e with
  | normal=>exact hk _ _ _ _ _ _ _ q1 q2 q3 q4
  | exit id'=>
   simp only [w6] at q4;simp only [BU.Gz];cases hb:Nat.beq id' id<;>rw [hb] at q4<;>exact hk _ _ _ _ _ _ _ q1 q2 q3 q4
  | ret=>exact hk _ _ _ _ _ _ _ q1 q2 q3 q4
 | loop AW W n a iha=>
  intro an Q Q' F G TS H A AG S st hF hG h hk;simp only [Zi,pq] at h;obtain ⟨H2,hle,st2⟩:=Kh (ty:=hi.ty) (F:=F) an.Wb st;replace hF:=hF.ext hle;replace hG:=hG.ext hle;clear st hle;generalize VX hi.ty F an.Wb TS=TS3 at h st2;clear TS H
  revert H2 hF hG TS3 h st2
  intro H hF hG TS h st;simp only [tN] at h;generalize rJ (ke hi.nm F TS an.JX)=SB at h;generalize ke hi.nm F TS an.Wb=MS at h;obtain ⟨I,m,h0,hstep⟩:=h;have ho:Zu TS.length H:=st.out;have hws: ∀s∈Wf SB (KZ F W),mX TS.length s:=ZU (J7 ho (IH hF W));have hos: ∀s∈Q_ MS SB 0 TS,mY TS.length s:=jS 0 (sP st);have hol:(Q_ MS SB 0 TS).length=TS.length:=dJ 0 TS;have back: ∀ {H':HF} {TS':List B4} {xs:List TV} {ys:List AA} {S':AB} {f:Prop->Nat->Prop},DO H' TS' S'->AJ H' xs ys->CS (FL TS.length H') (Fh F AW) (kF AW A)->Dr (FL TS.length H') G AG->
    (aV TS' (Wf SB (KZ F W)) I m xs fun I' m'=>aO TS' (Q_ MS SB 0 TS) I' m' TS' f)->
    eV (Wf SB (KZ F W)) I m fun I1 m1 txs=>eO (Q_ MS SB 0 TS) I1 m1 fun I2 m2 TS1=>f I2 m2/\ ∃H1,DO H1 TS1 S'/\AJ H1 txs ys/\CS H1 (Fh F AW) (kF AW A)/\Dr H1 G AG:=by
   intro H' TS' xs ys S' f st' hs hF0 hG0 ha;refine GB _ _ _ (fun I1 m1 txs ⟨g1,g2⟩=>?_) (M_ (n:=TS.length) st' _ _ _ hws ha hs);refine Gv _ _ _ (fun I2 m2 TS1 ⟨g3,g4,g5⟩=>?_) (M9 (n:=TS.length) st' _ _ _ 0 hos (by rw [hol];omega) (fun l o hl=>by rw [Nat.zero_add];exact st'.ob l o hl) g1);refine ⟨g3,FL TS.length H',⟨fun l o hl=>?_,fun l hl=>?_,fun l l' h h' p v v' e1 e2 e3 e4=>?_,fun l i h p v n e1 e2=>?_⟩,g2,hF0,hG0⟩
   ·have:=g5 l o hl;rwa [Nat.zero_add] at this
   ·rw [g4,hol] at hl;simp only [FL];rw [if_neg (by omega)]
   ·exact st'.inj _ _ _ _ _ _ _ (KG e1) (KG e2) e3 e4
   ·obtain ⟨k1,k2,k3⟩:=st'.sub _ _ _ _ _ _ (KG e1) e2;exact ⟨k1,fun l' h' v' q1 q2=>k2 _ _ _ (KG q1) q2,fun l' i' h' v' n' q1 q2=>k3 _ _ _ _ _ (KG q1) q2⟩
  have tr:FL TS.length H=H:=by
   funext l;simp only [FL];split
   ·rfl
   ·rename_i hl;exact (ho l (by omega)).symm
  simp only [vc];refine ⟨fun k xs os=>eV (Wf SB (KZ F W)) I m fun I1 m1 txs=>eO (Q_ MS SB 0 TS) I1 m1 fun I2 m2 TS1=>(I2/\m2=k)/\ ∃H1,DO H1 TS1 os/\AJ H1 txs xs/\CS H1 (Fh F AW) (kF AW A)/\Dr H1 G AG,?_,?_⟩
  ·rw [Ex];have b:=back (f:=fun I _=>I) st (IH hF W) (by rw [tr];exact Iv hF AW) (by rw [tr];exact hG) h0;obtain ⟨k,hk⟩:=uh _ _ _ (fun I1 m1 k txs=>eO (Q_ MS SB 0 TS) I1 m1 fun I2 m2 TS1=>(I2/\m2=k)/\ ∃H1,DO H1 TS1 S/\AJ H1 txs (W.map A.get)/\CS H1 (Fh F AW) (kF AW A)/\Dr H1 G AG)
    (GB _ _ _ (fun a b txs h=>ug _ _ _ _ (Gv _ _ _ (fun I2 m2 TS1 ⟨g1,g2⟩=>⟨m2,⟨g1,rfl⟩,g2⟩) h)) b)
   exact ⟨k,hk⟩
  ·rw [E6,Jo];intro xs _ k os hI;obtain ⟨I1,m1,txs,q1,q2⟩:=cx _ _ _ _ hstep hI;obtain ⟨I2,m2,TS1,q3,⟨q4,q5⟩,H1,q6,q7,q8,q9⟩:=cv _ _ _ q1 q2;have ho1:Zu TS1.length H1:=q6.out;refine iha _ q6 (RN q8 (MQ F AW) W q7).1 (.cons q8 q9) (q3 q4) fun e A' S' H' F' G' TS' r1 r2 r3 r4=>?_;cases e with
   | normal=>
    simp only [BU.Dj,Ex];obtain ⟨H2,F2,G2,TS2,s1,s2,s3,s4⟩:=N3 _ r4 r1 r2 r3;cases s3 with
    | cons f1 f2=>
     simp only at s4;split at s4
     ·rename_i e1 e2;have b:=back s1 (IH s2 W) (dB e1 (Iv hF AW) f1 ho) (Xt ho e2 hG f2) s4;obtain ⟨k',hk'⟩:=uh _ _ _ (fun J1 n1 k' txs=>eO (Q_ MS SB 0 TS) J1 n1 fun J2 n2 TS1=>(k'<k/\J2/\n2=k')/\ ∃H1,DO H1 TS1 S'/\AJ H1 txs (W.map A'.get)/\CS H1 (Fh F AW) (kF AW A)/\Dr H1 G AG)
       (GB _ _ _ (fun a b txs h=>ug _ _ _ _ (Gv _ _ _ (fun J2 n2 TS1 ⟨⟨g1,g1'⟩,g2⟩=>⟨n2,⟨by rw [<-q5];exact g1',g1,rfl⟩,g2⟩) h)) b)
      have lt:k'<k:=by
       exact mw _ _ _ (fun a b xs h=>mq _ _ _ (fun J2 n2 TS1 h=>h.1.1) h) hk'
      exact ⟨k',lt,GB _ _ _ (fun a b txs h=>Gv _ _ _ (fun J2 n2 TS1 ⟨⟨_,g1,g2⟩,g3⟩=>⟨⟨g1,g2⟩,g3⟩) h) hk'⟩
     ·exact s4.elim
   | exit id=>exact OP hk _ _ _ _ _ _ _ r1 r2 r3 r4
   | ret=>exact OP hk _ _ _ _ _ _ _ r1 r2 r3 r4
end
end Go.Vc
end
