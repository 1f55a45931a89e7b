/- Part of the proof of crewPlacesUpto_holds: the whole is true of every input. Conditions: none. -/
import Derived.Test.YtpbbahplbgmbcaaR6
set_option linter.all false
section
namespace Go.Vc
def kF (keep:List Nat) (A:Frame):Frame:=keep.map fun t=>(t,A.get t)
theorem kF_get {A:Frame}: ∀ {keep:List Nat} {s:Nat},s∈keep→Frame.get (kF keep A) s=A.get s
 | [],s,h=>by cases h
 | t::keep,s,h=>by
  simp only [kF,List.map_cons]
  rw [get_cons]
  split
  ·rename_i e;rw [e]
  ·rename_i e
   exact kF_get (by rcases List.mem_cons.1 h with q | q;exact (e q.symm).elim;exact q)
theorem only_mem {F:RF}: ∀ {keep:List Nat} {s:Nat} {gs:List (Nat×Bool)} {P:Prop} {x:TV},(s,gs,P,x)∈onlyT F keep→s∈keep∧gs=[]∧P=True∧ ∃Q,lookN F s=some ([],Q,x)
 | [],s,gs,P,x,h=>by simp [onlyT] at h
 | t::keep,s,gs,P,x,h=>by
  simp only [onlyT] at h
  split at h
  ·rename_i Q y hl
   rcases List.mem_cons.1 h with e | e
   ·cases e
    exact ⟨by simp,rfl,rfl,Q,hl⟩
   ·obtain ⟨h1,h2⟩:=only_mem e
    exact ⟨by simp [h1],h2⟩
  ·obtain ⟨h1,h2⟩:=only_mem h
   exact ⟨by simp [h1],h2⟩
section
variable {H : HF} {F : RF} {A : Frame}
theorem plainEnt {s:Nat} {x:TV} (h:SimV H x (A.get s)):EntOk H A s [] True x:=⟨fun _=>h,fun q=>(q holds_nil).elim,⟨fun _=>trivial,fun _=>holds_nil⟩⟩
theorem only_sim (hF:SimF H F A) (keep:List Nat):SimF H (onlyT F keep) (kF keep A):=fun s gs P x hx=>by
 obtain ⟨h1,rfl,rfl,Q,hl⟩:=only_mem (look_mem hx)
 exact plainEnt (by rw [kF_get h1];exact (hF _ _ _ _ hl).on holds_nil)
theorem only_sim' (hF:SimF H F A) (keep:List Nat):SimF H (onlyT F keep) A:=fun s gs P x hx=>by
 obtain ⟨h1,rfl,rfl,Q,hl⟩:=only_mem (look_mem hx)
 exact plainEnt ((hF _ _ _ _ hl).on holds_nil)
theorem lookT_sim (hF:SimF H F A) (t:Nat):SimV H (lookT F t) (A.get t):=by
 unfold lookT
 split
 ·rename_i x hl
  exact (hF _ _ _ _ hl).on holds_nil
 ·simp [SimV]
theorem getsT_sim (hF:SimF H F A): ∀W:List Nat,SimL H (getsT F W) (W.map A.get)
 | []=>by simp [getsT,SimL]
 | t::W=>by simp only [getsT,List.map_cons,SimL];exact ⟨_,_,rfl,lookT_sim hF t,getsT_sim hF W⟩
def PlainF (F:RF):Prop:= ∀s gs P x,lookN F s=some (gs,P,x)→gs=[]∧P=True
theorem only_plain (F:RF) (keep:List Nat):PlainF (onlyT F keep):=fun s gs P x hx=>by
 obtain ⟨_,h1,h2,_⟩:=only_mem (look_mem hx)
 exact ⟨h1,h2⟩
theorem zip_sim {F0:RF} {A0:Frame} (h0:SimF H F0 A0) (hp:PlainF F0): ∀(W:List Nat) {xs:List TV} {ys:List AVal},SimL H xs ys→SimF H (zipT W xs F0) (zipF W ys A0)∧PlainF (zipT W xs F0)
 | [],xs,ys,h=>by cases xs<;>cases ys<;>exact ⟨by simpa [zipT,zipF] using h0,by simpa [zipT] using hp⟩
 | t::W,[],ys,h=>by simp only [SimL] at h;subst h;exact ⟨by simpa [zipT,zipF] using h0,by simpa [zipT] using hp⟩
 | t::W,x::xs,ys,h=>by
  simp only [SimL] at h
  obtain ⟨y,zs,rfl,h1,h2⟩:=h
  obtain ⟨g1,g2⟩:=zip_sim h0 hp W h2
  refine ⟨fun s gs P z hz=>?_,fun s gs P z hz=>?_⟩<;>simp only [zipT,lookN] at hz
  ·simp only [zipF]
   split at hz
   ·rename_i hb
    cases hz
    rw [←beq_eq hb]
    exact plainEnt (by rw [get_cons,if_pos rfl];exact h1)
   ·rename_i hb
    have hne:t≠s:=fun e=>by subst e;simp at hb
    obtain ⟨rfl,rfl⟩:=g2 _ _ _ _ hz
    exact plainEnt (by rw [get_cons,if_neg hne];exact (g1 _ _ _ _ hz).on holds_nil)
  ·split at hz
   ·cases hz;exact ⟨rfl,rfl⟩
   ·exact g2 _ _ _ _ hz
end
mutual
def RefLt (n:Nat):TV→Prop
 | .ptr l _=>l<n
 | .eptr l _ _=>l<n
 | .inn l _=>l<n
 | .ieptr l _ _ _ _=>l<n
 | .slf l=>l<n
 | .ifs _ l=>l<n
 | .sl l _ _=>l<n
 | .agg cs=>RefLtL n cs
 | .tup cs=>RefLtL n cs
 | .rop cs=>RefLtL n cs
 | .fn _ cs=>RefLtL n cs
 | _=>True
def RefLtL (n:Nat):List TV→Prop
 | []=>True
 | x::xs=>RefLt n x∧RefLtL n xs
end
def OutN (n:Nat) (H:HF):Prop:= ∀l,n≤l→H l=none
theorem OutN.lt {n l:Nat} {H:HF} {h:Hd} (ho:OutN n H) (hl:H l=some h):l<n:=by
 rcases Nat.lt_or_ge l n with q | q
 ·exact q
 ·rw [ho l q] at hl;cases hl
def truncH (n:Nat) (H:HF):HF:=fun l=>if l<n then H l else none
theorem trunc_lt {n l:Nat} {H:HF} (h:l<n):truncH n H l=H l:=by simp [truncH,h]
mutual
theorem sim_ref {H:HF} {n:Nat} (ho:OutN n H): ∀ {x:TV} {y:AVal},SimV H x y→RefLt n x
 | .ptr l off,_,h=>by simp only [SimV] at h;obtain ⟨_,_,_,h,_⟩:=h;exact ho.lt h
 | .eptr l _ _,_,h=>by simp only [SimV] at h;obtain ⟨_,_,_,h,_⟩:=h;exact ho.lt h
 | .inn l _,_,h=>by simp only [SimV] at h;obtain ⟨_,_,h,_⟩:=h;exact ho.lt h
 | .ieptr l _ _ _ _,_,h=>by simp only [SimV] at h;obtain ⟨_,_,_,_,h,_⟩:=h;exact ho.lt h
 | .slf l,_,h=>by simp only [SimV] at h;obtain ⟨_,h,_⟩:=h;exact ho.lt h
 | .ifs _ l,_,h=>by simp only [SimV] at h;obtain ⟨_,h,_⟩:=h;exact ho.lt h
 | .sl l _ _,_,h=>by simp only [SimV] at h;obtain ⟨_,h,_⟩:=h;exact ho.lt h
 | .agg cs,_,h=>by simp only [SimV] at h;obtain ⟨_,_,h⟩:=h;exact simL_ref ho h
 | .tup cs,_,h=>by simp only [SimV] at h;obtain ⟨_,_,h⟩:=h;exact simL_ref ho h
 | .rop cs,_,h=>by simp only [SimV] at h;obtain ⟨_,_,h⟩:=h;exact simL_ref ho h
 | .fn _ cs,_,h=>by simp only [SimV] at h;obtain ⟨_,_,h⟩:=h;exact simL_ref ho h
 | .junk,_,_ | .tt,_,_ | .ff,_,_ | .bb _,_,_ | .pr _,_,_ | .gd _,_,_ | .int _ _,_,_ | .byte _,_,_ | .str _,_,_ | .nilp,_,_ | .nilf,_,_ | .nilm,_,_ | .nili,_,_ | .nils,_,_ | .cst _,_,_ | .ros _ _,_,_=>trivial
theorem simL_ref {H:HF} {n:Nat} (ho:OutN n H): ∀ {x:List TV} {y:List AVal},SimL H x y→RefLtL n x
 | [],_,_=>trivial
 | x::xs,_,h=>by simp only [SimL] at h;obtain ⟨_,_,_,h1,h2⟩:=h;exact ⟨sim_ref ho h1,simL_ref ho h2⟩
end
mutual
theorem trunc_sim {H:HF} {n:Nat}: ∀ {x:TV} {y:AVal},RefLt n x→SimV H x y→SimV (truncH n H) x y
 | .ptr l off,_,r,h=>by simp only [RefLt] at r;simpa only [SimV,trunc_lt r] using h
 | .eptr l _ _,_,r,h=>by simp only [RefLt] at r;simpa only [SimV,trunc_lt r] using h
 | .inn l _,_,r,h=>by simp only [RefLt] at r;simpa only [SimV,trunc_lt r] using h
 | .ieptr l _ _ _ _,_,r,h=>by simp only [RefLt] at r;simpa only [SimV,trunc_lt r] using h
 | .slf l,_,r,h=>by simp only [RefLt] at r;simpa only [SimV,trunc_lt r] using h
 | .ifs _ l,_,r,h=>by simp only [RefLt] at r;simpa only [SimV,trunc_lt r] using h
 | .sl l _ _,_,r,h=>by simp only [RefLt] at r;simpa only [SimV,trunc_lt r] using h
 | .agg cs,_,r,h=>by simp only [RefLt] at r;simp only [SimV] at*;obtain ⟨a,b,h⟩:=h;exact ⟨a,b,truncL_sim r h⟩
 | .tup cs,_,r,h=>by simp only [RefLt] at r;simp only [SimV] at*;obtain ⟨a,b,h⟩:=h;exact ⟨a,b,truncL_sim r h⟩
 | .rop cs,_,r,h=>by simp only [RefLt] at r;simp only [SimV] at*;obtain ⟨a,b,h⟩:=h;exact ⟨a,b,truncL_sim r h⟩
 | .fn _ cs,_,r,h=>by simp only [RefLt] at r;simp only [SimV] at*;obtain ⟨a,b,h⟩:=h;exact ⟨a,b,truncL_sim r h⟩
 | .junk,_,_,h | .tt,_,_,h | .ff,_,_,h | .bb _,_,_,h | .pr _,_,_,h | .gd _,_,_,h | .int _ _,_,_,h | .byte _,_,_,h | .str _,_,_,h | .nilp,_,_,h | .nilf,_,_,h | .nilm,_,_,h | .nili,_,_,h | .nils,_,_,h | .cst _,_,_,h | .ros _ _,_,_,h=>by simpa [SimV] using h
theorem truncL_sim {H:HF} {n:Nat}: ∀ {x:List TV} {y:List AVal},RefLtL n x→SimL H x y→SimL (truncH n H) x y
 | [],_,_,h=>by simpa [SimL] using h
 | x::xs,_,r,h=>by
  simp only [SimL,RefLtL] at*
  obtain ⟨a,b,c,h1,h2⟩:=h
  exact ⟨a,b,c,trunc_sim r.1 h1,truncL_sim r.2 h2⟩
end
mutual
theorem pure_sim {H H':HF}: ∀ {x:TV} {y:AVal},pureV x=true→SimV H x y→SimV H' x y
 | .ptr l off,_,r,h=>by simp [pureV] at r
 | .eptr l _ _,_,r,h=>by simp [pureV] at r
 | .inn l _,_,r,h=>by simp [pureV] at r
 | .ieptr l _ _ _ _,_,r,h=>by simp [pureV] at r
 | .slf l,_,r,h=>by simp [pureV] at r
 | .ifs _ l,_,r,h=>by simp [pureV] at r
 | .sl l _ _,_,r,h=>by simp [pureV] at r
 | .agg cs,_,r,h=>by simp only [pureV] at r;simp only [SimV] at*;obtain ⟨a,b,h⟩:=h;exact ⟨a,b,pureL_sim r h⟩
 | .tup cs,_,r,h=>by simp only [pureV] at r;simp only [SimV] at*;obtain ⟨a,b,h⟩:=h;exact ⟨a,b,pureL_sim r h⟩
 | .rop cs,_,r,h=>by simp only [pureV] at r;simp only [SimV] at*;obtain ⟨a,b,h⟩:=h;exact ⟨a,b,pureL_sim r h⟩
 | .fn _ cs,_,r,h=>by simp only [pureV] at r;simp only [SimV] at*;obtain ⟨a,b,h⟩:=h;exact ⟨a,b,pureL_sim r h⟩
 | .junk,_,_,h | .tt,_,_,h | .ff,_,_,h | .bb _,_,_,h | .pr _,_,_,h | .gd _,_,_,h | .int _ _,_,_,h | .byte _,_,_,h | .str _,_,_,h | .nilp,_,_,h | .nilf,_,_,h | .nilm,_,_,h | .nili,_,_,h | .nils,_,_,h | .cst _,_,_,h | .ros _ _,_,_,h=>by simpa [SimV] using h
theorem pureL_sim {H H':HF}: ∀ {x:List TV} {y:List AVal},pureL x=true→SimL H x y→SimL H' x y
 | [],_,_,h=>by simpa [SimL] using h
 | x::xs,_,r,h=>by
  simp only [SimL,pureL,Bool.and_eq_true] at*
  obtain ⟨a,b,c,h1,h2⟩:=h
  exact ⟨a,b,c,pure_sim r.1 h1,pureL_sim r.2 h2⟩
end
theorem same_look: ∀ {F F':RF},sameF F F'=true→ ∀ {s:Nat} {gs:List (Nat×Bool)} {P:Prop} {x:TV},lookN F s=some (gs,P,x)→ ∃P' x',lookN F' s=some (gs,P',x')∧(pureV x=true∨x=x')
 | [],F',h,s,gs,P,x,hx=>by simp [lookN] at hx
 | (a,g,p,z)::F,[],h,s,gs,P,x,hx=>by simp [sameF] at h
 | (a,g,p,z)::F,(a',g',p',z')::F',h,s,gs,P,x,hx=>by
  simp only [sameF] at h
  split at h
  ·rename_i hb he
   have e1:=beq_eq hb
   have e2:=eqPath_eq he
   subst e1;subst e2
   have step:(pureV z=true∨z=z')→sameF F F'=true→ ∃P' x',lookN ((a,g,p',z')::F') s=some (gs,P',x')∧(pureV x=true∨x=x'):=fun hz hr=>by
    simp only [lookN] at hx ⊢
    split at hx
    ·cases hx;exact ⟨_,_,rfl,hz⟩
    ·exact same_look hr hx
   split at h
   ·rename_i hp;exact step (.inl hp) h
   ·split at h
    ·rename_i hs;exact step (.inr (sameV_eq hs)) h
    ·cases h
  ·cases h
theorem same_sim {H0 H':HF} {F F':RF} {A:Frame} {n:Nat} (h:sameF F F'=true) (h0:SimF H0 F A) (h1:SimF H' F' A) (ho:OutN n H0):SimF (truncH n H') F A:=fun s gs P x hx=>by
 have e:=h0 _ _ _ _ hx
 obtain ⟨P',x',g1,g2⟩:=same_look h hx
 refine ⟨fun q=>?_,e.off,e.iff⟩
 rcases g2 with g2 | rfl
 ·exact pure_sim g2 (e.on q)
 ·exact trunc_sim (sim_ref ho (e.on q)) ((h1 _ _ _ _ g1).on q)
theorem sameG_sim {H0 H':HF} {n:Nat} (ho:OutN n H0): ∀ {G G':List RF} {AG:List Frame},sameG G G'=true→SimG H0 G AG→SimG H' G' AG→SimG (truncH n H') G AG
 | [],[],AG,_,h0,h1=>by cases h0;exact .nil
 | [],_::_,AG,h,_,_=>by simp [sameG] at h
 | _::_,[],AG,h,_,_=>by simp [sameG] at h
 | F::G,F'::G',AG,h,h0,h1=>by
  simp only [sameG] at h
  split at h
  ·rename_i hf
   cases h0 with
   | cons a b=>cases h1 with
    | cons c d=>exact .cons (same_sim hf a c ho) (sameG_sim ho h b d)
  ·cases h
theorem swN_if (a b l:Nat):swN a b l=if l=a then b else if l=b then a else l:=by
 have hb: ∀x y:Nat,Nat.beq x y=decide (x=y):=fun x y=>by
  cases h:Nat.beq x y with
  | true=>simp [beq_eq h]
  | false=>simp [Nat.ne_of_beq_eq_false h]
 unfold swN
 simp only [hb]
 by_cases h1:l=a
 ·simp [h1]
 ·by_cases h2:l=b
  ·subst h2;simp [h1]
  ·simp [h1,h2]
theorem swN_swN (a b l:Nat):swN a b (swN a b l)=l:=by
 simp only [swN_if]
 split<;>split<;>(try split)<;>simp_all
def swH (a b:Nat) (H:HF):HF:=fun l=>H (swN a b l)
mutual
theorem sw_sim {H:HF} {a b:Nat}: ∀ {x:TV} {y:AVal},SimV H x y→SimV (swH a b H) (swV a b x) y
 | .ptr l off,_,h=>by simpa only [swV,SimV,swH,swN_swN] using h
 | .eptr l _ _,_,h=>by simpa only [swV,SimV,swH,swN_swN] using h
 | .inn l _,_,h=>by simpa only [swV,SimV,swH,swN_swN] using h
 | .ieptr l _ _ _ _,_,h=>by simpa only [swV,SimV,swH,swN_swN] using h
 | .slf l,_,h=>by simpa only [swV,SimV,swH,swN_swN] using h
 | .ifs _ l,_,h=>by simpa only [swV,SimV,swH,swN_swN] using h
 | .sl l _ _,_,h=>by simpa only [swV,SimV,swH,swN_swN] using h
 | .agg cs,_,h=>by simp only [swV,SimV] at*;obtain ⟨u,v,h⟩:=h;exact ⟨u,v,swL_sim h⟩
 | .tup cs,_,h=>by simp only [swV,SimV] at*;obtain ⟨u,v,h⟩:=h;exact ⟨u,v,swL_sim h⟩
 | .rop cs,_,h=>by simp only [swV,SimV] at*;obtain ⟨u,v,h⟩:=h;exact ⟨u,v,swL_sim h⟩
 | .fn _ cs,_,h=>by simp only [swV,SimV] at*;obtain ⟨u,v,h⟩:=h;exact ⟨u,v,swL_sim h⟩
 | .junk,_,h | .tt,_,h | .ff,_,h | .bb _,_,h | .pr _,_,h | .gd _,_,h | .int _ _,_,h | .byte _,_,h | .str _,_,h | .nilp,_,h | .nilf,_,h | .nilm,_,h | .nili,_,h | .nils,_,h | .cst _,_,h | .ros _ _,_,h=>by simpa [swV,SimV] using h
theorem swL_sim {H:HF} {a b:Nat}: ∀ {x:List TV} {y:List AVal},SimL H x y→SimL (swH a b H) (swL a b x) y
 | [],_,h=>by simpa [swL,SimL] using h
 | x::xs,_,h=>by
  simp only [swL,SimL] at*
  obtain ⟨u,v,w,h1,h2⟩:=h
  exact ⟨u,v,w,sw_sim h1,swL_sim h2⟩
end
theorem swL_length {a b:Nat}: ∀xs:List TV,(swL a b xs).length=xs.length
 | []=>rfl
 | x::xs=>by simp [swL,swL_length xs]
theorem look_sw {a b:Nat}: ∀ {F:RF} {s:Nat} {gs:List (Nat×Bool)} {P:Prop} {x:TV},lookN (swF a b F) s=some (gs,P,x)→ ∃x0,lookN F s=some (gs,P,x0)∧x=swV a b x0
 | [],s,gs,P,x,h=>by simp [swF,lookN] at h
 | (t,g,q,z)::F,s,gs,P,x,h=>by
  simp only [swF,lookN] at h ⊢
  split at h
  ·cases h;exact ⟨z,rfl,rfl⟩
  ·exact look_sw h
theorem SimF.sw {H:HF} {a b:Nat} {F:RF} {A:Frame} (h:SimF H F A):SimF (swH a b H) (swF a b F) A:=fun s gs P x hx=>by
 obtain ⟨x0,h1,rfl⟩:=look_sw hx
 have e:=h _ _ _ _ h1
 exact ⟨fun q=>sw_sim (e.on q),e.off,e.iff⟩
theorem SimG.sw {H:HF} {a b:Nat} {G:List RF} {AG:List Frame} (h:SimG H G AG):SimG (swH a b H) (swG a b G) AG:=by
 induction h with
 | nil=>exact .nil
 | cons h _ ih=>exact .cons h.sw ih
theorem ObS.sw {H:HF} {S:Store} {a b l:Nat} {o:TOb} (h:ObS H S (swN a b l) o):ObS (swH a b H) S l (swOb a b o):=by
 cases o with
 | dead=>exact h
 | cells k cs=>
  obtain ⟨p,v,xs,h1,h2,h3⟩:=h
  exact ⟨p,v,xs,by simp only [swH,swL_length];exact h1,h2,swL_sim h3⟩
 | row t ls=>exact h
 | drow t ls=>exact h
theorem swM_map (a b:Nat): ∀TS:List TOb,swM a b TS=TS.map (swOb a b)
 | []=>rfl
 | o::TS=>by simp [swM,swM_map a b TS]
theorem St3.sw {H:HF} {TS:List TOb} {S:Store} (st:St3 H TS S) {a b:Nat} {x y:TOb} (ha:objAt TS a=some x) (hb:objAt TS b=some y) (hne:Nat.beq a b=false):St3 (swH a b H) (swO a b TS) S:=by
 have hab:a≠b:=Nat.ne_of_beq_eq_false hne
 have la:=obj_lt ha
 have lb:=obj_lt hb
 have e:swO a b TS=((TS.map (swOb a b)).set a (swOb a b y)).set b (swOb a b x):=by
  simp only [swO,ha,hb,setOb_eq,swM_map]
 have sa:swN a b a=b:=by simp [swN]
 have sb:swN a b b=a:=by
  have:Nat.beq b a=false:=by
   cases h:Nat.beq b a with
   | true=>exact (hab (beq_eq h).symm).elim
   | false=>rfl
  simp [swN,this]
 have so: ∀l,l≠a→l≠b→swN a b l=l:=fun l h1 h2=>by
  have e1:Nat.beq l a=false:=by
   cases h:Nat.beq l a with
   | true=>exact (h1 (beq_eq h)).elim
   | false=>rfl
  have e2:Nat.beq l b=false:=by
   cases h:Nat.beq l b with
   | true=>exact (h2 (beq_eq h)).elim
   | false=>rfl
  simp [swN,e1,e2]
 rw [objAt_eq] at ha hb
 rw [e]
 refine ⟨fun l o hl=>?_,fun l hl=>?_,fun l l' h h' p v v' e1 e2 e3 e4=>?_,fun l i h p v n e1 e2=>?_⟩
 ·by_cases h1:l=b
  ·subst h1
   rw [List.getElem?_set_self (by simpa using lb)] at hl
   cases hl
   exact ObS.sw (by rw [sb];exact st.ob _ _ ha)
  ·rw [List.getElem?_set_ne (Ne.symm h1)] at hl
   by_cases h2:l=a
   ·subst h2
    rw [List.getElem?_set_self (by simpa using la)] at hl
    cases hl
    exact ObS.sw (by rw [sa];exact st.ob _ _ hb)
   ·rw [List.getElem?_set_ne (Ne.symm h2),List.getElem?_map] at hl
    cases hx:TS[l]? with
    | none=>rw [hx] at hl;cases hl
    | some o0=>
     rw [hx] at hl
     simp at hl
     subst hl
     exact ObS.sw (by rw [so l h2 h1];exact st.ob _ _ hx)
 ·simp at hl
  simp only [swH]
  rw [so l (by omega) (by omega)]
  exact st.out l hl
 ·have:=st.inj _ _ _ _ _ _ _ e1 e2 e3 e4
  rw [←swN_swN a b l,this,swN_swN]
 ·obtain ⟨g1,g2,g3⟩:=st.sub (swN a b l) i h p v n e1 e2
  refine ⟨g1,fun l' h' v' q1 q2=>g2 _ _ _ q1 q2,fun l' i' h' v' n' q1 q2=>?_⟩
  obtain ⟨k1,k2⟩:=g3 _ _ _ _ _ q1 q2
  exact ⟨by rw [←swN_swN a b l',k1,swN_swN],k2⟩
theorem swaps_sound {K:TK}: ∀(ps:List (Nat×Nat)) {F:RF} {G:List RF} {TS:List TOb} {H:HF} {A:Frame} {AG:List Frame} {S:Store},swaps ps K F G TS→St3 H TS S→SimF H F A→SimG H G AG→
  ∃H' F' G' TS',St3 H' TS' S∧SimF H' F' A∧SimG H' G' AG∧K F' G' TS'
 | [],F,G,TS,H,A,AG,S,h,st,hF,hG=>⟨H,F,G,TS,st,hF,hG,h⟩
 | p::ps,F,G,TS,H,A,AG,S,h,st,hF,hG=>by
  simp only [swaps] at h
  split at h
  ·exact swaps_sound ps h st hF hG
  ·rename_i hne
   split at h
   ·rename_i x y hx hy
    exact swaps_sound ps h (st.sw hx hy hne) hF.sw hG.sw
   ·exact h.elim
end Go.Vc
end
section
namespace Go.Vc
def eV {A B:Type}:(ws:List Sh)→PT ws A→PT ws B→(A→B→List TV→Prop)→Prop
 | [],p,m,f=>f p m []
 | .val t::r,p,m,f=> ∃x:T t,eV r (p x) (m x) fun p m xs=>f p m (tvA t x::xs)
 | .sub l::r,p,m,f=> ∃(off:Int) (len:Int),eV r (p off len) (m off len) fun p m xs=>f p m (.sl l off len::xs)
 | .con x::r,p,m,f=>eV r p m fun p m xs=>f p m (x::xs)
def eO {A B:Type}:(os:List ShO)→PO os A→PO os B→(A→B→List TOb→Prop)→Prop
 | [],p,m,f=>f p m []
 | .keep o::r,p,m,f=>eO r p m fun p m S=>f p m (o::S)
 | .row _ t::r,p,m,f=> ∃l:List (T t),eO r (p l) (m l) fun p m S=>f p m (.row t l::S)
 | .drow _ t::r,p,m,f=> ∃l:List (List (T t)),eO r (p l) (m l) fun p m S=>f p m (.drow t l::S)
 | .cells _ k shs::r,p,m,f=>eV shs p m fun p m cs=>eO r p m fun p m S=>f p m (.cells k cs::S)
theorem qV_eV {A B:Type}: ∀(ws:List Sh) (ns:List String) (p:PT ws A) (m:PT ws B) {f g:A→B→List TV→Prop},qV ns ws p m f→eV ws p m g→ ∃a b xs,f a b xs∧g a b xs
 | [],ns,p,m,f,g,h,h'=>⟨p,m,[],h,h'⟩
 | .val t::r,ns,p,m,f,g,h,h'=>by
  simp only [qV,eV] at h h'
  obtain ⟨x,h'⟩:=h'
  obtain ⟨a,b,xs,h1,h2⟩:=qV_eV r _ _ _ (h x) h'
  exact ⟨a,b,_,h1,h2⟩
 | .sub l::r,ns,p,m,f,g,h,h'=>by
  simp only [qV,eV] at h h'
  obtain ⟨x,y,h'⟩:=h'
  obtain ⟨a,b,xs,h1,h2⟩:=qV_eV r _ _ _ (h x y) h'
  exact ⟨a,b,_,h1,h2⟩
 | .con x::r,ns,p,m,f,g,h,h'=>by
  simp only [qV,eV] at h h'
  obtain ⟨a,b,xs,h1,h2⟩:=qV_eV r _ _ _ h h'
  exact ⟨a,b,_,h1,h2⟩
theorem qO_eO {A B:Type}: ∀(os:List ShO) (p:PO os A) (m:PO os B) {f g:A→B→List TOb→Prop},qO os p m f→eO os p m g→ ∃a b xs,f a b xs∧g a b xs
 | [],p,m,f,g,h,h'=>⟨p,m,[],h,h'⟩
 | .keep o::r,p,m,f,g,h,h'=>by
  simp only [qO,eO] at h h'
  obtain ⟨a,b,xs,h1,h2⟩:=qO_eO r _ _ h h'
  exact ⟨a,b,_,h1,h2⟩
 | .row nm t::r,p,m,f,g,h,h'=>by
  simp only [qO,eO] at h h'
  obtain ⟨x,h'⟩:=h'
  obtain ⟨a,b,xs,h1,h2⟩:=qO_eO r _ _ (h x) h'
  exact ⟨a,b,_,h1,h2⟩
 | .drow nm t::r,p,m,f,g,h,h'=>by
  simp only [qO,eO] at h h'
  obtain ⟨x,h'⟩:=h'
  obtain ⟨a,b,xs,h1,h2⟩:=qO_eO r _ _ (h x) h'
  exact ⟨a,b,_,h1,h2⟩
 | .cells nm k shs::r,p,m,f,g,h,h'=>by
  simp only [qO,eO] at h h'
  obtain ⟨p',m',cs,h1,h2⟩:=qV_eV shs _ _ _ h h'
  obtain ⟨a,b,xs,g1,g2⟩:=qO_eO r _ _ h1 h2
  exact ⟨a,b,_,g1,g2⟩
theorem eV_mono {A B:Type}: ∀(ws:List Sh) (p:PT ws A) (m:PT ws B) {f g:A→B→List TV→Prop},(∀a b xs,f a b xs→g a b xs)→eV ws p m f→eV ws p m g
 | [],p,m,f,g,hm,h=>hm _ _ _ h
 | .val t::r,p,m,f,g,hm,h=>by
  simp only [eV] at*
  obtain ⟨x,h⟩:=h
  exact ⟨x,eV_mono r _ _ (fun a b xs=>hm a b _) h⟩
 | .sub l::r,p,m,f,g,hm,h=>by
  simp only [eV] at*
  obtain ⟨x,y,h⟩:=h
  exact ⟨x,y,eV_mono r _ _ (fun a b xs=>hm a b _) h⟩
 | .con x::r,p,m,f,g,hm,h=>by
  simp only [eV] at*
  exact eV_mono r _ _ (fun a b xs=>hm a b _) h
theorem eO_mono {A B:Type}: ∀(os:List ShO) (p:PO os A) (m:PO os B) {f g:A→B→List TOb→Prop},(∀a b xs,f a b xs→g a b xs)→eO os p m f→eO os p m g
 | [],p,m,f,g,hm,h=>hm _ _ _ h
 | .keep o::r,p,m,f,g,hm,h=>by
  simp only [eO] at*
  exact eO_mono r _ _ (fun a b xs=>hm a b _) h
 | .row nm t::r,p,m,f,g,hm,h=>by
  simp only [eO] at*
  obtain ⟨x,h⟩:=h
  exact ⟨x,eO_mono r _ _ (fun a b xs=>hm a b _) h⟩
 | .drow nm t::r,p,m,f,g,hm,h=>by
  simp only [eO] at*
  obtain ⟨x,h⟩:=h
  exact ⟨x,eO_mono r _ _ (fun a b xs=>hm a b _) h⟩
 | .cells nm k shs::r,p,m,f,g,hm,h=>by
  simp only [eO] at*
  exact eV_mono shs _ _ (fun a b cs h=>eO_mono r _ _ (fun a b xs=>hm a b _) h) h
theorem decAV_sim {H:HF} {t:Ty} {x:TV} {a:T t} {y:AVal} (h:decAV t x=some a) (hs:SimV H x y) {H':HF}:SimV H' (tvA t a) y:=by
 cases t with
 | int k=>
  simp only [decAV,decAI] at h
  split at h
  ·rename_i k' n hi
   split at h<;>cases h
   rename_i hk
   have hk:=kEq_eq hk
   subst hk
   rw [asI_sim hi hs]
   simp [tvA,SimV]
  ·cases h
 | str=>
  simp only [decAV] at h
  unfold decAS at h
  split at h<;>cases h
  simp only [SimV] at hs
  simpa [tvA,SimV] using hs
 | bool=>
  simp only [decAV] at h
  rw [asB_sim h hs]
  simp [tvA,SimV]
 | st fs=>
  simp only [decAV] at h
  unfold decAg at h
  split at h
  ·split at h<;>cases h
   rename_i hd
   simp only [SimV] at hs
   obtain ⟨xs,rfl,hs⟩:=hs
   obtain ⟨zs,rfl,hz⟩:=decCs_sim fs hd hs
   simp only [SimL] at hz
   subst hz
   simp only [tvA,SimV]
   exact ⟨_,rfl,by rw [List.append_nil];exact cellsTs_sim fs _⟩
  ·cases h
 | sl e=>
  simp only [decAV] at h
  split at h
  ·split at h<;>cases h
   rename_i hh _
   subst hh
   simp only [SimV] at hs
   simpa only [tvA,SimV] using hs
  ·cases h
def ShLt (n:Nat):Sh→Prop
 | .val _=>True
 | .sub l=>l<n
 | .con x=>RefLt n x
def ShOLt (n:Nat):ShO→Prop
 | .keep (.cells _ cs)=>RefLtL n cs
 | .cells _ _ shs=> ∀s∈shs,ShLt n s
 | _=>True
mutual
theorem eqS_eq: ∀ {x y:TV} {ps:List Prop},eqS x y=some ps→AllP ps→x=y
 | x,y,ps,h,hp=>by
  unfold eqS at h
  split at h
  ·split at h<;>cases h
   rename_i hk
   have hk:=kEq_eq hk
   subst hk
   rw [hp.cons.1]
  ·cases h;rw [hp.cons.1]
  ·cases h;rw [hp.cons.1]
  ·cases h;rw [hp.cons.1]
  ·split at h<;>cases h
   rename_i hh _
   subst hh
   have:=hp.cons.1
   simp only at this
   rw [this]
  ·split at h<;>cases h
   rename_i hb
   rw [beq_eq hb,hp.cons.1,hp.cons.2.cons.1]
  ·split at h
   ·rename_i hb
    rw [beq_eq hb,eqSs_eq h hp]
   ·cases h
  ·rw [eqSs_eq h hp]
  ·rw [eqSs_eq h hp]
  ·split at h<;>cases h
   rename_i hs
   exact sameV_eq hs
theorem eqSs_eq: ∀ {xs ys:List TV} {ps:List Prop},eqSs xs ys=some ps→AllP ps→xs=ys
 | [],[],_,_,_=>rfl
 | [],_::_,_,h,_=>by simp [eqSs] at h
 | _::_,[],_,h,_=>by simp [eqSs] at h
 | x::xs,y::ys,ps,h,hp=>by
  simp only [eqSs] at h
  split at h<;>cases h
  rename_i h1 h2
  rw [eqS_eq h1 fun q hq=>hp q (by simp [hq]),eqSs_eq h2 fun q hq=>hp q (by simp [hq])]
end
theorem aV_sound {A B:Type} {H:HF} {TS:List TOb} {S:Store} {n:Nat} (st:St3 H TS S): ∀(ws:List Sh) (p:PT ws A) (m:PT ws B) {xs:List TV} {ys:List AVal} {f:A→B→Prop},(∀s∈ws,ShLt n s)→aV TS ws p m xs f→SimL H xs ys→
  eV ws p m fun a b xs'=>f a b∧SimL (truncH n H) xs' ys
 | [],p,m,xs,ys,f,hn,h,hs=>by
  cases xs with
  | nil=>simp only [aV] at h;simp only [eV];exact ⟨h,by simpa [SimL] using hs⟩
  | cons=>simp [aV] at h
 | .val t::r,p,m,xs,ys,f,hn,h,hs=>by
  cases xs with
  | nil=>simp [aV] at h
  | cons x xs=>
   simp only [aV] at h
   split at h
   ·rename_i a ha
    simp only [SimL] at hs
    obtain ⟨y,zs,rfl,h1,h2⟩:=hs
    simp only [eV]
    exact ⟨a,eV_mono r _ _ (fun a b xs' ⟨g1,g2⟩=>⟨g1,by simp only [SimL];exact ⟨_,_,rfl,decAV_sim ha h1,g2⟩⟩) (aV_sound st r _ _ (fun s hs=>hn s (by simp [hs])) h h2)⟩
   ·exact h.elim
 | .sub l::r,p,m,xs,ys,f,hn,h,hs=>by
  have hl:l<n:=hn (.sub l) (by simp)
  have go: ∀ {x:TV} {xs:List TV} {off len:Int},SimL H (x::xs) ys→(∀y,SimV H x y→SimV H (.sl l off len) y)→aV TS r (p off len) (m off len) xs f→eV (.sub l::r) p m fun a b xs'=>f a b∧SimL (truncH n H) xs' ys:=fun {x xs off len} hs hx h=>by
   simp only [SimL] at hs
   obtain ⟨y,zs,rfl,h1,h2⟩:=hs
   simp only [eV]
   refine ⟨off,len,eV_mono r _ _ (fun a b xs' ⟨g1,g2⟩=>⟨g1,?_⟩) (aV_sound st r _ _ (fun s hs=>hn s (by simp [hs])) h h2)⟩
   simp only [SimL]
   exact ⟨_,_,rfl,trunc_sim hl (hx y h1),g2⟩
  cases xs with
  | nil=>simp [aV] at h
  | cons x xs=>
   cases x<;>simp only [aV] at h<;>first | exact h.elim | skip
   ·split at h
    ·rename_i hb ho
     have e:=beq_eq hb
     subst e
     refine go hs (fun y hy=>?_) h
     obtain ⟨loc,q1,q2⟩:=row_get st ho
     simp only [SimV] at hy ⊢
     obtain ⟨hd,e1,rfl⟩:=hy
     rw [q1] at e1;cases e1
     exact ⟨_,q1,by omega,by omega,by simp only;omega,by simp⟩
    ·exact h.elim
   ·split at h
    ·rename_i hb
     have e:=beq_eq hb
     subst e
     exact go hs (fun _ h=>h) h
    ·exact h.elim
 | .con x0::r,p,m,xs,ys,f,hn,h,hs=>by
  have hl:RefLt n x0:=hn (.con x0) (by simp)
  cases xs with
  | nil=>simp [aV] at h
  | cons x xs=>
   simp only [aV] at h
   have fin:x0=x→aV TS r p m xs f→eV (.con x0::r) p m fun a b xs'=>f a b∧SimL (truncH n H) xs' ys:=fun e hk=>by
    subst e
    simp only [SimL] at hs
    obtain ⟨y,zs,rfl,h1,h2⟩:=hs
    simp only [eV]
    exact eV_mono r _ _ (fun a b xs' ⟨g1,g2⟩=>⟨g1,by simp only [SimL];exact ⟨_,_,rfl,trunc_sim hl h1,g2⟩⟩) (aV_sound st r _ _ (fun s hs=>hn s (by simp [hs])) hk h2)
   split at h
   ·rename_i hsame
    exact fin (sameV_eq hsame) h
   ·split at h
    ·rename_i ps hps
     obtain ⟨h1,h2⟩:=conj_iff.1 h
     exact fin (eqS_eq hps h1) h2
    ·exact h.elim
theorem eqO_eq {o o':TOb} {ps:List Prop} (h:eqO o o'=some ps) (hp:AllP ps):o=o':=by
 unfold eqO at h
 split at h
 ·rfl
 ·split at h<;>cases h
  rename_i hh _
  subst hh
  have:=hp.cons.1
  simp only at this
  rw [this]
 ·split at h<;>cases h
  rename_i hh _
  subst hh
  have:=hp.cons.1
  simp only at this
  rw [this]
 ·split at h
  ·rename_i hb
   rw [beq_eq hb,eqSs_eq h hp]
  ·cases h
 ·cases h
theorem ObS.trunc {H:HF} {S:Store} {n l:Nat} {o:TOb} (h:ObS H S l o) (hl:l<n) (hr: ∀k cs,o= .cells k cs→RefLtL n cs):ObS (truncH n H) S l o:=by
 cases o with
 | dead=>simp only [ObS,trunc_lt hl] at*;exact h
 | cells k cs=>
  obtain ⟨p,v,xs,h1,h2,h3⟩:=h
  exact ⟨p,v,xs,by rw [trunc_lt hl];exact h1,h2,truncL_sim (hr k cs rfl) h3⟩
 | row t ls=>
  obtain ⟨loc,h1,h2⟩:=h
  exact ⟨loc,by rw [trunc_lt hl];exact h1,h2⟩
 | drow t ls=>
  obtain ⟨p,v,sub,h1,h2,h3⟩:=h
  exact ⟨p,v,sub,by rw [trunc_lt hl];exact h1,h2,h3⟩
theorem SimL_len {H:HF} {cs cs':List TV} {xs:List AVal} (h:SimL H cs xs) {H':HF} (h':SimL H' cs' xs):cs'.length=cs.length:=by rw [←h.length,h'.length]
theorem aO_sound {A B:Type} {H:HF} {TS:List TOb} {S:Store} {n:Nat} (st:St3 H TS S): ∀(os:List ShO) (p:PO os A) (m:PO os B) (i:Nat) {TL:List TOb} {f:A→B→Prop},(∀s∈os,ShOLt n s)→i+os.length≤n→(∀(l:Nat) o,TL[l]?=some o→ObS H S (i+l) o)→aO TS os p m TL f→
  eO os p m fun a b TS1=>f a b∧TS1.length=os.length∧ ∀(l:Nat) o,TS1[l]?=some o→ObS (truncH n H) S (i+l) o
 | [],p,m,i,TL,f,hn,hi,ho,h=>by simp only [aO] at h;simp only [eO];exact ⟨h,rfl,by simp⟩
 | .keep o::r,p,m,i,TL,f,hn,hi,ho,h=>by
  cases TL with
  | nil=>simp [aO] at h
  | cons o' TL=>
   simp only [aO] at h
   split at h
   ·rename_i ps he
    rw [conj_iff] at h
    have e:=eqO_eq he h.1
    subst e
    simp only [eO]
    refine eO_mono r _ _ (fun a b TS1 ⟨g1,g2,g3⟩=>⟨g1,by simp [g2],fun l o1 hl=>?_⟩) (aO_sound st r _ _ (i+1) (fun s hs=>hn s (by simp [hs])) (by simp at hi;omega) (fun l o1 hl=>by
     have:=ho (l+1) o1 (by simpa using hl)
     rwa [show i+(l+1)=i+1+l by omega] at this) h.2)
    cases l with
    | zero=>
     simp at hl
     subst hl
     refine (ho 0 o (by simp)).trunc (by simp at hi;omega) fun k cs e=>?_
     subst e
     exact hn (.keep (.cells k cs)) (by simp)
    | succ l=>
     have:=g3 l o1 (by simpa using hl)
     rwa [show i+1+l=i+(l+1) by omega] at this
   ·exact h.elim
 | .row nm t::r,p,m,i,TL,f,hn,hi,ho,h=>by
  cases TL with
  | nil=>simp [aO] at h
  | cons o' TL=>
   cases o'<;>simp only [aO] at h<;>first | exact h.elim | skip
   split at h
   ·rename_i hh _
    subst hh
    simp only [eO]
    refine ⟨_,eO_mono r _ _ (fun a b TS1 ⟨g1,g2,g3⟩=>⟨g1,by simp [g2],fun l o1 hl=>?_⟩) (aO_sound st r _ _ (i+1) (fun s hs=>hn s (by simp [hs])) (by simp at hi;omega) (fun l o1 hl=>by
     have:=ho (l+1) o1 (by simpa using hl)
     rwa [show i+(l+1)=i+1+l by omega] at this) h)⟩
    cases l with
    | zero=>
     simp at hl
     subst hl
     exact (ho 0 _ (by simp)).trunc (by simp at hi;omega) (fun k cs e=>by cases e)
    | succ l=>
     have:=g3 l o1 (by simpa using hl)
     rwa [show i+1+l=i+(l+1) by omega] at this
   ·exact h.elim
 | .drow nm t::r,p,m,i,TL,f,hn,hi,ho,h=>by
  cases TL with
  | nil=>simp [aO] at h
  | cons o' TL=>
   cases o'<;>simp only [aO] at h<;>first | exact h.elim | skip
   split at h
   ·rename_i hh _
    subst hh
    simp only [eO]
    refine ⟨_,eO_mono r _ _ (fun a b TS1 ⟨g1,g2,g3⟩=>⟨g1,by simp [g2],fun l o1 hl=>?_⟩) (aO_sound st r _ _ (i+1) (fun s hs=>hn s (by simp [hs])) (by simp at hi;omega) (fun l o1 hl=>by
     have:=ho (l+1) o1 (by simpa using hl)
     rwa [show i+(l+1)=i+1+l by omega] at this) h)⟩
    cases l with
    | zero=>
     simp at hl
     subst hl
     exact (ho 0 _ (by simp)).trunc (by simp at hi;omega) (fun k cs e=>by cases e)
    | succ l=>
     have:=g3 l o1 (by simpa using hl)
     rwa [show i+1+l=i+(l+1) by omega] at this
   ·exact h.elim
 | .cells nm k shs::r,p,m,i,TL,f,hn,hi,ho,h=>by
  cases TL with
  | nil=>simp [aO] at h
  | cons o' TL=>
   cases o'<;>simp only [aO] at h<;>first | exact h.elim | skip
   split at h
   ·rename_i k' cs hb
    have e:=beq_eq hb
    subst e
    obtain ⟨q,v,xs,q1,q2,q3⟩:=ho 0 _ rfl
    simp only [eO]
    refine eV_mono shs _ _ (fun a b cs' ⟨g1,g2⟩=>?_) (aV_sound (n:=n) st shs _ _ (hn (.cells nm k shs) (by simp)) h q3)
    refine eO_mono r _ _ (fun a b TS1 ⟨g1,g3,g4⟩=>⟨g1,by simp [g3],fun l o1 hl=>?_⟩) (aO_sound st r _ _ (i+1) (fun s hs=>hn s (by simp [hs])) (by simp at hi;omega) (fun l o1 hl=>by
     have:=ho (l+1) o1 (by simpa using hl)
     rwa [show i+(l+1)=i+1+l by omega] at this) g1)
    cases l with
    | zero=>
     simp at hl
     subst hl
     refine ⟨q,v,xs,?_,q2,g2⟩
     rw [trunc_lt (by simp at hi;omega),q1,SimL_len q3 g2]
    | succ l=>
     have:=g4 l o1 (by simpa using hl)
     rwa [show i+1+l=i+(l+1) by omega] at this
   ·exact h.elim
theorem shV_lt {n:Nat} {subs:List Nat} {x:TV} (h:RefLt n x):ShLt n (shV subs x):=by
 unfold shV
 split
 ·split
  ·trivial
  ·exact h
 ·exact h
 ·split
  ·exact h
  ·exact h
 ·split
  ·trivial
  ·exact h
theorem shVs_lt {n:Nat} {subs:List Nat}: ∀ {xs:List TV},RefLtL n xs→ ∀s∈shVs subs xs,ShLt n s
 | [],_,s,hs=>by simp [shVs] at hs
 | x::xs,h,s,hs=>by
  simp only [shVs] at hs
  rcases List.mem_cons.1 hs with rfl | hs
  ·exact shV_lt h.1
  ·exact shVs_lt h.2 s hs
theorem shOs_len {ms:List (Nat×String)} {subs:List Nat}: ∀(i:Nat) (TS:List TOb),(shOs ms subs i TS).length=TS.length
 | _,[]=>rfl
 | i,o::TS=>by simp [shOs,shOs_len (i+1) TS]
theorem shOs_lt {n:Nat} {ms:List (Nat×String)} {subs:List Nat}: ∀(i:Nat) {TS:List TOb},(∀o∈TS,∀k cs,o= .cells k cs→RefLtL n cs)→ ∀s∈shOs ms subs i TS,ShOLt n s
 | _,[],_,s,hs=>by simp [shOs] at hs
 | i,o::TS,h,s,hs=>by
  simp only [shOs] at hs
  rcases List.mem_cons.1 hs with rfl | hs
  ·split
   ·cases o with
    | dead=>trivial
    | row t l=>trivial
    | drow t l=>trivial
    | cells k cs=>exact shVs_lt (h _ (by simp) k cs rfl)
   ·cases o with
    | dead=>trivial
    | row t l=>trivial
    | drow t l=>trivial
    | cells k cs=>exact h _ (by simp) k cs rfl
  ·exact shOs_lt (i+1) (fun o ho=>h o (by simp [ho])) s hs
theorem st_refs {H:HF} {TS:List TOb} {S:Store} (st:St3 H TS S): ∀o∈TS,∀k cs,o= .cells k cs→RefLtL TS.length cs:=fun o ho k cs e=>by
 subst e
 obtain ⟨l,hl⟩:=List.getElem?_of_mem ho
 obtain ⟨p,v,xs,h1,h2,h3⟩:=st.ob l _ hl
 exact simL_ref st.out h3
end Go.Vc
end
section
namespace Go.Vc
theorem trunc_some {n l:Nat} {H:HF} {h:Hd} (e:truncH n H l=some h):H l=some h:=by
 simp only [truncH] at e
 split at e
 ·exact e
 ·cases e
theorem exV {A B:Type}: ∀(ws:List Sh) (p:PT ws A) (m:PT ws B) (g:A→B→Nat→List TV→Prop),(eV ws p m fun a b xs=> ∃k,g a b k xs)→ ∃k,eV ws p m fun a b xs=>g a b k xs
 | [],p,m,g,h=>h
 | .val t::ws,p,m,g,h=>by simp only [eV] at*;obtain ⟨x,h⟩:=h;obtain ⟨k,h⟩:=exV ws _ _ _ h;exact ⟨k,x,h⟩
 | .sub l::ws,p,m,g,h=>by simp only [eV] at*;obtain ⟨x,y,h⟩:=h;obtain ⟨k,h⟩:=exV ws _ _ _ h;exact ⟨k,x,y,h⟩
 | .con x::ws,p,m,g,h=>by simp only [eV] at*;exact exV ws _ _ _ h
theorem exO {A B:Type}: ∀(os:List ShO) (p:PO os A) (m:PO os B) (g:A→B→Nat→List TOb→Prop),(eO os p m fun a b xs=> ∃k,g a b k xs)→ ∃k,eO os p m fun a b xs=>g a b k xs
 | [],p,m,g,h=>h
 | .keep o::os,p,m,g,h=>by simp only [eO] at*;exact exO os _ _ _ h
 | .row nm t::os,p,m,g,h=>by simp only [eO] at*;obtain ⟨x,h⟩:=h;obtain ⟨k,h⟩:=exO os _ _ _ h;exact ⟨k,x,h⟩
 | .drow nm t::os,p,m,g,h=>by simp only [eO] at*;obtain ⟨x,h⟩:=h;obtain ⟨k,h⟩:=exO os _ _ _ h;exact ⟨k,x,h⟩
 | .cells nm k shs::os,p,m,g,h=>by
  simp only [eO] at*
  obtain ⟨k,h⟩:=exV shs _ _ _ (eV_mono _ _ _ (fun a b cs h=>exO os _ _ _ h) h)
  exact ⟨k,h⟩
theorem anyV {A B:Type} {C:Prop}: ∀(ws:List Sh) (p:PT ws A) (m:PT ws B) {g:A→B→List TV→Prop},(∀a b xs,g a b xs→C)→eV ws p m g→C
 | [],p,m,g,hg,h=>hg _ _ _ h
 | .val t::ws,p,m,g,hg,h=>by simp only [eV] at h;obtain ⟨x,h⟩:=h;exact anyV ws _ _ (fun a b xs=>hg a b _) h
 | .sub l::ws,p,m,g,hg,h=>by simp only [eV] at h;obtain ⟨x,y,h⟩:=h;exact anyV ws _ _ (fun a b xs=>hg a b _) h
 | .con x::ws,p,m,g,hg,h=>by simp only [eV] at h;exact anyV ws _ _ (fun a b xs=>hg a b _) h
theorem anyO {A B:Type} {C:Prop}: ∀(os:List ShO) (p:PO os A) (m:PO os B) {g:A→B→List TOb→Prop},(∀a b xs,g a b xs→C)→eO os p m g→C
 | [],p,m,g,hg,h=>hg _ _ _ h
 | .keep o::os,p,m,g,hg,h=>by simp only [eO] at h;exact anyO os _ _ (fun a b xs=>hg a b _) h
 | .row nm t::os,p,m,g,hg,h=>by simp only [eO] at h;obtain ⟨x,h⟩:=h;exact anyO os _ _ (fun a b xs=>hg a b _) h
 | .drow nm t::os,p,m,g,hg,h=>by simp only [eO] at h;obtain ⟨x,h⟩:=h;exact anyO os _ _ (fun a b xs=>hg a b _) h
 | .cells nm k shs::os,p,m,g,hg,h=>by simp only [eO] at h;exact anyV shs _ _ (fun a b cs h=>anyO os _ _ (fun a b xs=>hg a b _) h) h
section
variable {P : Program} {Γ : List (Nat × Ct)} {call : Nat → List TV → List RF → List TOb → (TV → List RF → List TOb → Prop) → Prop}
theorem vc_ops {l:List GOp} {d:Option (Nat×Nat×List Nat)} {keep:List Nat} {Q:SExit→Frame→Store→Prop} {A:Frame} {S:Store}
  (h:vcOpsD P (fun F' S'=>Q .normal (kF keep F') S') (match d with | some m=>m.1 | none=>0) l A (S++List.replicate (keptN d) .dead)):vc P (.ops l d keep) Q A S:=by
 have e: ∀(K:Frame→Prop) (F:Frame),onlyK keep F K=K (kF keep F):=fun K F=>propext onlyK_iff
 cases d with
 | none=>simpa only [vc,e,vcOpsD,keptN,List.replicate_zero,List.append_nil] using h
 | some m=>simpa only [vc,e,keptN] using h
theorem St3.recell {H:HF} {TS:List TOb} {S:Store} (st:St3 H TS S) {l k:Nat} {cs cs':List TV} {p v:Nat} {xs:List AVal} (hl:l<TS.length) (h1:H l=some ⟨some (p,v),k,cs'.length,[]⟩) (h2:S[p]?=some (.row v k xs)) (h3:SimL H cs' xs):St3 H (TS.set l (.cells k cs')) S:=by
 refine ⟨fun m o hm=>?_,fun m hm=>st.out m (by simpa using hm),st.inj,st.sub⟩
 by_cases e:m=l
 ·subst e
  rw [List.getElem?_set_self hl] at hm
  cases hm
  exact ⟨p,v,xs,h1,h2,h3⟩
 ·rw [List.getElem?_set_ne (Ne.symm e)] at hm
  exact st.ob m o hm
theorem HLe.trans' {H1 H2 H3:HF} (h:HLe H1 H2) (g:HLe H2 H3):HLe H1 H3:=fun l x e=>g l x (h l x e)
theorem promC_len: ∀(n:Nat) (ts:List Ty) (cs:List TV),(promC n ts cs).1.length=cs.length
 | n,[],cs=>by cases cs<;>rfl
 | n,t::ts,[]=>rfl
 | n,t::ts,c::cs=>by
  simp only [promC]
  split
  ·simp [promC_len (n+1) ts cs]
  ·simp [promC_len n ts cs]
theorem promC_sound: ∀(ts:List Ty) {cs:List TV} {ys:List AVal} {H:HF} {TS:List TOb} {S:Store},St3 H TS S→SimL H cs ys→ ∃H',HLe H H'∧St3 H' (TS++(promC TS.length ts cs).2) S∧SimL H' (promC TS.length ts cs).1 ys
 | [],cs,ys,H,TS,S,st,hs=>by
  have e:promC TS.length [] cs=(cs,[]):=by cases cs<;>rfl
  rw [e]
  exact ⟨H,fun _ _ h=>h,by simpa using st,hs⟩
 | t::ts,[],ys,H,TS,S,st,hs=>⟨H,fun _ _ h=>h,by simpa [promC] using st,hs⟩
 | t::ts,c::cs,ys,H,TS,S,st,hs=>by
  simp only [SimL] at hs
  obtain ⟨y,zs,rfl,h1,h2⟩:=hs
  simp only [promC]
  split
  ·rename_i e
   simp only [SimV] at h1
   subst h1
   obtain ⟨H1,g1,g2,g3⟩:=st.pushNil e
   obtain ⟨H2,k1,k2,k3⟩:=promC_sound ts g2 (h2.ext g1)
   have el:(TS++[TOb.row e []]).length=TS.length+1:=by simp
   rw [el] at k2 k3
   refine ⟨H2,g1.trans' k1,by simpa using k2,?_⟩
   simp only [SimL,SimV]
   exact ⟨_,zs,rfl,⟨_,k1 _ _ g3,rfl⟩,k3⟩
  ·obtain ⟨H2,k1,k2,k3⟩:=promC_sound ts st h2
   refine ⟨H2,k1,k2,?_⟩
   simp only [SimL]
   exact ⟨y,zs,rfl,h1.ext k1,k3⟩
theorem promS_sound {ty:List (Nat×Ty)} {F:RF}: ∀(mods:List Nat) {H:HF} {TS:List TOb} {S:Store},St3 H TS S→ ∃H',HLe H H'∧St3 H' (promS ty F mods TS) S
 | [],H,TS,S,st=>⟨H,fun _ _ h=>h,st⟩
 | s::ss,H,TS,S,st=>by
  simp only [promS]
  split
  ·rename_i l t _ _
   split
   ·rename_i k cs ho
    obtain ⟨p,v,xs,q1,q2,q3⟩:=cells_get st ho
    obtain ⟨H1,g1,g2,g3⟩:=promC_sound (flatC t) st q3
    rw [setOb_eq,pushL_eq,lenT_eq]
    have st2:=g2.recell (l:=l) (k:=k) (cs:=cs) (p:=p) (v:=v) (xs:=xs) (by have:=obj_lt ho;simp;omega) (by rw [g1 _ _ q1,promC_len]) q2 g3
    obtain ⟨H2,k1,k2⟩:=promS_sound ss st2
    exact ⟨H2,g1.trans' k1,k2⟩
   ·exact promS_sound ss st
  ·exact promS_sound ss st
theorem merge_mem {c:Prop} {Fb:RF}: ∀ {F:RF} {s:Nat} {gs:List (Nat×Bool)} {P:Prop} {z:TV},(s,gs,P,z)∈mergeF c Fb F→gs=[]∧P=True∧ ∃g p x Q y,(s,g,p,x)∈F∧lookN Fb s=some ([],Q,y)∧pickV c x y=some z
 | [],s,gs,P,z,h=>by simp [mergeF] at h
 | (t,g,p,x)::F,s,gs,P,z,h=>by
  simp only [mergeF] at h
  have rec_:(s,gs,P,z)∈mergeF c Fb F→gs=[]∧P=True∧ ∃g' p' x' Q y,(s,g',p',x')∈(t,g,p,x)::F∧lookN Fb s=some ([],Q,y)∧pickV c x' y=some z:=fun h=>by
   obtain ⟨h1,h2,g',p',x',Q,y,h3,h4⟩:=merge_mem h
   exact ⟨h1,h2,g',p',x',Q,y,by simp [h3],h4⟩
  split at h
  ·rename_i Q y hl
   split at h
   ·rename_i w hw
    rcases List.mem_cons.1 h with e | e
    ·cases e
     exact ⟨rfl,rfl,g,p,x,Q,y,by simp,hl,hw⟩
    ·exact rec_ e
   ·exact rec_ h
  ·exact rec_ h
theorem ref_sim {H:HF} {F:RF} {A:Frame} (hF:SimF H F A) {x:Rand} {p:Prop} {y:TV} (hx:rdP F [] x=some y) (hy:asP y=some p):(p→SimF H (refT F x .tt) A)∧(¬p→SimF H (refT F x .ff) A):=by
 cases x with
 | c z=>exact ⟨fun _=>hF,fun _=>hF⟩
 | t n=>
  have key: ∀ {Q:Prop} {z:TV} {v:TV},lookN F n=some ([],Q,z)→SimV H v (A.get n)→SimF H ((n,[],True,v)::F) A:=fun {Q z v} hl hv s gs P u hu=>by
   simp only [lookN] at hu
   split at hu
   ·rename_i hb
    cases hu
    rw [←beq_eq hb]
    exact plainEnt hv
   ·exact hF _ _ _ _ hu
  have same: ∀ {Q:Prop} {z:TV},lookN F n=some ([],Q,z)→y=z:=fun {Q z} hl=>by
   simp only [rdP,hl,sufx] at hx
   cases hx;rfl
  simp only [refT]
  split
  ·rename_i Q q hl
   have e:=same hl
   subst e
   simp only [asP] at hy;cases hy
   have hs:=(hF _ _ _ _ hl).on holds_nil
   simp only [SimV] at hs
   obtain ⟨b,e,hb⟩:=hs
   exact ⟨fun h=>key hl (by simp only [SimV];rw [e,hb.2 h]),fun h=>key hl (by simp only [SimV];rw [e];cases b;rfl;exact (h (hb.1 rfl)).elim)⟩
  ·rename_i Q b hl
   have e:=same hl
   subst e
   simp only [asP] at hy;cases hy
   have hs:=(hF _ _ _ _ hl).on holds_nil
   simp only [SimV] at hs
   exact ⟨fun h=>key hl (by simp only [SimV];rw [hs,h]),fun h=>key hl (by simp only [SimV];rw [hs];cases b;rfl;exact (h rfl).elim)⟩
  ·exact ⟨fun _=>hF,fun _=>hF⟩
theorem evC_sound (hΓ:Cons P Γ) (hi:Hi) {TS:List TOb} {H:HF} {S:Store} (st:St3 H TS S): ∀(c:SCode) {F F':RF} {ps:List Prop} {A:Frame} {Q':SExit→Frame→Store→Prop},SimF H F A→evC Γ hi TS c F=some (ps,F')→AllP ps→
  (∀A',SimF H F' A'→Q' .normal A' S)→vc P c Q' A S:=by
 have app: ∀ {a b:List Prop},AllP (a++b)→AllP a∧AllP b:=fun {a b} h=>⟨fun p hp=>h p (by simp [hp]),fun p hp=>h p (by simp [hp])⟩
 intro c
 induction c with
 | skip=>
  intro F F' ps A Q' hF h hps hk
  simp only [evC,Option.some.injEq,Prod.mk.injEq] at h
  obtain ⟨_,rfl⟩:=h
  exact hk _ hF
 | ops l d keep=>
  intro F F' ps A Q' hF h hps hk
  simp only [evC] at h
  split at h
  ·cases h
  ·rename_i h0
   split at h<;>cases h
   rename_i F1 he
   refine vc_ops ?_
   rw [h0,List.replicate_zero,List.append_nil]
   exact evOps_sound hΓ hi st l _ hF he hps fun A' hA=>hk _ (only_sim hA keep)
 | seq a b iha ihb=>
  intro F F' ps A Q' hF h hps hk
  simp only [evC] at h
  split at h
  ·rename_i ps1 F1 h1
   split at h<;>cases h
   rename_i qs h2
   obtain ⟨p1,p2⟩:=app hps
   simp only [vc]
   exact iha hF h1 p1 fun A1 hA=>ihb hA h2 p2 hk
  ·cases h
 | join keep W n a b iha ihb=>
  intro F F' ps A Q' hF h hps hk
  simp only [evC] at h
  split at h
  ·rename_i ps1 F1 h1
   split at h<;>cases h
   rename_i qs h2
   obtain ⟨p1,p2⟩:=app hps
   simp only [vc]
   intro K hK
   rw [onlyK_iff,allA_iff] at hK
   refine iha hF h1 p1 fun A1 hA=>?_
   simp only [SExit.onNormal,getsK_iff]
   refine hK _ (by simp) S (ihb ?_ h2 p2 hk)
   exact (zip_sim (only_sim hF keep) (only_plain F keep) W (getsT_sim hA W)).1
  ·cases h
 | cond x a b iha ihb=>
  intro F F' ps A Q' hF h hps hk
  simp only [evC] at h
  simp only [vc,rdK_iff]
  split at h
  ·rename_i hx
   have:=rdP_sim hF holds_nil hx
   simp only [SimV] at this
   rw [this]
   exact ⟨fun _=>iha hF h hps hk,fun e=>by cases e⟩
  ·rename_i hx
   have:=rdP_sim hF holds_nil hx
   simp only [SimV] at this
   rw [this]
   exact ⟨fun e=>(by cases e),fun _=>ihb hF h hps hk⟩
  ·rename_i y _ _ hx
   split at h
   ·rename_i p psa Fa psb Fb hp ha hb
    cases h
    obtain ⟨p1,p2⟩:=app hps
    rw [under_iff] at p1 p2
    have hs:=rdP_sim hF holds_nil hx
    have ya:p→vc P a Q' A S:=fun hp'=>iha ((ref_sim hF hx hp).1 hp') ha (p1 hp') fun A' hA=>hk _ fun s gs Q z hz=>by
     obtain ⟨rfl,rfl,g,q,u,Q2,v,m1,m2,m3⟩:=merge_mem (look_mem hz)
     obtain ⟨_,_,_,Q3,m4⟩:=only_mem m1
     exact plainEnt ((pickV_sound m3).1 hp' _ ((hA _ _ _ _ m4).on holds_nil))
    have yb: ¬p→vc P b Q' A S:=fun hp'=>ihb ((ref_sim hF hx hp).2 hp') hb (p2 hp') fun A' hA=>hk _ fun s gs Q z hz=>by
     obtain ⟨rfl,rfl,g,q,u,Q2,v,m1,m2,m3⟩:=merge_mem (look_mem hz)
     exact plainEnt ((pickV_sound m3).2 hp' _ ((hA _ _ _ _ m2).on holds_nil))
    cases y<;>simp only [asP] at hp<;>cases hp<;>simp only [SimV] at hs
    ·rw [hs];exact ⟨fun _=>ya trivial,fun e=>by cases e⟩
    ·rw [hs];exact ⟨fun e=>(by cases e),fun _=>yb id⟩
    ·rw [hs];exact ⟨fun e=>ya e,fun e=>yb (by simp [e])⟩
    ·obtain ⟨w,e,hw⟩:=hs
     rw [e];exact ⟨fun e=>ya (hw.1 e),fun e=>yb fun q=>by rw [hw.2 q] at e;cases e⟩
    ·rcases hs with ⟨e,hq⟩ | ⟨e,hq⟩<;>rw [e]
     ·exact ya hq
     ·exact yb hq
   ·cases h
  ·cases h
 | block id a iha=>
  intro F F' ps A Q' hF h hps hk
  simp only [evC] at h
  simp only [vc]
  exact iha hF h hps fun A' hA=>hk _ hA
 | loop keep W n a _=>intro F F' ps A Q' hF h;simp [evC] at h
 | exit id=>intro F F' ps A Q' hF h;simp [evC] at h
 | ret=>intro F F' ps A Q' hF h;simp [evC] at h
def Goes (AG:List Frame) (Q:SExit→TK) (Q':SExit→Frame→Store→Prop):Prop:=
 ∀e A' S' H' F' G' TS',St3 H' TS' S'→SimF H' F' A'→SimG H' G' AG→Q e F' G' TS'→Q' e A' S'
theorem popQ_goes {AG:List Frame} {Q:SExit→TK} {Q':SExit→Frame→Store→Prop} {A0:Frame} (h:Goes AG Q Q'):Goes (A0::AG) (popQ Q) Q':=fun e A' S' H' F' G' TS' st hF hG hq=>by
 cases hG with
 | cons a b=>exact h e A' S' H' F' _ TS' st hF b hq
theorem tvc_sound (hΓ:Cons P Γ) (hC:CallOk P call) (hi:Hi): ∀(c:SCode) (an:An) {Q:SExit→TK} {Q':SExit→Frame→Store→Prop} {F:RF} {G:List RF} {TS:List TOb} {H:HF} {A:Frame} {AG:List Frame} {S:Store},
  St3 H TS S→SimF H F A→SimG H G AG→tvc Γ call hi c an Q F G TS→Goes AG Q Q'→vc P c Q' A S:=by
 intro c
 induction c with
 | skip=>intro an Q Q' F G TS H A AG S st hF hG h hk;exact hk _ _ _ _ _ _ _ st hF hG h
 | exit id=>intro an Q Q' F G TS H A AG S st hF hG h hk;exact hk _ _ _ _ _ _ _ st hF hG h
 | ret=>intro an Q Q' F G TS H A AG S st hF hG h hk;exact hk _ _ _ _ _ _ _ st hF hG h
 | ops l d keep=>
  intro an Q Q' F G TS H A AG S st hF hG h hk
  simp only [tvc] at h
  split at h
  ·rename_i h0
   refine vc_ops ?_
   rw [h0,List.replicate_zero,List.append_nil]
   exact tOps_sound hΓ hC hi l _ st hF hG h fun A' S' H' F' G' TS' q1 q2 q3 q4=>hk _ _ _ _ _ _ _ q1 (only_sim q2 keep) q3 q4
  ·rename_i r h0
   split at h
   ·rename_i m
    split at h
    ·rename_i ps F1 hb he
     have hb:=beq_eq hb
     rw [conj_iff] at h
     refine vc_ops ?_
     rw [h0]
     have el:l=l.take m.1++l.drop m.1:=(List.take_append_drop _ _).symm
     have st':St3 H TS (S++List.replicate (r+1) .dead):=⟨fun j o hj=>(st.ob j o hj).ext (fun _ _ h=>h) (fun p x hp=>by rw [List.getElem?_append_left (List.getElem?_eq_some_iff.1 hp).1];exact hp) (fun h=>h),st.out,st.inj,fun l i h p v n e1 e2=>by rw [List.length_append];have g:=st.sub l i h p v n e1 e2;exact ⟨by have:=g.1;omega,g.2⟩⟩
     have main:vcOpsD P (fun A' S'=>vcOps P (fun F' S'=>Q' .normal (kF keep F') S') (l.drop m.1) A' S') (l.take m.1).length (l.take m.1) A (S++List.replicate (r+1) .dead):=by
      refine evOps_sound hΓ hi st' _ _ hF he h.1 fun A' hA=>?_
      refine tRes_sound hΓ hi _ (r+1) st' hA hG h.2 (by simp) (fun d h1 h2=>?_) fun rest A2 S2 H2 F2 G2 TS2 q1 q2 q3 q4=>?_
      ·simp only [List.length_append,List.length_replicate]
       rw [List.getElem?_append_right (by omega),List.getElem?_replicate,if_pos (by omega)]
      ·have:=tOps_sound hΓ hC hi rest 0 q1 q2 q3 q4 (K':=fun F' S'=>Q' .normal (kF keep F') S') fun A' S' H' F' G' TS' q1 q2 q3 q4=>hk _ _ _ _ _ _ _ q1 (only_sim q2 keep) q3 q4
       simpa only [vcOpsD] using this
     have main:=vcOpsD_app _ main
     rw [hb,←el] at main
     exact main
    ·exact h.elim
   ·exact h.elim
 | seq a b iha ihb=>
  intro an Q Q' F G TS H A AG S st hF hG h hk
  simp only [tvc] at h
  simp only [vc]
  refine iha _ st hF hG h fun e A' S' H' F' G' TS' q1 q2 q3 q4=>?_
  cases e with
  | normal=>exact ihb _ q1 q2 q3 q4 hk
  | exit id=>exact hk _ _ _ _ _ _ _ q1 q2 q3 q4
  | ret=>exact hk _ _ _ _ _ _ _ q1 q2 q3 q4
 | join keep W n a b iha ihb=>
  intro an Q Q' F G TS H A AG S st hF hG h hk
  simp only [tvc] at h
  simp only [vc]
  intro K hK
  rw [onlyK_iff,allA_iff] at hK
  split at h
  ·rename_i ps F' he
   rw [conj_iff] at h
   refine evC_sound hΓ hi st a hF he h.1 fun A1 hA=>?_
   simp only [SExit.onNormal,getsK_iff]
   exact hK _ (by simp) S (ihb _ st (zip_sim (only_sim hF keep) (only_plain F keep) W (getsT_sim hA W)).1 hG h.2 hk)
  ·refine iha _ st hF (.cons (only_sim hF keep) hG) h fun e A' S' H' F' G' TS' q1 q2 q3 q4=>?_
   cases e with
   | normal=>
    simp only [SExit.onNormal,getsK_iff]
    cases q3 with
    | cons f1 f2=>exact hK _ (by simp) S' (ihb _ q1 (zip_sim (only_sim' f1 keep) (only_plain _ keep) W (getsT_sim q2 W)).1 f2 q4 hk)
   | exit id=>exact popQ_goes hk _ _ _ _ _ _ _ q1 q2 q3 q4
   | ret=>exact popQ_goes hk _ _ _ _ _ _ _ q1 q2 q3 q4
 | cond x a b iha ihb=>
  intro an Q Q' F G TS H A AG S st hF hG h hk
  simp only [tvc] at h
  simp only [vc,rdK_iff]
  split at h
  ·rename_i hx
   have:=rdP_sim hF holds_nil hx
   simp only [SimV] at this
   rw [this]
   exact ⟨fun _=>iha _ st hF hG h hk,fun e=>by cases e⟩
  ·rename_i hx
   have:=rdP_sim hF holds_nil hx
   simp only [SimV] at this
   rw [this]
   exact ⟨fun e=>(by cases e),fun _=>ihb _ st hF hG h hk⟩
  ·rename_i y _ _ hx
   split at h
   ·rename_i p hp
    have hs:=rdP_sim hF holds_nil hx
    have ya:p→vc P a Q' A S:=fun hp'=>iha _ st ((ref_sim hF hx hp).1 hp') hG (h.1 hp') hk
    have yb: ¬p→vc P b Q' A S:=fun hp'=>ihb _ st ((ref_sim hF hx hp).2 hp') hG (h.2 hp') hk
    cases y<;>simp only [asP] at hp<;>cases hp<;>simp only [SimV] at hs
    ·rw [hs];exact ⟨fun _=>ya trivial,fun e=>by cases e⟩
    ·rw [hs];exact ⟨fun e=>(by cases e),fun _=>yb id⟩
    ·rw [hs];exact ⟨fun e=>ya e,fun e=>yb (by simp [e])⟩
    ·obtain ⟨w,e,hw⟩:=hs
     rw [e];exact ⟨fun e=>ya (hw.1 e),fun e=>yb fun q=>by rw [hw.2 q] at e;cases e⟩
    ·rcases hs with ⟨e,hq⟩ | ⟨e,hq⟩<;>rw [e]
     ·exact ya hq
     ·exact yb hq
   ·exact h.elim
  ·exact h.elim
 | block id a iha=>
  intro an Q Q' F G TS H A AG S st hF hG h hk
  simp only [tvc] at h
  simp only [vc]
  refine iha _ st hF hG h fun e A' S' H' F' G' TS' q1 q2 q3 q4=>?_
  cases e with
  | normal=>exact hk _ _ _ _ _ _ _ q1 q2 q3 q4
  | exit id'=>
   simp only [onB] at q4
   simp only [SExit.onBlock]
   cases hb:Nat.beq id' id<;>rw [hb] at q4<;>exact hk _ _ _ _ _ _ _ q1 q2 q3 q4
  | ret=>exact hk _ _ _ _ _ _ _ q1 q2 q3 q4
 | loop keep W n a iha=>
  intro an Q Q' F G TS H A AG S st hF hG h hk
  simp only [tvc,tLoopP] at h
  obtain ⟨H2,hle,st2⟩:=promS_sound (ty:=hi.ty) (F:=F) an.mods st
  replace hF:=hF.ext hle
  replace hG:=hG.ext hle
  clear st hle
  generalize promS hi.ty F an.mods TS=TS3 at h st2
  clear TS H
  revert H2 hF hG TS3 h st2
  intro H hF hG TS h st
  simp only [tLoop] at h
  generalize fsts (idsS hi.nm F TS an.subs)=SB at h
  generalize idsS hi.nm F TS an.mods=MS at h
  obtain ⟨I,m,h0,hstep⟩:=h
  have ho:OutN TS.length H:=st.out
  have hws: ∀s∈shVs SB (getsT F W),ShLt TS.length s:=shVs_lt (simL_ref ho (getsT_sim hF W))
  have hos: ∀s∈shOs MS SB 0 TS,ShOLt TS.length s:=shOs_lt 0 (st_refs st)
  have hol:(shOs MS SB 0 TS).length=TS.length:=shOs_len 0 TS
  have back: ∀ {H':HF} {TS':List TOb} {xs:List TV} {ys:List AVal} {S':Store} {f:Prop→Nat→Prop},St3 H' TS' S'→SimL H' xs ys→SimF (truncH TS.length H') (onlyT F keep) (kF keep A)→SimG (truncH TS.length H') G AG→
    (aV TS' (shVs SB (getsT F W)) I m xs fun I' m'=>aO TS' (shOs MS SB 0 TS) I' m' TS' f)→
    eV (shVs SB (getsT F W)) I m fun I1 m1 txs=>eO (shOs MS SB 0 TS) I1 m1 fun I2 m2 TS1=>f I2 m2∧ ∃H1,St3 H1 TS1 S'∧SimL H1 txs ys∧SimF H1 (onlyT F keep) (kF keep A)∧SimG H1 G AG:=by
   intro H' TS' xs ys S' f st' hs hF0 hG0 ha
   refine eV_mono _ _ _ (fun I1 m1 txs ⟨g1,g2⟩=>?_) (aV_sound (n:=TS.length) st' _ _ _ hws ha hs)
   refine eO_mono _ _ _ (fun I2 m2 TS1 ⟨g3,g4,g5⟩=>?_) (aO_sound (n:=TS.length) st' _ _ _ 0 hos (by rw [hol];omega) (fun l o hl=>by rw [Nat.zero_add];exact st'.ob l o hl) g1)
   refine ⟨g3,truncH TS.length H',⟨fun l o hl=>?_,fun l hl=>?_,fun l l' h h' p v v' e1 e2 e3 e4=>?_,fun l i h p v n e1 e2=>?_⟩,g2,hF0,hG0⟩
   ·have:=g5 l o hl;rwa [Nat.zero_add] at this
   ·rw [g4,hol] at hl
    simp only [truncH]
    rw [if_neg (by omega)]
   ·exact st'.inj _ _ _ _ _ _ _ (trunc_some e1) (trunc_some e2) e3 e4
   ·obtain ⟨k1,k2,k3⟩:=st'.sub _ _ _ _ _ _ (trunc_some e1) e2
    exact ⟨k1,fun l' h' v' q1 q2=>k2 _ _ _ (trunc_some q1) q2,fun l' i' h' v' n' q1 q2=>k3 _ _ _ _ _ (trunc_some q1) q2⟩
  have tr:truncH TS.length H=H:=by
   funext l
   simp only [truncH]
   split
   ·rfl
   ·rename_i hl;exact (ho l (by omega)).symm
  simp only [vc]
  refine ⟨fun k xs os=>eV (shVs SB (getsT F W)) I m fun I1 m1 txs=>eO (shOs MS SB 0 TS) I1 m1 fun I2 m2 TS1=>(I2∧m2=k)∧ ∃H1,St3 H1 TS1 os∧SimL H1 txs xs∧SimF H1 (onlyT F keep) (kF keep A)∧SimG H1 G AG,?_,?_⟩
  ·rw [getsK_iff]
   have b:=back (f:=fun I _=>I) st (getsT_sim hF W) (by rw [tr];exact only_sim hF keep) (by rw [tr];exact hG) h0
   obtain ⟨k,hk⟩:=exV _ _ _ (fun I1 m1 k txs=>eO (shOs MS SB 0 TS) I1 m1 fun I2 m2 TS1=>(I2∧m2=k)∧ ∃H1,St3 H1 TS1 S∧SimL H1 txs (W.map A.get)∧SimF H1 (onlyT F keep) (kF keep A)∧SimG H1 G AG)
    (eV_mono _ _ _ (fun a b txs h=>exO _ _ _ _ (eO_mono _ _ _ (fun I2 m2 TS1 ⟨g1,g2⟩=>⟨m2,⟨g1,rfl⟩,g2⟩) h)) b)
   exact ⟨k,hk⟩
  ·rw [onlyK_iff,allA_iff]
   intro xs _ k os hI
   obtain ⟨I1,m1,txs,q1,q2⟩:=qV_eV _ _ _ _ hstep hI
   obtain ⟨I2,m2,TS1,q3,⟨q4,q5⟩,H1,q6,q7,q8,q9⟩:=qO_eO _ _ _ q1 q2
   have ho1:OutN TS1.length H1:=q6.out
   refine iha _ q6 (zip_sim q8 (only_plain F keep) W q7).1 (.cons q8 q9) (q3 q4) fun e A' S' H' F' G' TS' r1 r2 r3 r4=>?_
   cases e with
   | normal=>
    simp only [SExit.onNormal,getsK_iff]
    obtain ⟨H2,F2,G2,TS2,s1,s2,s3,s4⟩:=swaps_sound _ r4 r1 r2 r3
    cases s3 with
    | cons f1 f2=>
     simp only at s4
     split at s4
     ·rename_i e1 e2
      have b:=back s1 (getsT_sim s2 W) (same_sim e1 (only_sim hF keep) f1 ho) (sameG_sim ho e2 hG f2) s4
      obtain ⟨k',hk'⟩:=exV _ _ _ (fun J1 n1 k' txs=>eO (shOs MS SB 0 TS) J1 n1 fun J2 n2 TS1=>(k'<k∧J2∧n2=k')∧ ∃H1,St3 H1 TS1 S'∧SimL H1 txs (W.map A'.get)∧SimF H1 (onlyT F keep) (kF keep A)∧SimG H1 G AG)
       (eV_mono _ _ _ (fun a b txs h=>exO _ _ _ _ (eO_mono _ _ _ (fun J2 n2 TS1 ⟨⟨g1,g1'⟩,g2⟩=>⟨n2,⟨by rw [←q5];exact g1',g1,rfl⟩,g2⟩) h)) b)
      have lt:k'<k:=by
       exact anyV _ _ _ (fun a b xs h=>anyO _ _ _ (fun J2 n2 TS1 h=>h.1.1) h) hk'
      exact ⟨k',lt,eV_mono _ _ _ (fun a b txs h=>eO_mono _ _ _ (fun J2 n2 TS1 ⟨⟨_,g1,g2⟩,g3⟩=>⟨⟨g1,g2⟩,g3⟩) h) hk'⟩
     ·exact s4.elim
   | exit id=>exact popQ_goes hk _ _ _ _ _ _ _ r1 r2 r3 r4
   | ret=>exact popQ_goes hk _ _ _ _ _ _ _ r1 r2 r3 r4
end
end Go.Vc
end
