/- Part of the proof of enginePlays_holds: the whole is true of every input. Conditions: none. -/
import Derived.Test.YtlibocgedgdmlaaGreatP15
set_option linter.all false
section
set_option maxRecDepth 100000
namespace Go.Proofs.YtlibocgedgdmlaaGreat
open Go.Vc Go.Fu
theorem XW (hC:Cons Tryz.prog [])
 (H: ∀(size:Int) (e:Int×Int×List UInt8),(AQ size/\E_ e)->
 (¬((((size<0\/600<size)\/e.1<0)\/size<e.1)\/e.2.1<0)->AQ (size-e.1))/\
 (((((size<0\/600<size)\/e.1<0)\/size<e.1)\/e.2.1<0)\/size-e.1<e.2.1->
 2=BX size e)/\
 (¬(((((size<0\/600<size)\/e.1<0)\/size<e.1)\/e.2.1<0)\/size-e.1<e.2.1)->
 AQ (size-e.2.1)/\
 AQ (size-e.2.1+(↑e.2.2.length:Int))/\
 (600<size-e.2.1+(↑e.2.2.length:Int)->1=BX size e)/\
 (¬600<size-e.2.1+(↑e.2.2.length:Int)->0=BX size e))):
 BV Tryz.prog B8 C0:=⟨PZ.Hs rfl,fun x hx=>
 DU hC (L:=[]) (trivial) PZ (ct:=C0) (depth:=0) rfl (by kernel_rfl) x (H (@id (Int×(Int×Int×List UInt8)) x).1 (@id (Int×(Int×Int×List UInt8)) x).2 (IP hx (by kernel_rfl))) (by kernel_rfl)⟩
theorem Zv (hC:Cons Tryz.prog [])
 (H: ∀(text:List UInt8) (e:Int×Int×List UInt8),(Bg (↑text.length:Int) e)->
 (0:Int)<=(0:Int)/\
 (0:Int)<=e.1/\
 e.1<=(↑text.length:Int)/\
 AQ
 ((↑(List.drop (Int.toNat (0:Int)) (List.take e.1.toNat text)).length:Int)+(↑e.2.2.length:Int))/\
 AQ (e.1+e.2.1)/\
 (0:Int)<=e.1+e.2.1/\
 e.1+e.2.1<=(↑text.length:Int)/\
 (↑text.length:Int)<=(↑text.length:Int)/\
 AQ
 ((↑(List.drop (Int.toNat (0:Int)) (List.take e.1.toNat text)++e.2.2).length:Int)+
 (↑(List.drop (e.1+e.2.1).toNat (List.take (↑text.length:Int).toNat text)).length:
 Int))/\
 List.drop (Int.toNat (0:Int)) (List.take e.1.toNat text)++e.2.2++
 List.drop (e.1+e.2.1).toNat (List.take (↑text.length:Int).toNat text)=
 AY text e):
 BV Tryz.prog BU CR:=⟨Q7.Hs rfl,fun x hx=>
 DU hC (L:=[]) (trivial) Q7 (ct:=CR) (depth:=0) rfl (by kernel_rfl) x (H (@id (List UInt8×(Int×Int×List UInt8)) x).1 (@id (List UInt8×(Int×Int×List UInt8)) x).2 (IP hx (by kernel_rfl))) (by kernel_rfl)⟩
theorem Zy (hC:Cons Tryz.prog [])
 (H: ∀(text:List UInt8) (e:Int×Int×List UInt8),(Bg (↑text.length:Int) e)->
 AQ (e.1+e.2.1)/\
 0<=e.1/\
 e.1<=e.1+e.2.1/\
 e.1+e.2.1<=(↑text.length:Int)/\
 (e.1,(↑e.2.2.length:Int),List.drop e.1.toNat (List.take (e.1+e.2.1).toNat text))=
 CJ text e):
 BV Tryz.prog CZ DZ:=⟨Q8.Hs rfl,fun x hx=>
 DU hC (L:=[]) (trivial) Q8 (ct:=DZ) (depth:=0) rfl (by kernel_rfl) x (H (@id (List UInt8×(Int×Int×List UInt8)) x).1 (@id (List UInt8×(Int×Int×List UInt8)) x).2 (IP hx (by kernel_rfl))) (by kernel_rfl)⟩
theorem YF (hC:Cons Tryz.prog [])
 (H: ∀(c:Int),(True)->
 bo ((97<=c/\c<=122\/65<=c/\c<=90)\/48<=c/\c<=57)=bo (HZ c)):
 BV Tryz.prog BB Bi:=⟨P2.Hs rfl,fun x hx=>
 DU hC (L:=[]) (trivial) P2 (ct:=Bi) (depth:=0) rfl (by kernel_rfl) x (H (@id (Int) x) (IP hx (by kernel_rfl))) (by kernel_rfl)⟩
theorem VD (hC:Cons Tryz.prog [(BB,Bi)])
 (H: ∀(text:List UInt8) (lo:Int) (hi:Int),(ot text lo hi)->
 ∃(I:Int->Prop),
 ∃(m:Int->Nat),
 I lo/\
 ∀(lo_1:Int),
 I lo_1->
 (0<lo_1->AQ (lo_1-1))/\
 (0<lo_1->0<=lo_1-1)/\
 (0<lo_1->lo_1-1<(↑text.length:Int))/\
 (0<lo_1->True)/\
 (0<lo_1/\bo (HZ (↑(gt text (lo_1-1)).toNat:Int))=true->
 AQ (lo_1-1)/\I (lo_1-1)/\m (lo_1-1)<m lo_1)/\
 (¬(0<lo_1/\bo (HZ (↑(gt text (lo_1-1)).toNat:Int))=true)->
 ∃(I:Int->Prop),
 ∃(m:Int->Nat),
 I hi/\
 ∀(hi_1:Int),
 I hi_1->
 (hi_1<(↑text.length:Int)->0<=hi_1)/\
 (hi_1<(↑text.length:Int)->hi_1<(↑text.length:Int))/\
 (hi_1<(↑text.length:Int)->True)/\
 (hi_1<(↑text.length:Int)/\bo (HZ (↑(gt text hi_1).toNat:Int))=true->
 AQ (hi_1+1)/\I (hi_1+1)/\m (hi_1+1)<m hi_1)/\
 (¬(hi_1<(↑text.length:Int)/\
 bo (HZ (↑(gt text hi_1).toNat:Int))=true)->
 lo_1=(Zf text lo hi).1/\hi_1=(Zf text lo hi).2))):
 BV Tryz.prog BN CV:=⟨Na.Hs rfl,fun x hx=>
 DU hC (L:=[]) (trivial) Na (ct:=CV) (depth:=0) rfl (by kernel_rfl) x (H (@id (List UInt8×Int×Int) x).1 (@id (List UInt8×Int×Int) x).2.1 (@id (List UInt8×Int×Int) x).2.2 (IP hx (by kernel_rfl))) (by kernel_rfl)⟩
theorem HO (hC:Cons Tryz.prog [])
 (H: ∀(s:List (Int×Int)),(pQ s)->
 ∀(HB:Prop),
 (HB->(↑s.length:Int)=0)->(HB->[]=s)/\(¬HB->(0+s.length)*16<=140737488355328/\[]++s=s)):
 BV Tryz.prog Ah BW:=⟨EM.Hs rfl,fun x hx=>
 DU hC (L:=[]) (trivial) EM (ct:=BW) (depth:=0) rfl (by kernel_rfl) x (H (@id ((List (Int×Int))) x) (IP hx (by kernel_rfl))) (by kernel_rfl)⟩
theorem Tj (hC:Cons Tryz.prog [(Ah,BW)])
 (H: ∀(l:List (Int×Int)) (s:Int×Int),(EO l/\Fw s)->
 ∃(I:Int->List (Int×Int)->Prop),
 ∃(m:Int->List (Int×Int)->Nat),
 (s.1=s.1/\s.2=s.2/\I (0:Int) [])/\
 ∀(x:Int) (out:List (Int×Int)),
 I x out->
 (x<(↑l.length:Int)->
 (0:Int)<=x/\
 x<(↑l.length:Int)/\
 (out.length+(2:Nat))*(16:Nat)<=(140737488355328:Nat)/\
 AQ (x+(1:Int))/\
 s.1=s.1/\
 s.2=s.2/\
 I (x+(1:Int))
 (out++
 [((gt l x).1,min (gt l x).2 (max (gt l x).1 s.1)),
 (max (gt l x).1 (min (gt l x).2 s.2),(gt l x).2)])/\
 m (x+(1:Int))
 (out++
 [((gt l x).1,min (gt l x).2 (max (gt l x).1 s.1)),
 (max (gt l x).1 (min (gt l x).2 s.2),(gt l x).2)])<
 m x out)/\
 (¬x<(↑l.length:Int)->
 (s.1=s.2->pQ l/\l=Aq l s)/\
 (¬s.1=s.2->
 ∃(I:Int->Prop),
 ∃(m:Int->Nat),
 (s.1=s.1/\s.2=s.2/\out=out/\I (0:Int))/\
 ∀(x:Int),
 I x->
 (x<(↑out.length:Int)->
 (0:Int)<=x/\
 x<(↑out.length:Int)/\
 ((gt out x).2<=(gt out x).1->
 (x=(-1:Int)->out=Aq l s)/\
 (¬x=(-1:Int)->
 AQ (x+(1:Int))/\
 ∃(I:Int->Int->List (Int×Int)->Prop),
 ∃(m:Int->Int->List (Int×Int)->Nat),
 (s.1=s.1/\
 s.2=s.2/\
 (gt out x).1=(gt out x).1/\
 (gt out x).2=(gt out x).2/\I x (x+(1:Int)) out)/\
 ∀(i j:Int) (s_1:List (Int×Int)),
 I i j s_1->
 (j<(↑s_1.length:Int)->
 (0:Int)<=j/\
 j<(↑s_1.length:Int)/\
 (¬(gt s_1 j).2<=(gt s_1 j).1->
 (0:Int)<=i/\
 i<(↑s_1.length:Int)/\
 AQ (i+(1:Int))/\
 AQ (j+(1:Int))/\
 s.1=s.1/\
 s.2=s.2/\
 (gt out x).1=(gt out x).1/\
 (gt out x).2=(gt out x).2/\
 I (i+(1:Int)) (j+(1:Int))
 (s_1.set i.toNat
 ((gt s_1 j).1,
 (gt s_1 j).2))/\
 m (i+(1:Int)) (j+(1:Int))
 (s_1.set i.toNat
 ((gt s_1 j).1,
 (gt s_1 j).2))<
 m i j s_1)/\
 (¬¬(gt s_1 j).2<=(gt s_1 j).1->
 AQ (j+(1:Int))/\
 s.1=s.1/\
 s.2=s.2/\
 (gt out x).1=(gt out x).1/\
 (gt out x).2=(gt out x).2/\
 I i (j+(1:Int)) s_1/\
 m i (j+(1:Int)) s_1<m i j s_1))/\
 (¬j<(↑s_1.length:Int)->
 (0:Int)<=i/\
 i<=(↑s_1.length:Int)/\
 (↑s_1.length:Int)<=(↑s_1.length:Int)/\
 (0:Int)<=(0:Int)/\
 (0:Int)<=i/\
 i<=
 (↑(List.take i.toNat s_1++
 List.replicate
 ((↑s_1.length:Int)-i).toNat
 ((0:Int),(0:Int))++
 List.drop
 (i.toNat+
 ((↑s_1.length:Int)-i).toNat)
 s_1).length:
 Int)/\
 (0:Int)=(0:Int)/\
 List.take (i-(0:Int)).toNat
 (List.take i.toNat s_1++
 List.replicate
 ((↑s_1.length:Int)-i).toNat
 ((0:Int),(0:Int))++
 List.drop
 (i.toNat+
 ((↑s_1.length:Int)-i).toNat)
 s_1)=
 Aq l s)))/\
 (¬(gt out x).2<=(gt out x).1->
 AQ (x+(1:Int))/\
 s.1=s.1/\
 s.2=s.2/\out=out/\I (x+(1:Int))/\m (x+(1:Int))<m x))/\
 (¬x<(↑out.length:Int)->
 ((-1:Int)=(-1:Int)->out=Aq l s)/\
 (¬(-1:Int)=(-1:Int)->
 AQ ((-1:Int)+(1:Int))/\
 ∃(I:Int->Int->List (Int×Int)->Prop),
 ∃(m:Int->Int->List (Int×Int)->Nat),
 (s.1=s.1/\s.2=s.2/\I (-1:Int) ((-1:Int)+(1:Int)) out)/\
 ∀(i j:Int) (s_1:List (Int×Int)),
 I i j s_1->
 (j<(↑s_1.length:Int)->
 (0:Int)<=j/\
 j<(↑s_1.length:Int)/\
 (¬(gt s_1 j).2<=(gt s_1 j).1->
 (0:Int)<=i/\
 i<(↑s_1.length:Int)/\
 AQ (i+(1:Int))/\
 AQ (j+(1:Int))/\
 s.1=s.1/\
 s.2=s.2/\
 I (i+(1:Int)) (j+(1:Int))
 (s_1.set i.toNat
 ((gt s_1 j).1,(gt s_1 j).2))/\
 m (i+(1:Int)) (j+(1:Int))
 (s_1.set i.toNat
 ((gt s_1 j).1,(gt s_1 j).2))<
 m i j s_1)/\
 (¬¬(gt s_1 j).2<=(gt s_1 j).1->
 AQ (j+(1:Int))/\
 s.1=s.1/\
 s.2=s.2/\
 I i (j+(1:Int)) s_1/\
 m i (j+(1:Int)) s_1<m i j s_1))/\
 (¬j<(↑s_1.length:Int)->
 (0:Int)<=i/\
 i<=(↑s_1.length:Int)/\
 (↑s_1.length:Int)<=(↑s_1.length:Int)/\
 (0:Int)<=(0:Int)/\
 (0:Int)<=i/\
 i<=
 (↑(List.take i.toNat s_1++
 List.replicate
 ((↑s_1.length:Int)-i).toNat
 ((0:Int),(0:Int))++
 List.drop
 (i.toNat+((↑s_1.length:Int)-i).toNat)
 s_1).length:
 Int)/\
 (0:Int)=(0:Int)/\
 List.take (i-(0:Int)).toNat
 (List.take i.toNat s_1++
 List.replicate ((↑s_1.length:Int)-i).toNat
 ((0:Int),(0:Int))++
 List.drop
 (i.toNat+((↑s_1.length:Int)-i).toNat)
 s_1)=
 Aq l s)))))):
 BV Tryz.prog A9 JL:=⟨MZ.Hs rfl,fun x hx=>
 DU hC (L:=[(Aw,Di),(Az,Du),(EG,Ks)]) (⟨GD,GO,QY,trivial⟩) MZ (ct:=JL) (depth:=4) rfl (by kernel_rfl) x (H (@id ((List (Int×Int))×(Int×Int)) x).1 (@id ((List (Int×Int))×(Int×Int)) x).2 (IP hx (by kernel_rfl))) (by kernel_rfl)⟩
theorem U7 (hC:Cons Tryz.prog [])
 (H: ∀(l:List (Int×Int)),(Ns l)->
 ∃(I:Int->List (Int×Int)->Prop),
 ∃(m:Int->List (Int×Int)->Nat),
 I 0 []/\
 ∀(x:Int) (out:List (Int×Int)),
 I x out->
 (x<(↑l.length:Int)->
 0<=x/\
 x<(↑l.length:Int)/\
 ((gt l x).1=(gt l x).2->AQ (x+1)/\I (x+1) out/\m (x+1) out<m x out)/\
 (¬(gt l x).1=(gt l x).2->
 (0<(↑out.length:Int)->AQ ((↑out.length:Int)-1))/\
 (0<(↑out.length:Int)->0<=(↑out.length:Int)-1)/\
 (0<(↑out.length:Int)->(↑out.length:Int)-1<(↑out.length:Int))/\
 (0<(↑out.length:Int)/\(gt l x).1<=(gt out ((↑out.length:Int)-1)).2->
 AQ ((↑out.length:Int)-1)/\
 AQ ((↑out.length:Int)-1)/\
 0<=(↑out.length:Int)-1/\
 (↑out.length:Int)-1<(↑out.length:Int)/\
 0<=(↑out.length:Int)-1/\
 (↑out.length:Int)-1<(↑out.length:Int)/\
 AQ (x+1)/\
 I (x+1)
 (out.set ((↑out.length:Int)-1).toNat
 ((gt out ((↑out.length:Int)-1)).1,
 max (gt out ((↑out.length:Int)-1)).2 (gt l x).2))/\
 m (x+1)
 (out.set ((↑out.length:Int)-1).toNat
 ((gt out ((↑out.length:Int)-1)).1,
 max (gt out ((↑out.length:Int)-1)).2 (gt l x).2))<
 m x out)/\
 (¬(0<(↑out.length:Int)/\(gt l x).1<=(gt out ((↑out.length:Int)-1)).2)->
 (out.length+1)*16<=140737488355328/\
 AQ (x+1)/\
 I (x+1) (out++[((gt l x).1,(gt l x).2)])/\
 m (x+1) (out++[((gt l x).1,(gt l x).2)])<m x out)))/\
 (¬x<(↑l.length:Int)->out=Li l)):
 BV Tryz.prog Dc DK:=⟨NX.Hs rfl,fun x hx=>
 DU hC (L:=[]) (trivial) NX (ct:=DK) (depth:=0) rfl (by kernel_rfl) x (H (@id ((List (Int×Int))) x) (IP hx (by kernel_rfl))) (by kernel_rfl)⟩
theorem Tg (hC:Cons Tryz.prog [(A9,Ci),(Dc,DK),(Bv,DG)])
 (H: ∀(l:List (Int×Int)) (e:Int×Int×List UInt8),(W6 l e)->
 AQ (e.1+e.2.1)/\
 (EO l/\Fw (e.1,e.1+e.2.1))/\
 ∃(I:Int->List (Int×Int)->Prop),
 ∃(m:Int->List (Int×Int)->Nat),
 (e.1=e.1/\e.2.1=e.2.1/\e.2.2=e.2.2/\I 0 [])/\
 ∀(x:Int) (out:List (Int×Int)),
 I x out->
 (x<(↑(Aq l (e.1,e.1+e.2.1)).length:Int)->
 0<=x/\
 x<(↑(Aq l (e.1,e.1+e.2.1)).length:Int)/\
 ((gt (Aq l (e.1,e.1+e.2.1)) x).1<e.1/\
 e.1<(gt (Aq l (e.1,e.1+e.2.1)) x).2->
 (out.length+1)*16<=140737488355328/\
 (e.1<=e.1->
 AQ ((↑e.2.2.length:Int)-e.2.1)/\
 AQ (e.1+((↑e.2.2.length:Int)-e.2.1))/\
 AQ
 ((gt (Aq l (e.1,e.1+e.2.1)) x).2+
 ((↑e.2.2.length:Int)-e.2.1))/\
 ((out++[((gt (Aq l (e.1,e.1+e.2.1)) x).1,e.1)]).length+
 1)*
 16<=
 140737488355328/\
 AQ (x+1)/\
 e.1=e.1/\
 e.2.1=e.2.1/\
 e.2.2=e.2.2/\
 I (x+1)
 (out++
 [((gt (Aq l (e.1,e.1+e.2.1)) x).1,e.1)]++
 [(e.1+((↑e.2.2.length:Int)-e.2.1),
 (gt (Aq l (e.1,e.1+e.2.1)) x).2+
 ((↑e.2.2.length:Int)-e.2.1))])/\
 m (x+1)
 (out++
 [((gt (Aq l (e.1,e.1+e.2.1)) x).1,
 e.1)]++
 [(e.1+((↑e.2.2.length:Int)-e.2.1),
 (gt (Aq l (e.1,e.1+e.2.1)) x).2+
 ((↑e.2.2.length:Int)-e.2.1))])<
 m x out)/\
 (¬e.1<=e.1->
 ((out++[((gt (Aq l (e.1,e.1+e.2.1)) x).1,e.1)]).length+1)*
 16<=
 140737488355328/\
 AQ (x+1)/\
 e.1=e.1/\
 e.2.1=e.2.1/\
 e.2.2=e.2.2/\
 I (x+1)
 (out++[((gt (Aq l (e.1,e.1+e.2.1)) x).1,e.1)]++
 [(e.1,(gt (Aq l (e.1,e.1+e.2.1)) x).2)])/\
 m (x+1)
 (out++[((gt (Aq l (e.1,e.1+e.2.1)) x).1,e.1)]++
 [(e.1,(gt (Aq l (e.1,e.1+e.2.1)) x).2)])<
 m x out))/\
 (¬((gt (Aq l (e.1,e.1+e.2.1)) x).1<e.1/\
 e.1<(gt (Aq l (e.1,e.1+e.2.1)) x).2)->
 (e.1<=(gt (Aq l (e.1,e.1+e.2.1)) x).1->
 AQ ((↑e.2.2.length:Int)-e.2.1)/\
 AQ
 ((gt (Aq l (e.1,e.1+e.2.1)) x).1+
 ((↑e.2.2.length:Int)-e.2.1))/\
 AQ
 ((gt (Aq l (e.1,e.1+e.2.1)) x).2+
 ((↑e.2.2.length:Int)-e.2.1))/\
 (out.length+1)*16<=140737488355328/\
 AQ (x+1)/\
 e.1=e.1/\
 e.2.1=e.2.1/\
 e.2.2=e.2.2/\
 I (x+1)
 (out++
 [((gt (Aq l (e.1,e.1+e.2.1)) x).1+
 ((↑e.2.2.length:Int)-e.2.1),
 (gt (Aq l (e.1,e.1+e.2.1)) x).2+
 ((↑e.2.2.length:Int)-e.2.1))])/\
 m (x+1)
 (out++
 [((gt (Aq l (e.1,e.1+e.2.1)) x).1+
 ((↑e.2.2.length:Int)-e.2.1),
 (gt (Aq l (e.1,e.1+e.2.1)) x).2+
 ((↑e.2.2.length:Int)-e.2.1))])<
 m x out)/\
 (¬e.1<=(gt (Aq l (e.1,e.1+e.2.1)) x).1->
 (out.length+1)*16<=140737488355328/\
 AQ (x+1)/\
 e.1=e.1/\
 e.2.1=e.2.1/\
 e.2.2=e.2.2/\
 I (x+1)
 (out++
 [((gt (Aq l (e.1,e.1+e.2.1)) x).1,
 (gt (Aq l (e.1,e.1+e.2.1)) x).2)])/\
 m (x+1)
 (out++
 [((gt (Aq l (e.1,e.1+e.2.1)) x).1,
 (gt (Aq l (e.1,e.1+e.2.1)) x).2)])<
 m x out)))/\
 (¬x<(↑(Aq l (e.1,e.1+e.2.1)).length:Int)->
 AQ (e.1+(↑e.2.2.length:Int))/\
 Ns out/\
 e.1=e.1/\
 e.1=e.1/\
 e.2.2=e.2.2/\
 (EO (Li out)/\Fw (e.1,e.1+(↑e.2.2.length:Int)))/\
 Fl (Li out) (e.1,e.1+(↑e.2.2.length:Int))=Fv l e)):
 BV Tryz.prog Bf C5:=⟨MY.Hs rfl,fun x hx=>
 DU hC (L:=[]) (trivial) MY (ct:=C5) (depth:=0) rfl (by kernel_rfl) x (H (@id ((List (Int×Int))×(Int×Int×List UInt8)) x).1 (@id ((List (Int×Int))×(Int×Int×List UInt8)) x).2 (IP hx (by kernel_rfl))) (by kernel_rfl)⟩
theorem aT (hC:Cons Tryz.prog [])
 (H: ∀(l:List Int),(Gg l)->
 ∃(I:Int->Prop),
 ∃(m:Int->Nat),
 I (0:Int)/\
 ∀(x:Int),
 I x->
 (x<(↑l.length:Int)->
 (0:Int)<=x/\
 x<(↑l.length:Int)/\
 ((0:Int)<x->AQ (x-(1:Int)))/\
 ((0:Int)<x->(0:Int)<=x-(1:Int))/\
 ((0:Int)<x->x-(1:Int)<(↑l.length:Int))/\
 ((0:Int)<x/\gt l x<=gt l (x-(1:Int))->false=bo (FI l))/\
 (¬((0:Int)<x/\gt l x<=gt l (x-(1:Int)))->
 AQ (x+(1:Int))/\I (x+(1:Int))/\m (x+(1:Int))<m x))/\
 (¬x<(↑l.length:Int)->
 ((0:Int)<(↑l.length:Int)->(0:Int)<=(0:Int))/\
 ((0:Int)<(↑l.length:Int)->(0:Int)<(↑l.length:Int))/\
 ((0:Int)<(↑l.length:Int)/\gt l (0:Int)=(0:Int)->AQ ((↑l.length:Int)-(1:Int)))/\
 ((0:Int)<(↑l.length:Int)/\gt l (0:Int)=(0:Int)->
 (0:Int)<=(↑l.length:Int)-(1:Int))/\
 ((0:Int)<(↑l.length:Int)/\gt l (0:Int)=(0:Int)->
 (↑l.length:Int)-(1:Int)<(↑l.length:Int))/\
 bo
 (((0:Int)<(↑l.length:Int)/\gt l (0:Int)=(0:Int))/\
 gt l ((↑l.length:Int)-(1:Int))<=(600:Int))=
 bo (FI l))):
 BV Tryz.prog FA Ii:=⟨RY.Hs rfl,fun x hx=>
 DU hC (L:=[]) (trivial) RY (ct:=Ii) (depth:=0) rfl (by kernel_rfl) x (H (@id (List Int) x) (IP hx (by kernel_rfl))) (by kernel_rfl)⟩
theorem Xg (hC:Cons Tryz.prog [(FA,Ii)])
 (H: ∀(starts:List Int) (at_:Int),(Gg starts)->
 Gg starts/\
 (¬bo (FI starts)=true->(0:Int)=(E7 starts at_).1/\(4:Int)=(E7 starts at_).2)/\
 (¬¬bo (FI starts)=true->
 (at_<(0:Int)->(0:Int)=(E7 starts at_).1/\(2:Int)=(E7 starts at_).2)/\
 (¬at_<(0:Int)->
 ∃(I:Int->Int->List Int->Int->Prop),
 ∃(m:Int->Int->List Int->Int->Nat),
 I (0:Int) (↑starts.length:Int) starts at_/\
 ∀(i j:Int) (f:List Int) (f_1:Int),
 I i j f f_1->
 (i<j->
 AQ (i+j)/\
 (0:Int)<=(1:Int)/\
 AQ
 ((IntKind.u64.wrap (i+j)).fdiv
 ((2:Int) ^ min (Int.toNat (1:Int)) IntKind.u64.bits))/\
 (0:Int)<=
 (IntKind.u64.wrap (i+j)).fdiv
 ((2:Int) ^ min (Int.toNat (1:Int)) IntKind.u64.bits)/\
 (IntKind.u64.wrap (i+j)).fdiv
 ((2:Int) ^ min (Int.toNat (1:Int)) IntKind.u64.bits)<
 (↑f.length:Int)/\
 (¬f_1<
 gt f
 ((IntKind.u64.wrap (i+j)).fdiv
 ((2:Int) ^ min (Int.toNat (1:Int)) IntKind.u64.bits))->
 AQ
 ((IntKind.u64.wrap (i+j)).fdiv
 ((2:Int) ^ min (Int.toNat (1:Int)) IntKind.u64.bits)+
 (1:Int))/\
 I
 ((IntKind.u64.wrap (i+j)).fdiv
 ((2:Int) ^ min (Int.toNat (1:Int)) IntKind.u64.bits)+
 (1:Int))
 j f f_1/\
 m
 ((IntKind.u64.wrap (i+j)).fdiv
 ((2:Int) ^ min (Int.toNat (1:Int)) IntKind.u64.bits)+
 (1:Int))
 j f f_1<
 m i j f f_1)/\
 (¬¬f_1<
 gt f
 ((IntKind.u64.wrap (i+j)).fdiv
 ((2:Int) ^ min (Int.toNat (1:Int)) IntKind.u64.bits))->
 I i
 ((IntKind.u64.wrap (i+j)).fdiv
 ((2:Int) ^ min (Int.toNat (1:Int)) IntKind.u64.bits))
 f f_1/\
 m i
 ((IntKind.u64.wrap (i+j)).fdiv
 ((2:Int) ^ min (Int.toNat (1:Int)) IntKind.u64.bits))
 f f_1<
 m i j f f_1))/\
 (¬i<j->
 AQ (i-(1:Int))/\
 i-(1:Int)=(E7 starts at_).1/\(0:Int)=(E7 starts at_).2)))):
 BV Tryz.prog Bu DX:=⟨Pn.Hs rfl,fun x hx=>
 DU hC (L:=[(EV,Kr),(FX,NQ)]) (⟨OY,Us,trivial⟩) Pn (ct:=DX) (depth:=4) rfl (by kernel_rfl) x (H (@id (List Int×Int) x).1 (@id (List Int×Int) x).2 (IP hx (by kernel_rfl))) (by kernel_rfl)⟩
theorem nV (hC:Cons Tryz.prog [])
 (H: ∀(text:List UInt8),(Hw text)->
 ((↑(1:Nat):Int)=(0:Int)->False)/\
 (¬(↑(1:Nat):Int)=(0:Int)->
 ((↑(1:Nat):Int)=(1:Int)->
 (0:Int)<=(0:Int)/\
 (0:Int)<(↑(1:Nat):Int)/\
 AQ ((↑text.length:Int)-(1:Int))/\
 ∃(I:Int->Prop),
 ∃(m:Int->Nat),
 ((0:Int)=(0:Int)/\
 (0:Int)=(0:Int)/\(0:Int)=(0:Int)/\I ((↑text.length:Int)-(1:Int)))/\
 ∀(i:Int),
 I i->
 ((0:Int)<=i->
 (0:Int)<=i/\
 i<(↑text.length:Int)/\
 ((↑(gt text i).toNat:Int)=(10:Int)->
 AQ ((↑text.length:Int)-i)/\
 AQ ((↑text.length:Int)-i-(1:Int))/\
 ((↑text.length:Int),
 (↑(Lib.countByte text (gt [(10:UInt8)] (0:Int))):Int),
 (↑text.length:Int)-i-(1:Int))=
 posOf text)/\
 (¬(↑(gt text i).toNat:Int)=(10:Int)->
 AQ (i-(1:Int))/\
 (0:Int)=(0:Int)/\
 (0:Int)=(0:Int)/\
 (0:Int)=(0:Int)/\I (i-(1:Int))/\m (i-(1:Int))<m i))/\
 (¬(0:Int)<=i->
 AQ ((↑text.length:Int)-(-1:Int))/\
 AQ ((↑text.length:Int)-(-1:Int)-(1:Int))/\
 ((↑text.length:Int),(↑(Lib.countByte text (gt [(10:UInt8)] (0:Int))):Int),
 (↑text.length:Int)-(-1:Int)-(1:Int))=
 posOf text))/\
 (¬(↑(1:Nat):Int)=(1:Int)->
 ∃(I:List UInt8->Int->Prop),
 ∃(m:List UInt8->Int->Nat),
 ((0:Int)=(0:Int)/\(0:Int)=(0:Int)/\(0:Int)=(0:Int)/\I text (0:Int))/\
 ∀(s:List UInt8) (n:Int),I s n->False))):
 BV Tryz.prog FB GG:=⟨Y5.Hs rfl,fun x hx=>
 DU hC (L:=[(E6,Mc),(Cv,Hj),(A8,D1)]) (⟨Tk,Lt,GV,trivial⟩) Y5 (ct:=GG) (depth:=4) rfl (by kernel_rfl) x (H (@id (List UInt8) x) (IP hx (by kernel_rfl))) (by kernel_rfl)⟩
theorem QX (hC:Cons Tryz.prog [])
 (H: ∀(a:List Int) (x:Int),(Gg a/\TZ a)->
 ∃(I:Int->Int->List Int->Int->Prop),
 ∃(m:Int->Int->List Int->Int->Nat),
 I (0:Int) (↑a.length:Int) a x/\
 ∀(i j:Int) (f:List Int) (f_1:Int),
 I i j f f_1->
 (i<j->
 AQ (i+j)/\
 (0:Int)<=(1:Int)/\
 AQ ((IntKind.u64.wrap (i+j)).fdiv ((2:Int) ^ min (Int.toNat (1:Int)) IntKind.u64.bits))/\
 (0:Int)<=
 (IntKind.u64.wrap (i+j)).fdiv ((2:Int) ^ min (Int.toNat (1:Int)) IntKind.u64.bits)/\
 (IntKind.u64.wrap (i+j)).fdiv ((2:Int) ^ min (Int.toNat (1:Int)) IntKind.u64.bits)<
 (↑f.length:Int)/\
 (¬f_1<=
 gt f
 ((IntKind.u64.wrap (i+j)).fdiv
 ((2:Int) ^ min (Int.toNat (1:Int)) IntKind.u64.bits))->
 AQ
 ((IntKind.u64.wrap (i+j)).fdiv
 ((2:Int) ^ min (Int.toNat (1:Int)) IntKind.u64.bits)+
 (1:Int))/\
 I
 ((IntKind.u64.wrap (i+j)).fdiv
 ((2:Int) ^ min (Int.toNat (1:Int)) IntKind.u64.bits)+
 (1:Int))
 j f f_1/\
 m
 ((IntKind.u64.wrap (i+j)).fdiv
 ((2:Int) ^ min (Int.toNat (1:Int)) IntKind.u64.bits)+
 (1:Int))
 j f f_1<
 m i j f f_1)/\
 (¬¬f_1<=
 gt f
 ((IntKind.u64.wrap (i+j)).fdiv
 ((2:Int) ^ min (Int.toNat (1:Int)) IntKind.u64.bits))->
 I i
 ((IntKind.u64.wrap (i+j)).fdiv
 ((2:Int) ^ min (Int.toNat (1:Int)) IntKind.u64.bits))
 f f_1/\
 m i
 ((IntKind.u64.wrap (i+j)).fdiv
 ((2:Int) ^ min (Int.toNat (1:Int)) IntKind.u64.bits))
 f f_1<
 m i j f f_1))/\
 (¬i<j->i=Cz a x)):
 BV Tryz.prog CE El:=⟨Kq.Hs rfl,fun x hx=>
 DU hC (L:=[(EV,Kr),(Dg,Js)]) (⟨OY,OX,trivial⟩) Kq (ct:=El) (depth:=4) rfl (by kernel_rfl) x (H (@id (List Int×Int) x).1 (@id (List Int×Int) x).2 (IP hx (by kernel_rfl))) (by kernel_rfl)⟩
theorem S5 (hC:Cons Tryz.prog [(CE,El)])
 (H: ∀(l:List Int) (e:Int×Int×List UInt8),(FI l/\Gg l/\bc e)->
 AQ (e.1+(1:Int))/\
 (Gg l/\TZ l)/\
 AQ (e.1+e.2.1)/\
 AQ (e.1+e.2.1+(1:Int))/\
 (Gg l/\TZ l)/\
 (0:Int)<=(0:Int)/\
 (0:Int)<=Cz l (e.1+(1:Int))/\
 Cz l (e.1+(1:Int))<=(↑l.length:Int)/\
 (List.drop (Int.toNat (0:Int)) (List.take (Cz l (e.1+(1:Int))).toNat l)).length*
 (8:Nat)<=
 (140737488355328:Nat)/\
 ∃(I:Int->List Int->Prop),
 ∃(m:Int->List Int->Nat),
 (e.1=e.1/\
 e.2.1=e.2.1/\
 e.2.2=e.2.2/\
 I (0:Int)
 (List.drop (Int.toNat (0:Int))
 (List.take (Cz l (e.1+(1:Int))).toNat l)))/\
 ∀(x:Int) (out:List Int),
 I x out->
 (x<(↑e.2.2.length:Int)->
 (0:Int)<=x/\
 x<(↑e.2.2.length:Int)/\
 ((↑(gt e.2.2 x).toNat:Int)=(10:Int)->
 AQ (e.1+x)/\
 AQ (e.1+x+(1:Int))/\
 (out.length+(1:Nat))*(8:Nat)<=(140737488355328:Nat)/\
 AQ (x+(1:Int))/\
 e.1=e.1/\
 e.2.1=e.2.1/\
 e.2.2=e.2.2/\
 I (x+(1:Int)) (out++[e.1+x+(1:Int)])/\
 m (x+(1:Int)) (out++[e.1+x+(1:Int)])<m x out)/\
 (¬(↑(gt e.2.2 x).toNat:Int)=(10:Int)->
 AQ (x+(1:Int))/\
 e.1=e.1/\
 e.2.1=e.2.1/\
 e.2.2=e.2.2/\
 I (x+(1:Int)) out/\m (x+(1:Int)) out<m x out))/\
 (¬x<(↑e.2.2.length:Int)->
 (0:Int)<=Cz l (e.1+e.2.1+(1:Int))/\
 Cz l (e.1+e.2.1+(1:Int))<=(↑l.length:Int)/\
 (↑l.length:Int)<=(↑l.length:Int)/\
 ∃(I:Int->List Int->Prop),
 ∃(m:Int->List Int->Nat),
 (e.1=e.1/\
 e.2.1=e.2.1/\e.2.2=e.2.2/\I (0:Int) out)/\
 ∀(x:Int) (out:List Int),
 I x out->
 (x<
 (↑(List.drop (Cz l (e.1+e.2.1+(1:Int))).toNat
 (List.take (↑l.length:Int).toNat l)).length:
 Int)->
 (0:Int)<=x/\
 x<
 (↑(List.drop
 (Cz l (e.1+e.2.1+(1:Int))).toNat
 (List.take (↑l.length:Int).toNat l)).length:
 Int)/\
 AQ
 (gt
 (List.drop
 (Cz l (e.1+e.2.1+(1:Int))).toNat
 (List.take (↑l.length:Int).toNat l))
 x+
 (↑e.2.2.length:Int))/\
 AQ
 (gt
 (List.drop
 (Cz l (e.1+e.2.1+(1:Int))).toNat
 (List.take (↑l.length:Int).toNat l))
 x+
 (↑e.2.2.length:Int)-
 e.2.1)/\
 (out.length+(1:Nat))*(8:Nat)<=
 (140737488355328:Nat)/\
 AQ (x+(1:Int))/\
 e.1=e.1/\
 e.2.1=e.2.1/\
 e.2.2=e.2.2/\
 I (x+(1:Int))
 (out++
 [gt
 (List.drop
 (Cz l
 (e.1+e.2.1+
 (1:Int))).toNat
 (List.take (↑l.length:Int).toNat
 l))
 x+
 (↑e.2.2.length:Int)-
 e.2.1])/\
 m (x+(1:Int))
 (out++
 [gt
 (List.drop
 (Cz l
 (e.1+e.2.1+
 (1:Int))).toNat
 (List.take
 (↑l.length:Int).toNat l))
 x+
 (↑e.2.2.length:Int)-
 e.2.1])<
 m x out)/\
 (¬x<
 (↑(List.drop (Cz l (e.1+e.2.1+(1:Int))).toNat
 (List.take (↑l.length:Int).toNat l)).length:
 Int)->
 out=FF l e))):
 BV Tryz.prog BT C4:=⟨ME.Hs rfl,fun x hx=>
 DU hC (L:=[]) (trivial) ME (ct:=C4) (depth:=0) rfl (by kernel_rfl) x (H (@id (List Int×(Int×Int×List UInt8)) x).1 (@id (List Int×(Int×Int×List UInt8)) x).2 (IP hx (by kernel_rfl))) (by kernel_rfl)⟩
theorem jL (hC:Cons Tryz.prog [])
 (H: ∀(text:List UInt8),(Hw text)->
 ∃(I:Int->Int->Int->Prop),
 ∃(m:Int->Int->Int->Nat),
 ((0:Int)=(0:Int)/\(0:Int)=(0:Int)/\I (0:Int) (0:Int) (1:Int))/\
 ∀(x h h_1:Int),
 I x h h_1->
 (x<(↑text.length:Int)->
 AQ (h*(257:Int))/\
 (0:Int)<=x/\
 x<(↑text.length:Int)/\
 AQ (h*(257:Int)+(↑(gt text x).toNat:Int))/\
 AQ (h*(257:Int)+(↑(gt text x).toNat:Int)+(1:Int))/\
 (2147483647:Int)≠(0:Int)/\
 AQ (h_1*(257:Int))/\
 (2147483647:Int)≠(0:Int)/\
 AQ (x+(1:Int))/\
 (0:Int)=(0:Int)/\
 (0:Int)=(0:Int)/\
 I (x+(1:Int))
 ((h*(257:Int)+(↑(gt text x).toNat:Int)+(1:Int)).tmod
 (2147483647:Int))
 ((h_1*(257:Int)).tmod (2147483647:Int))/\
 m (x+(1:Int))
 ((h*(257:Int)+(↑(gt text x).toNat:Int)+(1:Int)).tmod
 (2147483647:Int))
 ((h_1*(257:Int)).tmod (2147483647:Int))<
 m x h h_1)/\
 (¬x<(↑text.length:Int)->(h,h_1)=BJ text)):
 BV Tryz.prog Df Ek:=⟨Wg.Hs rfl,fun x hx=>
 DU hC (L:=[]) (trivial) Wg (ct:=Ek) (depth:=0) rfl (by kernel_rfl) x (H (@id (List UInt8) x) (IP hx (by kernel_rfl))) (by kernel_rfl)⟩
theorem XN (hC:Cons Tryz.prog [(BB,Bi)])
 (H: ∀(w:List UInt8),(Hw w)->
 ∃(I:Int->Prop),
 ∃(m:Int->Nat),
 I 0/\
 ∀(x:Int),
 I x->
 (x<(↑w.length:Int)->
 0<=x/\
 x<(↑w.length:Int)/\
 True/\
 (¬bo (HZ (↑(gt w x).toNat:Int))=true->false=bo (isWord w))/\
 (¬¬bo (HZ (↑(gt w x).toNat:Int))=true->AQ (x+1)/\I (x+1)/\m (x+1)<m x))/\
 (¬x<(↑w.length:Int)->bo (w≠[]/\(↑w.length:Int)<=12)=bo (isWord w))):
 BV Tryz.prog CY ED:=⟨Ol.Hs rfl,fun x hx=>
 DU hC (L:=[]) (trivial) Ol (ct:=ED) (depth:=0) rfl (by kernel_rfl) x (H (@id (List UInt8) x) (IP hx (by kernel_rfl))) (by kernel_rfl)⟩
theorem dd (hC:Cons Tryz.prog [])
 (H: ∀(text:List UInt8),(text.length<=1000000)->
 ∃(I:Int->List Int->Prop),
 ∃(m:Int->List Int->Nat),
 I 0 [0]/\
 ∀(x:Int) (out:List Int),
 I x out->
 (x<(↑text.length:Int)->
 0<=x/\
 x<(↑text.length:Int)/\
 ((↑(gt text x).toNat:Int)=10->
 AQ (x+1)/\
 (out.length+1)*8<=140737488355328/\
 AQ (x+1)/\I (x+1) (out++[x+1])/\m (x+1) (out++[x+1])<m x out)/\
 (¬(↑(gt text x).toNat:Int)=10->AQ (x+1)/\I (x+1) out/\m (x+1) out<m x out))/\
 (¬x<(↑text.length:Int)->out=Ab text)):
 BV Tryz.prog Dw Gl:=⟨UI.Hs rfl,fun x hx=>
 DU hC (L:=[]) (trivial) UI (ct:=Gl) (depth:=0) rfl (by kernel_rfl) x (H (@id (List UInt8) x) (IP hx (by kernel_rfl))) (by kernel_rfl)⟩
theorem TJ (hC:Cons Tryz.prog [])
 (H: ∀(size:Int) (e:Int×Int×List UInt8),(AQ size/\E_ e)->
 (¬(((((size<0\/600<size)\/e.1<0)\/e.2.1<0)\/size<e.1)\/size<e.2.1)->
 AQ (e.1+e.2.1))/\
 ((((((size<0\/600<size)\/e.1<0)\/e.2.1<0)\/size<e.1)\/size<e.2.1)\/
 size<e.1+e.2.1->
 2=BX size e)/\
 (¬((((((size<0\/600<size)\/e.1<0)\/e.2.1<0)\/size<e.1)\/size<e.2.1)\/
 size<e.1+e.2.1)->
 AQ (size+(↑e.2.2.length:Int))/\
 AQ (size+(↑e.2.2.length:Int)-e.2.1)/\
 (600<size+(↑e.2.2.length:Int)-e.2.1->1=BX size e)/\
 (¬600<size+(↑e.2.2.length:Int)-e.2.1->0=BX size e))):
 BV Tryz.prog CU EZ:=⟨MO.Hs rfl,fun x hx=>
 DU hC (L:=[]) (trivial) MO (ct:=EZ) (depth:=0) rfl (by kernel_rfl) x (H (@id (Int×(Int×Int×List UInt8)) x).1 (@id (Int×(Int×Int×List UInt8)) x).2 (IP hx (by kernel_rfl))) (by kernel_rfl)⟩
theorem U2 (hC:Cons Tryz.prog [])
 (H: ∀(text:List UInt8) (e:Int×Int×List UInt8),(Bg (↑text.length:Int) e)->
 ∃(I:List UInt8->Int->Prop),
 ∃(m:List UInt8->Int->Nat),
 (e.1=e.1/\e.2.1=e.2.1/\e.2.2=e.2.2/\I [] 0)/\
 ∀(out:List UInt8) (i:Int),
 I out i->
 (i<=(↑text.length:Int)->
 (i=e.1->AQ ((↑out.length:Int)+(↑e.2.2.length:Int)))/\
 (i<(↑text.length:Int)/\ ¬i<e.1->AQ (e.1+e.2.1))/\
 (i<(↑text.length:Int)/\(i<e.1\/e.1+e.2.1<=i)->AQ (i+1))/\
 (i<(↑text.length:Int)/\(i<e.1\/e.1+e.2.1<=i)->0<=i)/\
 (i<(↑text.length:Int)/\(i<e.1\/e.1+e.2.1<=i)->i<=i+1)/\
 (i<(↑text.length:Int)/\(i<e.1\/e.1+e.2.1<=i)->
 i+1<=(↑text.length:Int))/\
 (i<(↑text.length:Int)/\(i<e.1\/e.1+e.2.1<=i)->
 AQ
 ((↑(H6 (i=e.1) (out++e.2.2) out).length:Int)+
 (↑(List.drop i.toNat (List.take (i+1).toNat text)).length:Int)))/\
 AQ (i+1)/\
 e.1=e.1/\
 e.2.1=e.2.1/\
 e.2.2=e.2.2/\
 I
 (H6 (i<(↑text.length:Int)/\(i<e.1\/e.1+e.2.1<=i))
 (H6 (i=e.1) (out++e.2.2) out++
 List.drop i.toNat (List.take (i+1).toNat text))
 (H6 (i=e.1) (out++e.2.2) out))
 (i+1)/\
 m
 (H6 (i<(↑text.length:Int)/\(i<e.1\/e.1+e.2.1<=i))
 (H6 (i=e.1) (out++e.2.2) out++
 List.drop i.toNat (List.take (i+1).toNat text))
 (H6 (i=e.1) (out++e.2.2) out))
 (i+1)<
 m out i)/\
 (¬i<=(↑text.length:Int)->out=AY text e)):
 BV Tryz.prog Cx E8:=⟨NW.Hs rfl,fun x hx=>
 DU hC (L:=[]) (trivial) NW (ct:=E8) (depth:=0) rfl (by kernel_rfl) x (H (@id (List UInt8×(Int×Int×List UInt8)) x).1 (@id (List UInt8×(Int×Int×List UInt8)) x).2 (IP hx (by kernel_rfl))) (by kernel_rfl)⟩
theorem bB (hC:Cons Tryz.prog [])
 (H: ∀(text:List UInt8),(Hw text)->
 ∃(I:Int->Int->Int->Int->Prop),
 ∃(m:Int->Int->Int->Int->Nat),
 ((0:Int)=(0:Int)/\
 (0:Int)=(0:Int)/\(0:Int)=(0:Int)/\I (0:Int) (0:Int) (0:Int) (0:Int))/\
 ∀(i p p_1 p_2:Int),
 I i p p_1 p_2->
 (i<(↑text.length:Int)->
 AQ (p+(1:Int))/\
 AQ (p_2+(1:Int))/\
 (0:Int)<=i/\
 i<(↑text.length:Int)/\
 ((↑(gt text i).toNat:Int)=(10:Int)->
 AQ (p_1+(1:Int))/\
 AQ (i+(1:Int))/\
 (0:Int)=(0:Int)/\
 (0:Int)=(0:Int)/\
 (0:Int)=(0:Int)/\
 I (i+(1:Int)) (p+(1:Int)) (p_1+(1:Int)) (0:Int)/\
 m (i+(1:Int)) (p+(1:Int)) (p_1+(1:Int)) (0:Int)<m i p p_1 p_2)/\
 (¬(↑(gt text i).toNat:Int)=(10:Int)->
 AQ (i+(1:Int))/\
 (0:Int)=(0:Int)/\
 (0:Int)=(0:Int)/\
 (0:Int)=(0:Int)/\
 I (i+(1:Int)) (p+(1:Int)) p_1 (p_2+(1:Int))/\
 m (i+(1:Int)) (p+(1:Int)) p_1 (p_2+(1:Int))<m i p p_1 p_2))/\
 (¬i<(↑text.length:Int)->(p,p_1,p_2)=posOf text)):
 BV Tryz.prog FC Iq:=⟨Rt.Hs rfl,fun x hx=>
 DU hC (L:=[]) (trivial) Rt (ct:=Iq) (depth:=0) rfl (by kernel_rfl) x (H (@id (List UInt8) x) (IP hx (by kernel_rfl))) (by kernel_rfl)⟩
theorem az (hC:Cons Tryz.prog [(FC,Iq)])
 (H: ∀(text:List UInt8) (at_:Int),(Hw text)->
 (at_<(0:Int)\/(↑text.length:Int)<at_->
 ((0:Int),(0:Int),(0:Int))=(FP text at_).1/\(2:Int)=(FP text at_).2)/\
 (¬(at_<(0:Int)\/(↑text.length:Int)<at_)->
 (0:Int)<=(0:Int)/\
 (0:Int)<=at_/\
 at_<=(↑text.length:Int)/\
 Hw (List.drop (Int.toNat (0:Int)) (List.take at_.toNat text))/\
 ((posOf (List.drop (Int.toNat (0:Int)) (List.take at_.toNat text))).1,
 (posOf (List.drop (Int.toNat (0:Int)) (List.take at_.toNat text))).2.1,
 (posOf (List.drop (Int.toNat (0:Int)) (List.take at_.toNat text))).2.2)=
 (FP text at_).1/\
 (0:Int)=(FP text at_).2)):
 BV Tryz.prog D9 G7:=⟨Rr.Hs rfl,fun x hx=>
 DU hC (L:=[]) (trivial) Rr (ct:=G7) (depth:=0) rfl (by kernel_rfl) x (H (@id (List UInt8×Int) x).1 (@id (List UInt8×Int) x).2 (IP hx (by kernel_rfl))) (by kernel_rfl)⟩
theorem Xu (hC:Cons Tryz.prog [])
 (H: ∀(c:Int),(True)->
 bo ((97<=c/\c<=122\/65<=c/\c<=90)\/48<=c/\c<=57)=bo (HZ c)):
 BV Tryz.prog D3 He:=⟨Pt.Hs rfl,fun x hx=>
 DU hC (L:=[]) (trivial) Pt (ct:=He) (depth:=0) rfl (by kernel_rfl) x (H (@id (Int) x) (IP hx (by kernel_rfl))) (by kernel_rfl)⟩
theorem Xx (hC:Cons Tryz.prog [(D3,He)])
 (H: ∀(text:List UInt8) (at_:Int),(bg text at_)->
 (0<at_->AQ (at_-1))/\
 (0<at_->0<=at_-1)/\
 (0<at_->at_-1<(↑text.length:Int))/\
 (0<at_->True)/\
 (0<at_/\bo (HZ (↑(gt text (at_-1)).toNat:Int))=true->[]=J_ text at_)/\
 (¬(0<at_/\bo (HZ (↑(gt text (at_-1)).toNat:Int))=true)->
 ∃(I:Int->Prop),
 ∃(m:Int->Nat),
 I at_/\
 ∀(endQ:Int),
 I endQ->
 (endQ<(↑text.length:Int)->0<=endQ)/\
 (endQ<(↑text.length:Int)->endQ<(↑text.length:Int))/\
 (endQ<(↑text.length:Int)->True)/\
 (endQ<(↑text.length:Int)/\bo (HZ (↑(gt text endQ).toNat:Int))=true->
 AQ (endQ+1)/\I (endQ+1)/\m (endQ+1)<m endQ)/\
 (¬(endQ<(↑text.length:Int)/\bo (HZ (↑(gt text endQ).toNat:Int))=true)->
 AQ (endQ-at_)/\
 (12<endQ-at_->[]=J_ text at_)/\
 (¬12<endQ-at_->
 0<=at_/\
 at_<=endQ/\
 endQ<=(↑text.length:Int)/\
 List.drop at_.toNat (List.take endQ.toNat text)=J_ text at_)))):
 BV Tryz.prog D4 Hf:=⟨Pu.Hs rfl,fun x hx=>
 DU hC (L:=[]) (trivial) Pu (ct:=Hf) (depth:=0) rfl (by kernel_rfl) x (H (@id (List UInt8×Int) x).1 (@id (List UInt8×Int) x).2 (IP hx (by kernel_rfl))) (by kernel_rfl)⟩
theorem TT (hC:Cons Tryz.prog [(D4,Hf)])
 (H: ∀(text:List UInt8) (word:List UInt8),(Hw text/\Hw word)->
 (¬word=[]->bg word 0)/\
 (word=[]\/J_ word 0≠word->[]=(CP text word).1/\4=(CP text word).2)/\
 (¬(word=[]\/J_ word 0≠word)->
 (600<(↑text.length:Int)->[]=(CP text word).1/\1=(CP text word).2)/\
 (¬600<(↑text.length:Int)->
 ∃(I:Int->List Int->Prop),
 ∃(m:Int->List Int->Nat),
 I 0 []/\
 ∀(x:Int) (out:List Int),
 I x out->
 (x<(↑text.length:Int)->
 bg text x/\
 (J_ text x=word->
 (out.length+1)*8<=140737488355328/\
 AQ (x+1)/\I (x+1) (out++[x])/\m (x+1) (out++[x])<m x out)/\
 (¬J_ text x=word->AQ (x+1)/\I (x+1) out/\m (x+1) out<m x out))/\
 (¬x<(↑text.length:Int)->out=(CP text word).1/\0=(CP text word).2)))):
 BV Tryz.prog B_ Eb:=⟨MQ.Hs rfl,fun x hx=>
 DU hC (L:=[]) (trivial) MQ (ct:=Eb) (depth:=0) rfl (by kernel_rfl) x (H (@id (List UInt8×List UInt8) x).1 (@id (List UInt8×List UInt8) x).2 (IP hx (by kernel_rfl))) (by kernel_rfl)⟩
theorem Uz (hC:Cons Tryz.prog [])
 (H: ∀(text:List UInt8),(text.length<=1000000)->
 ∃(I:Int->List (List UInt8)->Prop),
 ∃(m:Int->List (List UInt8)->Nat),
 I 0 [[]]/\
 ∀(i:Int) (out:List (List UInt8)),
 I i out->
 (i<(↑text.length:Int)->
 0<=i/\
 i<(↑text.length:Int)/\
 ((↑(gt text i).toNat:Int)=10->
 (out.length+1)*16<=140737488355328/\
 AQ (i+1)/\I (i+1) (out++[[]])/\m (i+1) (out++[[]])<m i out)/\
 (¬(↑(gt text i).toNat:Int)=10->
 AQ ((↑out.length:Int)-1)/\
 0<=(↑out.length:Int)-1/\
 (↑out.length:Int)-1<(↑out.length:Int)/\
 AQ (i+1)/\
 0<=i/\
 i<=i+1/\
 i+1<=(↑text.length:Int)/\
 AQ
 ((↑(gt out ((↑out.length:Int)-1)).length:Int)+
 (↑(List.drop i.toNat (List.take (i+1).toNat text)).length:Int))/\
 0<=(↑out.length:Int)-1/\
 (↑out.length:Int)-1<(↑out.length:Int)/\
 AQ (i+1)/\
 I (i+1)
 (out.set ((↑out.length:Int)-1).toNat
 (gt out ((↑out.length:Int)-1)++
 List.drop i.toNat (List.take (i+1).toNat text)))/\
 m (i+1)
 (out.set ((↑out.length:Int)-1).toNat
 (gt out ((↑out.length:Int)-1)++
 List.drop i.toNat (List.take (i+1).toNat text)))<
 m i out))/\
 (¬i<(↑text.length:Int)->out=AH text)):
 BV Tryz.prog Db GA:=⟨NV.Hs rfl,fun x hx=>
 DU hC (L:=[]) (trivial) NV (ct:=GA) (depth:=0) rfl (by kernel_rfl) x (H (@id (List UInt8) x) (IP hx (by kernel_rfl))) (by kernel_rfl)⟩
theorem Xp (hC:Cons Tryz.prog [])
 (H: ∀(text:List UInt8),(Hw text)->
 AQ ((↑text.length:Int)-(1:Int))/\
 ∃(I:Int->Int->Int->Prop),
 ∃(m:Int->Int->Int->Nat),
 ((0:Int)=(0:Int)/\(0:Int)=(0:Int)/\I (1:Int) (0:Int) ((↑text.length:Int)-(1:Int)))/\
 ∀(power sum i:Int),
 I power sum i->
 ((0:Int)<=i->
 (0:Int)<=i/\
 i<(↑text.length:Int)/\
 AQ ((↑(gt text i).toNat:Int)+(1:Int))/\
 AQ (((↑(gt text i).toNat:Int)+(1:Int))*power)/\
 AQ (sum+((↑(gt text i).toNat:Int)+(1:Int))*power)/\
 (2147483647:Int)≠(0:Int)/\
 AQ (power*(257:Int))/\
 (2147483647:Int)≠(0:Int)/\
 AQ (i-(1:Int))/\
 (0:Int)=(0:Int)/\
 (0:Int)=(0:Int)/\
 I ((power*(257:Int)).tmod (2147483647:Int))
 ((sum+((↑(gt text i).toNat:Int)+(1:Int))*power).tmod
 (2147483647:Int))
 (i-(1:Int))/\
 m ((power*(257:Int)).tmod (2147483647:Int))
 ((sum+((↑(gt text i).toNat:Int)+(1:Int))*power).tmod
 (2147483647:Int))
 (i-(1:Int))<
 m power sum i)/\
 (¬(0:Int)<=i->(sum,power)=BJ text)):
 BV Tryz.prog ET Hc:=⟨Ps.Hs rfl,fun x hx=>
 DU hC (L:=[]) (trivial) Ps (ct:=Hc) (depth:=0) rfl (by kernel_rfl) x (H (@id (List UInt8) x) (IP hx (by kernel_rfl))) (by kernel_rfl)⟩
theorem TP (hC:Cons Tryz.prog [(Db,GA),(ET,Hc)])
 (H: ∀(text:List UInt8),(True)->
 (600<(↑text.length:Int)->[]=(EY text).1/\1=(EY text).2)/\
 (¬600<(↑text.length:Int)->
 text.length<=1000000/\
 ∃(I:Int->List Int->Prop),
 ∃(m:Int->List Int->Nat),
 (AH text=AH text/\I 0 [])/\
 ∀(x:Int) (out:List Int),
 I x out->
 (x<(↑(AH text).length:Int)->
 0<=x/\
 x<(↑(AH text).length:Int)/\
 Hw (gt (AH text) x)/\
 (out.length+1)*8<=140737488355328/\
 AQ (x+1)/\
 AH text=AH text/\
 I (x+1) (out++[(BJ (gt (AH text) x)).1])/\
 m (x+1) (out++[(BJ (gt (AH text) x)).1])<m x out)/\
 (¬x<(↑(AH text).length:Int)->out=(EY text).1/\0=(EY text).2))):
 BV Tryz.prog B9 Ea:=⟨MP.Hs rfl,fun x hx=>
 DU hC (L:=[]) (trivial) MP (ct:=Ea) (depth:=0) rfl (by kernel_rfl) x (H (@id (List UInt8) x) (IP hx (by kernel_rfl))) (by kernel_rfl)⟩
theorem Sv (hC:Cons Tryz.prog [])
 (H: ∀(a:List (List UInt8)) (b:List (List UInt8)),(Gg a/\Gg b)->
 ((↑a.length:Int)≠(↑b.length:Int)->false=bo (a=b))/\
 (¬(↑a.length:Int)≠(↑b.length:Int)->
 ∃(I:Int->Prop),
 ∃(m:Int->Nat),
 I 0/\
 ∀(i:Int),
 I i->
 (i<(↑a.length:Int)->
 0<=i/\
 i<(↑a.length:Int)/\
 0<=i/\
 i<(↑b.length:Int)/\
 (gt a i≠gt b i->false=bo (a=b))/\
 (¬gt a i≠gt b i->AQ (i+1)/\I (i+1)/\m (i+1)<m i))/\
 (¬i<(↑a.length:Int)->true=bo (a=b)))):
 BV Tryz.prog DJ Ff:=⟨MD.Hs rfl,fun x hx=>
 DU hC (L:=[]) (trivial) MD (ct:=Ff) (depth:=0) rfl (by kernel_rfl) x (H (@id (List (List UInt8)×List (List UInt8)) x).1 (@id (List (List UInt8)×List (List UInt8)) x).2 (IP hx (by kernel_rfl))) (by kernel_rfl)⟩
theorem Uq (hC:Cons Tryz.prog [])
 (H: ∀(a:List Int) (b:List Int),(Gg a/\Gg b)->
 ((↑a.length:Int)≠(↑b.length:Int)->false=bo (a=b))/\
 (¬(↑a.length:Int)≠(↑b.length:Int)->
 ∃(I:Int->Prop),
 ∃(m:Int->Nat),
 I 0/\
 ∀(i:Int),
 I i->
 (i<(↑a.length:Int)->
 0<=i/\
 i<(↑a.length:Int)/\
 0<=i/\
 i<(↑b.length:Int)/\
 (gt a i≠gt b i->false=bo (a=b))/\
 (¬gt a i≠gt b i->AQ (i+1)/\I (i+1)/\m (i+1)<m i))/\
 (¬i<(↑a.length:Int)->true=bo (a=b)))):
 BV Tryz.prog Da F8:=⟨NP.Hs rfl,fun x hx=>
 DU hC (L:=[]) (trivial) NP (ct:=F8) (depth:=0) rfl (by kernel_rfl) x (H (@id (List Int×List Int) x).1 (@id (List Int×List Int) x).2 (IP hx (by kernel_rfl))) (by kernel_rfl)⟩
theorem QJ (hC:Cons Tryz.prog [(DW,Ib),(B1,FT),(DJ,Ff),(Da,F8)])
 (H: ∀(text:List UInt8) (l:List (Int×(Int×Int×Int×List UInt8)×Int×Int×List UInt8)),(text.length.le 140737488351232/\
 l.length<=140737488351232/\
 ∀(x:Int×(Int×Int×Int×List UInt8)×Int×Int×List UInt8),
 List.Mem x l->
 (IntKind.i64.min<=x.1/\x.1<=IntKind.i64.max)/\
 ((IntKind.i64.min<=x.2.1.1/\x.2.1.1<=IntKind.i64.max)/\
 (IntKind.i64.min<=x.2.1.2.1/\x.2.1.2.1<=IntKind.i64.max)/\
 (IntKind.i64.min<=x.2.1.2.2.1/\x.2.1.2.2.1<=IntKind.i64.max)/\
 x.2.1.2.2.2.length.le 140737488351232)/\
 (IntKind.i64.min<=x.2.2.1/\x.2.2.1<=IntKind.i64.max)/\
 (IntKind.i64.min<=x.2.2.2.1/\x.2.2.2.1<=IntKind.i64.max)/\x.2.2.2.2.length.le 140737488351232)->
 Nx text l/\
 Nx text l/\
 (¬((↑(AM text l).1.length:Int)≠(↑(AJ text l).1.length:Int)\/
 (AM text l).2.2≠(AJ text l).2.2.2)->
 Gg (AM text l).2.1/\Gg (AJ text l).2.1)/\
 (((↑(AM text l).1.length:Int)≠(↑(AJ text l).1.length:Int)\/
 (AM text l).2.2≠(AJ text l).2.2.2)\/
 ¬bo ((AM text l).2.1=(AJ text l).2.1)=true->
 false=true)/\
 (¬(((↑(AM text l).1.length:Int)≠(↑(AJ text l).1.length:Int)\/
 (AM text l).2.2≠(AJ text l).2.2.2)\/
 ¬bo ((AM text l).2.1=(AJ text l).2.1)=true)->
 ∃(I:Bool->Int->Prop),
 ∃(m:Bool->Int->Nat),
 I false 0/\
 ∀(full:Bool) (i:Int),
 I full i->
 (i<(↑(AM text l).1.length:Int)->
 0<=i/\
 i<(↑(AM text l).1.length:Int)/\
 0<=i/\
 i<(↑(AJ text l).1.length:Int)/\
 ((gt (AJ text l).1 i).2.1= -1/\
 (gt (AJ text l).1 i).1=0->
 (¬((gt (AM text l).1 i).2.1≠0/\
 (gt (AM text l).1 i).2.1≠1)->
 0<=i)/\
 (¬((gt (AM text l).1 i).2.1≠0/\
 (gt (AM text l).1 i).2.1≠1)->
 i<(↑(AJ text l).2.2.1.length:Int))/\
 (((gt (AM text l).1 i).2.1≠0/\
 (gt (AM text l).1 i).2.1≠1\/
 gt (AJ text l).2.2.1 i=true/\
 (gt (AM text l).1 i).2.1≠1)\/
 full=true/\(gt (AM text l).1 i).2.1≠1->
 false=true)/\
 (¬(((gt (AM text l).1 i).2.1≠0/\
 (gt (AM text l).1 i).2.1≠1\/
 gt (AJ text l).2.2.1 i=true/\
 (gt (AM text l).1 i).2.1≠1)\/
 full=true/\(gt (AM text l).1 i).2.1≠1)->
 0<=i/\
 i<(↑l.length:Int)/\
 (¬((((gt (AM text l).1 i).1≠
 (gt (AJ text l).1 i).1\/
 (gt (AM text l).1 i).2.1≠
 (gt (AM text l).1 i).2.1)\/
 (gt (AM text l).1 i).2.2.1≠
 (gt (AJ text l).1 i).2.2.1)\/
 (gt (AM text l).1 i).2.2.2.2≠
 (gt (AJ text l).1 i).2.2.2.2)->
 Gg (gt (AM text l).1 i).2.2.2.1/\
 Gg (gt (AJ text l).1 i).2.2.2.1)/\
 (((((gt (AM text l).1 i).1≠
 (gt (AJ text l).1 i).1\/
 (gt (AM text l).1 i).2.1≠
 (gt (AM text l).1 i).2.1)\/
 (gt (AM text l).1 i).2.2.1≠
 (gt (AJ text l).1 i).2.2.1)\/
 (gt (AM text l).1 i).2.2.2.2≠
 (gt (AJ text l).1 i).2.2.2.2)\/
 ¬bo
 ((gt (AM text l).1 i).2.2.2.1=
 (gt (AJ text l).1 i).2.2.2.1)=
 true->
 false=true)/\
 (¬(((((gt (AM text l).1 i).1≠
 (gt (AJ text l).1 i).1\/
 (gt (AM text l).1 i).2.1≠
 (gt (AM text l).1 i).2.1)\/
 (gt (AM text l).1 i).2.2.1≠
 (gt (AJ text l).1 i).2.2.1)\/
 (gt (AM text l).1 i).2.2.2.2≠
 (gt (AJ text l).1 i).2.2.2.2)\/
 ¬bo
 ((gt (AM text l).1 i).2.2.2.1=
 (gt (AJ text l).1 i).2.2.2.1)=
 true)->
 AQ (i+1)/\
 I
 (bo
 (¬((gt l i).1=1/\
 (gt (AJ text l).1 i).1=0)/\
 (gt (AM text l).1 i).2.1=1))
 (i+1)/\
 m
 (bo
 (¬((gt l i).1=1/\
 (gt (AJ text l).1 i).1=0)/\
 (gt (AM text l).1 i).2.1=1))
 (i+1)<
 m full i)))/\
 (¬((gt (AJ text l).1 i).2.1= -1/\
 (gt (AJ text l).1 i).1=0)->
 0<=i/\
 i<(↑l.length:Int)/\
 (¬((((gt (AM text l).1 i).1≠(gt (AJ text l).1 i).1\/
 (gt (AM text l).1 i).2.1≠
 (gt (AJ text l).1 i).2.1)\/
 (gt (AM text l).1 i).2.2.1≠
 (gt (AJ text l).1 i).2.2.1)\/
 (gt (AM text l).1 i).2.2.2.2≠
 (gt (AJ text l).1 i).2.2.2.2)->
 Gg (gt (AM text l).1 i).2.2.2.1/\
 Gg (gt (AJ text l).1 i).2.2.2.1)/\
 (((((gt (AM text l).1 i).1≠
 (gt (AJ text l).1 i).1\/
 (gt (AM text l).1 i).2.1≠
 (gt (AJ text l).1 i).2.1)\/
 (gt (AM text l).1 i).2.2.1≠
 (gt (AJ text l).1 i).2.2.1)\/
 (gt (AM text l).1 i).2.2.2.2≠
 (gt (AJ text l).1 i).2.2.2.2)\/
 ¬bo
 ((gt (AM text l).1 i).2.2.2.1=
 (gt (AJ text l).1 i).2.2.2.1)=
 true->
 false=true)/\
 (¬(((((gt (AM text l).1 i).1≠
 (gt (AJ text l).1 i).1\/
 (gt (AM text l).1 i).2.1≠
 (gt (AJ text l).1 i).2.1)\/
 (gt (AM text l).1 i).2.2.1≠
 (gt (AJ text l).1 i).2.2.1)\/
 (gt (AM text l).1 i).2.2.2.2≠
 (gt (AJ text l).1 i).2.2.2.2)\/
 ¬bo
 ((gt (AM text l).1 i).2.2.2.1=
 (gt (AJ text l).1 i).2.2.2.1)=
 true)->
 AQ (i+1)/\
 I
 (bo
 (¬((gt l i).1=1/\(gt (AJ text l).1 i).1=0)/\
 full=true))
 (i+1)/\
 m
 (bo
 (¬((gt l i).1=1/\
 (gt (AJ text l).1 i).1=0)/\
 full=true))
 (i+1)<
 m full i)))/\
 (¬i<(↑(AM text l).1.length:Int)->true=true))):
 BV Tryz.prog EF law_EnginePlays_ct:=⟨Kd.Hs rfl,fun x hx=>
 DU hC (L:=[]) (trivial) Kd (ct:=law_EnginePlays_ct) (depth:=0) rfl (by kernel_rfl) x (H (@id (List UInt8×(List (Int×(Int×Int×Int×List UInt8)×Int×Int×List UInt8))) x).1 (@id (List UInt8×(List (Int×(Int×Int×Int×List UInt8)×Int×Int×List UInt8))) x).2 (IP hx (by kernel_rfl))) (by kernel_rfl)⟩
end Go.Proofs.YtlibocgedgdmlaaGreat
end
section
set_option maxRecDepth 100000
namespace Go.Proofs.YtlibocgedgdmlaaGreat
open Go.Vc Go.Fu
theorem XV:Cons Tryz.prog []:=trivial
theorem Vq:BV Tryz.prog B8 C0:=XW XV fun size e ⟨h1,h2,h3,h4⟩=>(by
 simp only [D5,Hw,BX] at*;refine ⟨fun h=>by omega,fun h=>?_,fun h=>⟨by omega,by omega,fun g=>?_,fun g=>?_⟩⟩
 ·rw [if_pos (by omega)]
 ·rw [if_neg (by omega),if_pos (by omega)]
 ·rw [if_neg (by omega),if_neg (by omega)])
theorem Zu:Cons Tryz.prog []:=trivial
theorem XX:BV Tryz.prog BU CR:=Zv Zu fun s e h=>by
 have h':=Bs.1 h;have e1:List.take ((s.length:Int)).toNat s=s:=List.take_of_length_le (by omega);simp only [D5,true_and,and_true,ne_eq,Int.reduceEq,not_false_eq_true,Int.toNat_zero,e1,List.drop_zero,List.length_append,List.length_take,List.length_drop,AY];exact ⟨by omega,by omega,by omega,by omega,by omega,by omega,by omega,by omega,by omega⟩
theorem Zx:Cons Tryz.prog []:=trivial
theorem XY:BV Tryz.prog CZ DZ:=Zy Zx fun s e h=>by
 have h':=Bs.1 h;simp only [D5,true_and,and_true,ne_eq,Int.reduceEq,not_false_eq_true,Int.toNat_zero];exact ⟨by omega,by omega,by omega,by omega,rfl⟩
theorem YE:Cons Tryz.prog []:=trivial
theorem Kx:BV Tryz.prog BB Bi:=YF YE fun c h=>by
 exact VZ (by unfold HZ;omega)
theorem VC:Cons Tryz.prog [(BB,Bi)]:=⟨Kx,trivial⟩
theorem Tt:BV Tryz.prog BN CV:=VD VC fun s lo hi h=>by
 obtain ⟨h0,h1,h2,h3⟩:=h;have h0:s.length<=140737488351232:=h0;have pb: ∀c:UInt8,(bo (HZ (c.toNat:Int))=true)↔N6 c=true:=fun c=>by rw [Gu,MK]
 simp only [pb];refine ⟨fun x=>0<=x/\x<=lo/\Mr s lo.toNat=Mr s x.toNat,fun x=>x.toNat,⟨h1,Int.le_refl _,rfl⟩,fun x ⟨x0,x1,x2⟩=>?_⟩;dsimp only;refine ⟨fun q=>by unfold AQ;omega,fun q=>by omega,fun q=>by omega,fun _=>trivial,fun ⟨q,hp⟩=>⟨by unfold AQ;omega,⟨by omega,by omega,?_⟩,by omega⟩,fun hn=>?_⟩
 ·rw [x2,show x.toNat=(x-1).toNat+1 by omega]
  conv=>lhs;unfold Mr
  rw [if_pos (by rw [show (((x-1).toNat:Nat):Int)=x-1 by omega];exact hp)]
 ·have e1:Mr s lo.toNat=x.toNat:=by
   rw [x2];by_cases z:0<x
   ·have hp: ¬N6 (gt s (x-1))=true:=fun q=>hn ⟨z,q⟩;rw [show x.toNat=(x-1).toNat+1 by omega];unfold Mr;rw [if_neg (by rw [show (((x-1).toNat:Nat):Int)=x-1 by omega];exact hp)]
   ·rw [show x.toNat=0 by omega];rfl
  have hr:=Ir s hi.toNat;refine ⟨fun y=>hi<=y/\y<=s.length/\ ∀j:Nat,hi.toNat+j<y.toNat->N6 (gt s ((hi.toNat+j:Nat):Int))=true,fun y=>(s.length-y).toNat,⟨Int.le_refl _,h3,fun j hj=>by omega⟩,fun y ⟨y0,y1,y2⟩=>?_⟩;dsimp only;refine ⟨fun q=>by omega,fun q=>q,fun _=>trivial,fun ⟨q,hp⟩=>⟨by unfold AQ;omega,⟨by omega,by omega,fun j hj=>?_⟩,by omega⟩,fun hn2=>?_⟩
  ·by_cases c:hi.toNat+j=y.toNat
   ·rw [c,show ((y.toNat:Nat):Int)=y by omega];exact hp
   ·exact y2 j (by omega)
  ·unfold Zf Le;dsimp only;have e2:CC s hi.toNat=y.toNat-hi.toNat:=run_eq (by omega) (fun j hj=>y2 j (by omega)) (by
    by_cases z:y<s.length
    ·right;rw [show ((hi.toNat+(y.toNat-hi.toNat):Nat):Int)=y by omega];have:=fun q=>hn2 ⟨z,q⟩;simpa using this
    ·left;omega)
   rw [e1,e2];omega
theorem HN:Cons Tryz.prog []:=trivial
theorem G8:BV Tryz.prog Ah BW:=HO HN fun s hs nl hn=>by
 refine ⟨fun c=>?_,fun c=>⟨by simp only [pQ] at hs;omega,rfl⟩⟩;have:=hn c;exact (List.length_eq_zero_iff.1 (by omega)).symm
theorem Ti:Cons Tryz.prog [(Ah,BW)]:=⟨G8,trivial⟩
theorem SA:BV Tryz.prog A9 JL:=Tj Ti fun l s ⟨⟨hl,hp⟩,hs⟩=>by
 simp only [D5,true_and,and_true,ne_eq,Int.reduceEq,not_false_eq_true,Int.toNat_zero,Wj,Classical.not_not] at*;refine ⟨fun x out=>0<=x/\x<=l.length/\out=CT (l.take x.toNat) s,fun x _=>(l.length-x).toNat,⟨by omega,by omega,by simp [CT]⟩,?_⟩;rintro x out ⟨h0,h1,h2⟩;dsimp only;have ol:out.length=2*x.toNat:=by rw [h2,tm,List.length_take];omega
 refine ⟨fun t=>⟨h0,t,by omega,by omega,⟨by omega,by omega,by rw [qm h0 t,h2]⟩,by omega⟩,fun t=>⟨fun e=>⟨by simp only [pQ];omega,gY e hp⟩,fun e=>?_⟩⟩;have ho:out=CT l s:=by rw [h2,List.take_of_length_le (by omega)]
 have hlt:s.1<s.2:=by obtain ⟨_,h,_⟩:=hs;omega
 have res:Fs out=Aq l s:=by rw [ho];exact lr hlt hp
 refine ⟨fun x=>0<=x/\x<=out.length/\ ∀j:Int,0<=j->j<x->(gt out j).1<(gt out j).2,fun x=>(out.length-x).toNat,⟨by omega,by omega,fun j a b=>by omega⟩,?_⟩;rintro x ⟨g0,g1,g2⟩;dsimp only;refine ⟨fun u=>⟨g0,u,fun v=>⟨fun c=>by omega,fun _=>⟨by omega,fun i j s'=>thin out s' i j,fun _ j _=>(out.length-j).toNat,jh g0 u g2 (by omega),?_⟩⟩,fun v=>⟨by omega,⟨by omega,by omega,fun j a b=>?_⟩,by omega⟩⟩,fun u=>⟨fun _=>?_,fun c=>by simp at c⟩⟩
 ·rintro i j s' h;have h':=h;obtain ⟨k1,k2,k3,k4,k5,k6⟩:=h';dsimp only;refine ⟨fun w=>⟨by omega,w,fun b=>⟨k1,by omega,by omega,by omega,ny h (by omega) (by omega),by omega⟩,fun b=>⟨by omega,nw h (by omega) (by omega),by omega⟩⟩,fun w=>⟨k1,by omega,by omega,by omega,k1,by simp only [List.length_append,List.length_take,List.length_replicate,List.length_drop];omega,?_⟩⟩;rw [<-res,<-rL h (by omega),Int.sub_zero,List.append_assoc,List.take_append_of_le_length (by simp;omega),List.take_of_length_le (by simp;omega)]
 ·by_cases e:j=x
  ·subst e;omega
  ·exact g2 j a (by omega)
 ·rw [<-res,UM];intro j a b;exact g2 j a (by omega)
theorem Kt:BV Tryz.prog A9 Ci:=BV.frozen SA
theorem U6:Cons Tryz.prog []:=trivial
theorem MX:BV Tryz.prog Dc DK:=U7 U6 fun l ha=>by
 have hl:l.length<=100001:=ha.1;refine ⟨fun x out=>0<=x/\x<=l.length/\Jn l x out,fun x _=>(l.length-x).toNat,⟨by omega,by omega,.init l⟩,?_⟩;rintro x out ⟨x0,x1,h⟩;have ol:=h.len;dsimp only;refine ⟨fun t=>⟨x0,t,fun e=>⟨by unfold AQ;omega,⟨by omega,by omega,h.skip x0 t e⟩,by omega⟩,fun e=>⟨fun _=>by unfold AQ;omega,fun _=>by omega,fun _=>by omega,fun c=>?_,fun c=>?_⟩⟩,fun t=>h.fin t⟩
 ·have c0:=c.1;exact ⟨by unfold AQ;omega,by unfold AQ;omega,by omega,by omega,by omega,by omega,by unfold AQ;omega,⟨by omega,by omega,h.more ha x0 t (by omega) c.2⟩,by omega⟩
 ·exact ⟨by omega,by unfold AQ;omega,⟨by omega,by omega,h.next ha x0 t e fun q=>c ⟨by omega,q.2⟩⟩,by omega⟩
theorem OZ:BV Tryz.prog Bv DG:=rY id MX
theorem Tf:Cons Tryz.prog [(A9,Ci),(Dc,DK),(Bv,DG)]:=⟨Kt,MX,OZ,trivial⟩
theorem R7:BV Tryz.prog Bf C5:=Tg Tf fun l e ⟨size,ok,f⟩=>by
 simp only [D5,true_and,and_true,ne_eq,Int.reduceEq,not_false_eq_true,Int.toNat_zero,Wj] at*;have m:=Bs.1 (show Bg size e from f);obtain ⟨u1,u2,u3⟩:=WE ok f;obtain ⟨k1,k2,k3,k4⟩:=jX ok f;generalize hW:Aq l (e.1,e.1+e.2.1)=W at*;refine ⟨by omega,⟨ok.pre,m.2.2.1,by show e.1<=e.1+e.2.1;omega,by show e.1+e.2.1<=1000000;omega⟩,fun x out=>0<=x/\x<=W.length/\out=Gn e (W.take x.toNat),fun x _=>(W.length-x).toNat,⟨by omega,by omega,by simp [Gn]⟩,?_⟩;rintro x out ⟨h0,h1,h2⟩;dsimp only;have ol:out.length<=2*x.toNat:=by
  have:=Tb e (W.take x.toNat);rw [h2];simp only [List.length_take] at this;omega
 refine ⟨fun t=>?_,fun t=>?_⟩
 ·have b:=u1 _ (N5 h0 t);have hs:=jW (e:=e) h0 t;have b':=b;obtain ⟨a1,a2,a3,a4,a5,a6,a7,a8⟩:=b';unfold JK at hs;refine ⟨h0,t,fun c=>?_,fun c=>?_⟩
  ·rw [if_pos c] at hs;refine ⟨by omega,fun _=>⟨by omega,by omega,by omega,by simp only [List.length_append,List.length_singleton];omega,by omega,⟨by omega,by omega,?_⟩,by omega⟩,fun q=>absurd (Int.le_refl _) q⟩;rw [hs,h2,List.append_assoc];rfl
  ·rw [if_neg c] at hs;refine ⟨fun d=>?_,fun d=>?_⟩
   ·rw [if_pos d] at hs;exact ⟨by omega,by omega,by omega,by omega,by omega,⟨by omega,by omega,by rw [hs,h2]⟩,by omega⟩
   ·rw [if_neg d] at hs;exact ⟨by omega,by omega,⟨by omega,by omega,by rw [hs,h2]⟩,by omega⟩
 ·rw [List.take_of_length_le (by omega)] at h2;subst h2;exact ⟨by omega,k1,⟨k2,k3⟩,k4⟩
theorem aS:Cons Tryz.prog []:=trivial
theorem Xh:BV Tryz.prog FA Ii:=aT aS fun l hl=>by
 simp only [D5,true_and,and_true,ne_eq,Int.reduceEq,not_false_eq_true,Int.toNat_zero,Gg,RE,ow,FI] at*;refine ⟨fun x=>0<=x/\x<=l.length/\ ∀i,0<i->i<x->gt l (i-1)<gt l i,fun x=>(l.length-x).toNat,⟨by omega,by omega,fun i a b=>by omega⟩,?_⟩;rintro x ⟨h0,h1,h2⟩;dsimp only;refine ⟨fun t=>⟨h0,t,fun _=>by omega,fun _=>by omega,fun _=>by omega,fun u q=>?_,fun u=>⟨by omega,⟨by omega,by omega,fun i a b=>?_⟩,by omega⟩⟩,fun t=>⟨fun _=>by omega,fun _=>by omega,fun _=>by omega,fun _=>by omega,fun _=>by omega,?_⟩⟩
 ·have:=q.2.2.1 x u.1 t;omega
 ·by_cases e:i=x
  ·rw [e];omega
  ·exact h2 i a (by omega)
 ·have e: ¬l=[]↔0<(l.length:Int):=by rw [<-ne_eq,<-List.length_pos_iff];omega
  rw [e];exact ⟨fun ⟨⟨a,b⟩,c⟩=>⟨a,b,fun i p q=>h2 i p (by omega),c⟩,fun ⟨a,b,_,c⟩=>⟨⟨a,b⟩,c⟩⟩
theorem Xf:Cons Tryz.prog [(FA,Ii)]:=⟨Xh,trivial⟩
theorem WL:BV Tryz.prog Bu DX:=Xg Xf fun l at_ hl=>by
 simp only [D5,true_and,and_true,ne_eq,Int.reduceEq,not_false_eq_true,Int.toNat_zero,E7,Gu];refine ⟨hl,fun q=>by rw [HX q];exact ⟨rfl,rfl⟩,fun q=>?_⟩;rw [HW q];have ok:=Classical.byContradiction q;simp only [FI] at ok;obtain ⟨o1,o2,o3,o4⟩:=ok;have hl':l.length<=140737488351232:=hl;have hlen:0<l.length:=List.length_pos_iff.2 o1;refine ⟨fun r=>by rw [if_pos r];exact ⟨rfl,rfl⟩,fun r=>?_⟩;rw [if_neg r];refine ⟨fun i j f g=>f=l/\g=at_/\0<=i/\i<=j/\j<=l.length/\(∀k,0<=k->k<i->gt l k<=at_)/\(∀k,j<=k->k<l.length->at_<gt l k),fun i j _ _=>(j-i).toNat,⟨rfl,rfl,by omega,by omega,by omega,fun k a b=>by omega,fun k a b=>by omega⟩,?_⟩;rintro i j f g ⟨rfl,rfl,h0,h1,h2,h3,h4⟩;dsimp only;refine ⟨fun t=>?_,fun t=>?_⟩
 ·rw [V5 (by omega) (by omega)];have hm:i<=(i+j)/2/\(i+j)/2<j:=by omega
  generalize (i+j)/2=h at*;refine ⟨by omega,by omega,by omega,by omega,by omega,fun u=>⟨by omega,⟨rfl,rfl,by omega,by omega,h2,fun k a b=>?_,h4⟩,by omega⟩,fun u=>⟨⟨rfl,rfl,h0,by omega,by omega,h3,fun k a b=>?_⟩,by omega⟩⟩
  ·by_cases e:k=h
   ·rw [e];omega
   ·have:=PD o3 (i:=k) (j:=h) a (by omega) (by omega);omega
  ·by_cases e:k=h
   ·rw [e];omega
   ·have:=PD o3 (i:=h) (j:=k) (by omega) (by omega) b;omega
 ·have e:i=j:=by omega
  subst e;rw [mZ h0 h2 h3 fun h=>h4 i (by omega) h];exact ⟨by omega,rfl,rfl⟩
theorem nU:Cons Tryz.prog []:=trivial
theorem jP:BV Tryz.prog FB GG:=nV nU fun s hs=>by
 simp only [D5,true_and,and_true,ne_eq,Int.reduceEq,not_false_eq_true,Int.toNat_zero,uE] at*;refine ⟨fun c=>by omega,fun _=>⟨fun _=>⟨by omega,by omega,by omega,fun i=> -1<=i/\i<s.length/\ ∀j:Int,i<j->j<s.length->gt s j≠10,fun i=>(i+1).toNat,⟨by omega,by omega,fun j a b=>by omega⟩,?_⟩,fun c=>by omega⟩⟩;rintro i ⟨h0,h1,h2⟩;dsimp only;have bd:=Im s;have ec:(↑(Lib.countByte s (gt [(10:UInt8)] 0)):Int)=(posOf s).2.1:=(eX s).symm;refine ⟨fun t=>⟨t,h1,fun u=>⟨by omega,by omega,?_⟩,fun u=>⟨by omega,⟨by omega,by omega,fun j a b=>?_⟩,by omega⟩⟩,fun t=>⟨by omega,by omega,?_⟩⟩
 ·rw [ec,<-jM t h1 u h2,<-bd.1]
 ·by_cases e:j=i
  ·rw [e];exact u
  ·exact h2 j (by omega) b
 ·have:=jO fun j a b=>h2 j (by omega) b;rw [ec,show (s.length:Int)- -1-1=s.length by omega];refine Prod.ext ?_ (Prod.ext rfl ?_)
  ·exact bd.1.symm
  ·exact this.symm
theorem QW:Cons Tryz.prog []:=trivial
theorem PQ:BV Tryz.prog CE El:=QX QW fun l n ⟨hl,hp⟩=>by
 simp only [D5,true_and,and_true,ne_eq,Int.reduceEq,not_false_eq_true,Int.toNat_zero,Gg,TZ] at*;refine ⟨fun i j f g=>f=l/\g=n/\0<=i/\i<=j/\j<=l.length/\(∀k,0<=k->k<i->gt l k<n)/\(∀k,j<=k->k<l.length->n<=gt l k),fun i j _ _=>(j-i).toNat,⟨rfl,rfl,by omega,by omega,by omega,fun k a b=>by omega,fun k a b=>by omega⟩,?_⟩;rintro i j f g ⟨rfl,rfl,h0,h1,h2,h3,h4⟩;dsimp only;refine ⟨fun t=>?_,fun t=>?_⟩
 ·have hu:=V5 (a:=i+j) (by omega) (by omega);simp only [Int.toNat_one] at hu |-;rw [hu];have hm:i<=(i+j)/2/\(i+j)/2<j:=by omega
  generalize (i+j)/2=h at*;refine ⟨by omega,by omega,by omega,by omega,by omega,fun u=>⟨by omega,⟨by trivial,by trivial,by omega,by omega,h2,fun k a b=>?_,h4⟩,by omega⟩,fun u=>⟨⟨by trivial,by trivial,h0,by omega,by omega,h3,fun k a b=>?_⟩,by omega⟩⟩
  ·by_cases e:k=h
   ·rw [e];omega
   ·have:=al hp (i:=k) (j:=h) a (by omega) (by omega);omega
  ·by_cases e:k=h
   ·rw [e];omega
   ·have:=al hp (i:=h) (j:=k) (by omega) (by omega) b;omega
 ·exact (fD h0 (by omega) h3 fun t=>h4 i (by omega) t).symm
theorem Sy:Cons Tryz.prog [(CE,El)]:=⟨PQ,trivial⟩
theorem RX:BV Tryz.prog BT C4:=S5 Sy fun l e ⟨hs,hl,hu⟩=>by
 have hr:TZ l:=fP hs.2.2.1;have ln:=Qb hs;have et:List.take ((l.length:Int)).toNat l=l:=List.take_of_length_le (by omega);have b1:=ZH l (e.1+1);have b2:=ZH l (e.1+e.2.1+1);simp only [D5,true_and,and_true,ne_eq,Int.reduceEq,not_false_eq_true,Int.toNat_zero,bc,List.drop_zero,et,fF,fE,P6] at*;have lt:=(List.takeWhile_sublist (p:=fun y=>decide (y<=e.1)) (l:=l)).length_le;have ld:=(List.dropWhile_sublist (p:=fun y=>decide (y<=e.1+e.2.1)) (l:=l)).length_le;have md: ∀x∈l.dropWhile (fun y=>decide (y<=e.1+e.2.1)),0<=x/\x<=600:=fun x hx=>XB hs ((List.dropWhile_sublist _).mem hx);have eu:FF l e=(l.takeWhile fun x=>decide (x<=e.1))++AS e.1 e.2.2++(l.dropWhile fun x=>decide (x<=e.1+e.2.1)).map (· +((e.2.2.length:Int)-e.2.1)):=rfl;generalize (l.takeWhile fun y=>decide (y<=e.1))=tw at*;generalize (l.dropWhile fun y=>decide (y<=e.1+e.2.1))=dw at*;refine ⟨by omega,⟨hl,hr⟩,by omega,by omega,⟨hl,hr⟩,by omega,by omega,by omega,by omega,fun x out=>0<=x/\x<=e.2.2.length/\out.length<=tw.length+x/\out++AS (e.1+x) (e.2.2.drop x.toNat)=tw++AS e.1 e.2.2,fun x _=>(e.2.2.length-x).toNat,⟨by omega,by omega,by omega,by simp⟩,?_⟩;rintro x out ⟨h0,h1,h2,h3⟩;dsimp only;refine ⟨fun t=>⟨h0,t,fun u=>?_,fun u=>?_⟩,fun t=>⟨by omega,by omega,by omega,?_⟩⟩
 ·rw [Hl h0 t] at h3;simp only [AS] at h3;rw [if_pos u,show e.1+x+1=e.1+(x+1) by omega] at h3;refine ⟨by omega,by omega,by omega,by omega,⟨by omega,by omega,by simp;omega,?_⟩,by omega⟩;rw [show e.1+x+1=e.1+(x+1) by omega];simpa using h3
 ·rw [Hl h0 t] at h3;simp only [AS] at h3;rw [if_neg u,show e.1+x+1=e.1+(x+1) by omega] at h3;exact ⟨by omega,⟨by omega,by omega,by omega,h3⟩,by omega⟩
 ·rw [List.drop_of_length_le (by omega)] at h3;simp only [AS,List.append_nil] at h3;refine ⟨fun x o=>0<=x/\x<=dw.length/\o.length=out.length+x/\o++(dw.drop x.toNat).map (· +((e.2.2.length:Int)-e.2.1))=FF l e,fun x _=>(dw.length-x).toNat,⟨by omega,by omega,by omega,?_⟩,?_⟩
  ·rw [eu,h3];simp
  ·rintro y o ⟨g0,g1,g2,g3⟩;dsimp only;refine ⟨fun u=>?_,fun u=>?_⟩
   ·have:=md _ (N5 g0 u);rw [Hl g0 u] at g3;refine ⟨g0,u,by omega,by omega,by omega,by omega,⟨by omega,by omega,by simp;omega,?_⟩,by omega⟩;rw [show gt dw y+(e.2.2.length:Int)-e.2.1=gt dw y+((e.2.2.length:Int)-e.2.1) by omega];simpa using g3
   ·rw [List.drop_of_length_le (by omega)] at g3;simpa using g3
theorem jK:Cons Tryz.prog []:=trivial
theorem eS:BV Tryz.prog Df Ek:=jL jK fun s hs=>by
 simp only [D5,true_and,and_true,ne_eq,Int.reduceEq,not_false_eq_true,Int.toNat_zero];refine ⟨fun x a b=>0<=x/\x<=s.length/\(a,b)=BJ (s.take x.toNat),fun x _ _=>(s.length-x).toNat,by simp [BJ],fun x a b ⟨h0,h1,h2⟩=>?_⟩;dsimp only;refine ⟨fun h=>?_,fun h=>?_⟩
 ·have bd:=TD (s.take x.toNat);rw [<-h2] at bd;simp only at bd;have hb:=Zj (gt s x);have hb0:=jy (gt s x);unfold Hw at hs;rw [Int.tmod_eq_emod_of_nonneg (by omega),Int.tmod_eq_emod_of_nonneg (by omega)];refine ⟨by omega,h0,h,by omega,by omega,by omega,by omega,⟨by omega,by omega,?_⟩,by omega⟩;rw [G_ h0 h,OH,<-h2];rfl
 ·rw [h2,List.take_of_length_le (by omega)]
theorem XM:Cons Tryz.prog [(BB,Bi)]:=⟨Kx,trivial⟩
theorem VE:BV Tryz.prog CY ED:=XN XM fun w h=>by
 have h:w.length<=140737488351232:=h;refine ⟨fun x=>0<=x/\x<=w.length/\ ∀j:Int,0<=j->j<x->N6 (gt w j)=true,fun x=>(w.length-x).toNat,⟨by omega,by omega,fun j h1 h2=>by omega⟩,fun x ⟨h0,h1,h2⟩=>?_⟩;dsimp only;refine ⟨fun q=>⟨h0,q,trivial,fun c=>?_,fun c=>?_⟩,fun q=>?_⟩
 ·refine RE.2 fun hw=>c (Gu.2 ((MK _).1 (hw.2.2 _ (N5 h0 q))))
 ·have hp:N6 (gt w x)=true:=(MK _).2 (Gu.1 (Classical.not_not.1 c));refine ⟨by unfold AQ;omega,⟨by omega,by omega,fun j j0 j1=>?_⟩,by omega⟩;by_cases e:j=x
  ·rw [e];exact hp
  ·exact h2 j j0 (by omega)
 ·refine VZ ⟨fun ⟨a,b⟩=>⟨a,by omega,fun c hc=>?_⟩,fun ⟨a,b,_⟩=>⟨a,by omega⟩⟩;obtain ⟨i,i0,i1,rfl⟩:=QM hc;exact h2 i i0 (by omega)
theorem db:Cons Tryz.prog []:=trivial
theorem aQ:BV Tryz.prog Dw Gl:=dd db fun s hs=>by
 simp only [D5,true_and,and_true,ne_eq,Int.reduceEq,not_false_eq_true,Int.toNat_zero];refine ⟨fun x l=>0<=x/\x<=s.length/\l.length<=x+1/\l++AS x (s.drop x.toNat)=Ab s,fun x _=>(s.length-x).toNat,⟨by omega,by omega,by simp,by simp [Ab]⟩,fun x l ⟨h0,h1,h2,h3⟩=>?_⟩;dsimp only;refine ⟨fun q=>?_,fun q=>?_⟩
 ·rw [Hl h0 q] at h3;simp only [AS] at h3;refine ⟨h0,q,fun r=>?_,fun r=>?_⟩
  ·rw [if_pos (P6.1 r)] at h3;refine ⟨by omega,by omega,by omega,⟨by omega,by omega,by simp;omega,by simpa using h3⟩,by omega⟩
  ·rw [if_neg fun e=>r (P6.2 e)] at h3;exact ⟨by omega,⟨by omega,by omega,by omega,h3⟩,by omega⟩
 ·rw [List.drop_of_length_le (by omega)] at h3;simpa [AS] using h3
theorem J3:BV Tryz.prog DW Ib:=E.J3 Vq XX XY Tt R7 OZ WL jP RX Kx Kt eS VE aQ
theorem TI:Cons Tryz.prog []:=trivial
theorem Ro:BV Tryz.prog CU EZ:=TJ TI fun size e ⟨h1,h2,h3,h4⟩=>(by
 simp only [D5,Hw,BX] at*;refine ⟨fun h=>by omega,fun h=>?_,fun h=>⟨by omega,by omega,fun g=>?_,fun g=>?_⟩⟩
 ·rw [if_pos (by omega)]
 ·rw [if_neg (by omega),if_pos (by omega)]
 ·rw [if_neg (by omega),if_neg (by omega)])
theorem U1:Cons Tryz.prog []:=trivial
theorem TW:BV Tryz.prog Cx E8:=U2 U1 fun s e h=>by
 have h':=Bs.1 h;simp only [D5,true_and,and_true,ne_eq,Int.reduceEq,not_false_eq_true,Int.toNat_zero];obtain ⟨a,c,p⟩:=e;dsimp only at*;refine ⟨fun out i=>0<=i/\i<=s.length+1/\out=if i<=a then s.take i.toNat else s.take a.toNat++p++(s.take i.toNat).drop (a+c).toNat,fun _ i=>(s.length+1-i).toNat,⟨by omega,by omega,by rw [if_pos (by omega)];simp⟩,?_⟩;rintro out i ⟨h0,h1,h2⟩;dsimp only;have hl:out.length<=1300:=by
  rw [h2];split<;>(try simp only [List.length_append,List.length_take,List.length_drop])<;>omega
 refine ⟨fun t=>⟨fun _=>by omega,fun _=>by omega,fun _=>by omega,fun _=>by omega,fun _=>by omega,fun _=>by omega,fun u=>?_,by omega,⟨by omega,by omega,?_⟩,by omega⟩,fun t=>?_⟩
 ·by_cases e:i=a
  ·rw [HX e];simp only [List.length_append,List.length_take,List.length_drop];omega
  ·rw [HW e];simp only [List.length_append,List.length_take,List.length_drop];omega
 ·by_cases u:i<s.length/\(i<a\/a+c<=i)
  ·rw [HX u,sub_one h0 u.1];by_cases e:i=a
   ·rw [HX e,if_neg (by omega),h2,if_pos (by omega),G_ h0 u.1,<-e];have:((List.take i.toNat s++[gt s i]).drop (i+c).toNat)=[gt s i]:=by
     rw [show (i+c).toNat=i.toNat by omega];exact List.drop_left' (by simp only [List.length_take];omega)
    rw [this]
   ·rw [HW e,h2];by_cases q:i<a
    ·rw [if_pos (by omega),if_pos (by omega),G_ h0 u.1]
    ·rw [if_neg (by omega),if_neg (by omega),G_ h0 u.1,List.drop_append_of_le_length (by simp only [List.length_take];omega),List.append_assoc]
  ·rw [HW u];by_cases e:i=a
   ·rw [HX e,if_neg (by omega),h2,if_pos (by omega)];have:(List.take (i+1).toNat s).drop (a+c).toNat=[]:=List.drop_of_length_le (by simp only [List.length_take];omega);rw [this,<-e];simp
   ·rw [HW e,h2,if_neg (by omega),if_neg (by omega)];by_cases q:i<s.length
    ·rw [List.drop_of_length_le (by simp only [List.length_take];omega),List.drop_of_length_le (by simp only [List.length_take];omega)]
    ·rw [List.take_of_length_le (i:=i.toNat) (by omega),List.take_of_length_le (i:=(i+1).toNat) (by omega)]
 ·rw [h2,if_neg (by omega),List.take_of_length_le (l:=s) (i:=i.toNat) (by omega)];rfl
theorem QS:BV Tryz.prog Br FG:=R.aH Ro TW
theorem bA:Cons Tryz.prog []:=trivial
theorem Xr:BV Tryz.prog FC Iq:=bB bA fun s hs=>by
 simp only [D5,true_and,and_true,ne_eq,Int.reduceEq,not_false_eq_true,Int.toNat_zero];refine ⟨fun i p q r=>0<=i/\i<=s.length/\(p,q,r)=posOf (s.take i.toNat)/\p=i/\0<=q/\q<=i/\0<=r/\r<=i,fun i _ _ _=>(s.length-i).toNat,by simp [posOf],?_⟩;rintro i p q r ⟨h0,h1,h2,h3,h4,h5,h6,h7⟩;dsimp only;refine ⟨fun t=>⟨by omega,by omega,h0,t,fun u=>⟨by omega,by omega,⟨by omega,by omega,?_,by omega,by omega,by omega,by omega,by omega⟩,by omega⟩,fun u=>⟨by omega,⟨by omega,by omega,?_,by omega,by omega,by omega,by omega,by omega⟩,by omega⟩⟩,fun t=>?_⟩
 ·rw [Kj h0 t,<-h2];simp only [G5,if_pos (P6.1 u)]
 ·rw [Kj h0 t,<-h2];simp only [G5,if_neg fun e=>u (P6.2 e)]
 ·rw [h2,List.take_of_length_le (by omega)]
theorem ay:Cons Tryz.prog [(FC,Iq)]:=⟨Xr,trivial⟩
theorem Xq:BV Tryz.prog D9 G7:=az ay fun s a hs=>by
 simp only [D5,true_and,and_true,ne_eq,Int.reduceEq,not_false_eq_true,Int.toNat_zero,FP,Hw,List.drop_zero,Wj] at*;refine ⟨fun c=>by rw [if_pos c];exact ⟨rfl,rfl⟩,fun c=>⟨by omega,by omega,by omega,by simp only [List.length_take];omega,by rw [if_neg c];exact ⟨rfl,rfl⟩⟩⟩
theorem Xt:Cons Tryz.prog []:=trivial
theorem Wt:BV Tryz.prog D3 He:=Xu Xt fun c h=>by
 exact VZ (by unfold HZ;omega)
theorem Xw:Cons Tryz.prog [(D3,He)]:=⟨Wt,trivial⟩
theorem Wu:BV Tryz.prog D4 Hf:=Xx Xw fun s i h=>by
 obtain ⟨h1,h2,h3⟩:=h;have h1:s.length<=140737488351232:=h1;have h2:0<=i:=h2;have h3:i<=s.length:=h3;obtain ⟨k,rfl⟩: ∃k:Nat,i=(k:Int):=⟨i.toNat,by omega⟩
 have hw:J_ s (k:Int)=Gr s k:=by unfold J_;rw [Int.toNat_natCast]
 rw [hw];refine ⟨fun _=>by unfold AQ;omega,fun _=>by omega,fun _=>by omega,fun _=>trivial,fun ⟨a,b⟩=>?_,fun c=>?_⟩
 ·refine (Uf fun q=>?_).symm;rcases q with q | q
  ·omega
  ·exact (Wc _).1 q (Gu.1 b)
 have ho:opens s k:=by
  by_cases z:k=0
  ·exact .inl z
  ·exact .inr ((Wc _).2 fun q=>c ⟨by omega,Gu.2 q⟩)
 refine ⟨fun e=>k<=e/\e<=s.length/\ ∀j:Int,k<=j->j<e->N6 (gt s j)=true,fun e=>(s.length-e).toNat,⟨by omega,by omega,fun j a b=>by omega⟩,fun e ⟨e0,e1,e2⟩=>?_⟩;dsimp only;refine ⟨fun _=>by omega,id,fun _=>trivial,fun ⟨a,b⟩=>?_,fun c=>?_⟩
 ·have hp:N6 (gt s e)=true:=(MK _).2 (Gu.1 b);refine ⟨by unfold AQ;omega,⟨by omega,by omega,fun j j0 j1=>?_⟩,by omega⟩;by_cases q:j=e
  ·rw [q];exact hp
  ·exact e2 j j0 (by omega)
 ·have hr:CC s k=(e-k).toNat:=run_eq (by omega) (fun j hj=>e2 _ (by omega) (by omega)) (by
   by_cases z:e=s.length
   ·left;omega
   ·right;rw [show ((k+(e-k).toNat:Nat):Int)=e by omega];exact (Wc _).2 fun q=>c ⟨by omega,Gu.2 q⟩)
  rw [Oj ho,hr];refine ⟨by unfold AQ;omega,fun q=>by rw [if_neg (by omega)],fun q=>⟨h2,e0,e1,?_⟩⟩;rw [if_pos (by omega),Int.toNat_natCast,List.drop_take];congr 1;omega
theorem TR:Cons Tryz.prog [(D4,Hf)]:=⟨Wu,trivial⟩
theorem Ru:BV Tryz.prog B_ Eb:=TT TR fun s w h=>by
 obtain ⟨h1,h2⟩:=h;have h1:s.length<=140737488351232:=h1;have hi:=mU w;refine ⟨fun _=>⟨h2,Int.le_refl _,by omega⟩,fun c=>?_,fun c=>⟨fun q=>?_,fun q=>?_⟩⟩
 ·have: ¬isWord w:=fun q=>by
   have:=hi.1 q;rcases c with c | c
   ·exact this.1 c
   ·exact c this.2
  unfold CP;rw [if_pos this];exact ⟨rfl,rfl⟩
 all_goals
  have hw:isWord w:=hi.2 ⟨fun e=>c (.inl e),Classical.byContradiction fun e=>c (.inr e)⟩;unfold CP;rw [if_neg (by simpa using hw)]
 ·rw [if_pos (by omega)];exact ⟨rfl,rfl⟩
 rw [if_neg (by omega)];dsimp only;rw [iM hw.1];refine ⟨fun x out=>0<=x/\x<=s.length/\out=((List.range x.toNat).filter fun i:Nat=>Gr s i=w).map fun i:Nat=>(i:Int),fun x _=>(s.length-x).toNat,⟨by omega,by omega,rfl⟩,fun x out ⟨x0,x1,x2⟩=>?_⟩;dsimp only;have ol:out.length<=x.toNat:=by
  rw [x2,List.length_map];refine Nat.le_trans (List.length_filter_le _ _) ?_;simp
 refine ⟨fun r=>⟨⟨h1,x0,by omega⟩,fun e=>?_,fun e=>?_⟩,fun r=>?_⟩
 ·refine ⟨by omega,by unfold AQ;omega,⟨by omega,by omega,?_⟩,by omega⟩;rw [show (x+1).toNat=x.toNat+1 by omega,List.range_succ,List.filter_append,List.map_append,<-x2];congr 1;rw [List.filter_cons,if_pos (by have e:Gr s x.toNat=w:=e;simpa using e)];simp;omega
 ·refine ⟨by unfold AQ;omega,⟨by omega,by omega,?_⟩,by omega⟩;rw [show (x+1).toNat=x.toNat+1 by omega,List.range_succ,List.filter_append,List.map_append,<-x2];rw [List.filter_cons,if_neg (by have e: ¬Gr s x.toNat=w:=e;simpa using e)];simp
 ·rw [x2,show x.toNat=s.length by omega];exact ⟨rfl,rfl⟩
theorem Uy:Cons Tryz.prog []:=trivial
theorem TU:BV Tryz.prog Db GA:=Uz Uy fun s hs=>by
 simp only [D5,true_and,and_true,ne_eq,Int.reduceEq,not_false_eq_true,Int.toNat_zero];refine ⟨fun i out=>0<=i/\i<=s.length/\out≠[]/\out.length<=i+1/\(out.getLastD []).length<=i/\AH s=(s.drop i.toNat).foldl LB out,fun i _=>(s.length-i).toNat,⟨by omega,by omega,by simp,by simp,by simp,by simp [AH]⟩,fun i out ⟨h0,h1,h2,h3,h4,h5⟩=>?_⟩;dsimp only;refine ⟨fun q=>?_,fun q=>?_⟩
 ·have hl:0<out.length:=List.length_pos_iff.2 h2;rw [Hl h0 q,List.foldl_cons] at h5;refine ⟨h0,q,fun r=>?_,fun r=>?_⟩
  ·have e:LB out (gt s i)=out++[[]]:=by simp [LB,P6.1 r]
   rw [e] at h5;exact ⟨by omega,by omega,⟨by omega,by omega,by simp,by simp;omega,by simp;omega,h5⟩,by omega⟩
  ·have e:LB out (gt s i)=out.dropLast++[out.getLastD []++[gt s i]]:=by simp only [LB];rw [if_neg fun e=>r (P6.2 e)]
   rw [e] at h5;have e2:(((out.length:Int)-1).toNat)=out.length-1:=by omega
   rw [sub_one h0 q,sk (d:=[]) h2,e2,fJ _ _ h2];refine ⟨by omega,by omega,by omega,by omega,by omega,by omega,by omega,by simp only [List.length_cons,List.length_nil];omega,by omega,by omega,by omega,⟨by omega,by omega,by simp,by simp;omega,by rw [List.getLastD_concat];simp only [List.length_append,List.length_cons,List.length_nil];omega,h5⟩,by omega⟩
 ·rw [List.drop_of_length_le (by omega)] at h5;simpa using h5.symm
theorem Xo:Cons Tryz.prog []:=trivial
theorem Wp:BV Tryz.prog ET Hc:=Xp Xo fun s hs=>by
 simp only [D5,true_and,and_true,ne_eq,Int.reduceEq,not_false_eq_true,Int.toNat_zero];unfold Hw at hs;refine ⟨by omega,fun p q i=> -1<=i/\i<s.length/\(q,p)=BJ (s.drop (i+1).toNat),fun _ _ i=>(i+1).toNat,⟨by omega,by omega,?_⟩,fun p q i ⟨h0,h1,h2⟩=>?_⟩
 ·rw [List.drop_of_length_le (by omega)];rfl
 dsimp only;refine ⟨fun h=>?_,fun h=>?_⟩
 ·have bd:=TD (s.drop (i+1).toNat);rw [<-h2] at bd;simp only at bd;have hb:=Zj (gt s i);have hb0:=jy (gt s i);have m:0<=((gt s i).toNat+1:Int)*p/\((gt s i).toNat+1:Int)*p<=4611686009837453316:=xS (by omega) (by omega) bd.2.2.1 bd.2.2.2;rw [Int.tmod_eq_emod_of_nonneg (by omega),Int.tmod_eq_emod_of_nonneg (by omega)];refine ⟨h,h1,by omega,by omega,by omega,by omega,by omega,⟨by omega,by omega,?_⟩,by omega⟩;rw [show i-1+1=i by omega,Hl h h1,eP,<-h2];exact Prod.ext (by simp only;omega) rfl
 ·rw [h2,show (i+1).toNat=0 by omega,List.drop_zero]
theorem TO:Cons Tryz.prog [(Db,GA),(ET,Hc)]:=⟨TU,Wp,trivial⟩
theorem Rp:BV Tryz.prog B9 Ea:=TP TO fun s _=>by
 refine ⟨fun q=>?_,fun q=>?_⟩
 ·have e:EY s=([],1):=by unfold EY;rw [if_pos (by omega)]
  rw [e];exact ⟨rfl,rfl⟩
 have e:EY s=((AH s).map fun l=>(BJ l).1,0):=by unfold EY;rw [if_neg (by omega)]
 have hcl:=DY s;rw [e];simp only [D5,true_and,and_true,ne_eq,Int.reduceEq,not_false_eq_true,Int.toNat_zero];refine ⟨by omega,fun x out=>0<=x/\x<=(AH s).length/\out=((AH s).take x.toNat).map fun l=>(BJ l).1,fun x _=>((AH s).length-x).toNat,⟨by omega,by omega,by simp⟩,fun x out ⟨h0,h1,h2⟩=>?_⟩;dsimp only;have hl:out.length=x.toNat:=by rw [h2,List.length_map,List.length_take];omega
 refine ⟨fun r=>?_,fun r=>?_⟩
 ·have hg:(gt (AH s) x).length<=s.length:=hcl.2 _ (N5 h0 r);refine ⟨h0,r,by show _<=140737488351232;omega,by omega,by omega,⟨by omega,by omega,?_⟩,by omega⟩;rw [G_ h0 r,h2,List.map_append];rfl
 ·rw [h2,List.take_of_length_le (by omega)]
theorem Gm:BV Tryz.prog B1 FT:=R.Gm QS Xq Ru Rp
theorem Su:Cons Tryz.prog []:=trivial
theorem RW:BV Tryz.prog DJ Ff:=Sv Su fun a b h=>by
 simp only [D5,true_and,and_true,ne_eq,Int.reduceEq,not_false_eq_true,Int.toNat_zero,RE,lE,Gg] at*;refine ⟨fun q e=>q (by rw [e]),fun q=>⟨fun i=>0<=i/\i<=a.length/\ ∀j:Int,0<=j->j<i->gt a j=gt b j,fun i=>(a.length-i).toNat,⟨by omega,by omega,fun j h1 h2=>by omega⟩,fun i ⟨h0,h1,h2⟩=>?_⟩⟩;dsimp only;refine ⟨fun r=>⟨h0,r,h0,by omega,fun t e=>t (by rw [e]),fun t=>⟨by omega,⟨by omega,by omega,fun j j0 j1=>?_⟩,by omega⟩⟩,fun r=>?_⟩
 ·by_cases e:j=i
  ·rw [e];exact Classical.byContradiction t
  ·exact h2 j j0 (by omega)
 ·exact pO (by omega) fun j j0 j1=>h2 j j0 (by omega)
theorem Up:Cons Tryz.prog []:=trivial
theorem Sr:BV Tryz.prog Da F8:=Uq Up fun a b h=>by
 simp only [D5,true_and,and_true,ne_eq,Int.reduceEq,not_false_eq_true,Int.toNat_zero,RE,lE,Gg] at*;refine ⟨fun q e=>q (by rw [e]),fun q=>⟨fun i=>0<=i/\i<=a.length/\ ∀j:Int,0<=j->j<i->gt a j=gt b j,fun i=>(a.length-i).toNat,⟨by omega,by omega,fun j h1 h2=>by omega⟩,fun i ⟨h0,h1,h2⟩=>?_⟩⟩;dsimp only;refine ⟨fun r=>⟨h0,r,h0,by omega,fun t e=>t (by rw [e]),fun t=>⟨by omega,⟨by omega,by omega,fun j j0 j1=>?_⟩,by omega⟩⟩,fun r=>?_⟩
 ·by_cases e:j=i
  ·rw [e];exact Classical.byContradiction t
  ·exact h2 j j0 (by omega)
 ·exact pO (by omega) fun j j0 j1=>h2 j j0 (by omega)
theorem QI:Cons Tryz.prog [(DW,Ib),(B1,FT),(DJ,Ff),(Da,F8)]:=⟨J3,Gm,RW,Sr,trivial⟩
theorem PK:BV Tryz.prog EF law_EnginePlays_ct:=QJ QI fun s l h=>by
 obtain ⟨h1,h2,h3⟩:=h;have hp:Nx s l:=⟨h1,h2,fun x hx=>⟨(h3 x hx).2.1.2,(h3 x hx).2.2.2.2⟩⟩
 by_cases big:Gd s l
 ·rw [YP big,T3 big];refine ⟨hp,hp,fun _=>⟨by simp,by simp⟩,fun c=>?_,fun _=>⟨fun _ i=>0<=i,fun _ _=>0,by simp,fun full i hi=>⟨fun hlt=>?_,fun _=>rfl⟩⟩⟩
  ·simp at c
  ·exfalso;have hi:0<=i:=hi;have hlt:i<0:=hlt;omega
 have h600:s.length<=600:=by unfold Gd at big;omega
 have h80:l.length<=80:=by unfold Gd at big;omega
 rw [T2 big,PX big,jg h600 l];have n1:=Ia l (BH s);have n2:=Ip l (Au s);have n3:=Io l (Au s);have n4:=G6 l (Au s);have nn:(Dp (BH s) l).length=(Ds (Au s) l).length:=n1.trans n2.symm;refine ⟨hp,hp,fun _=>⟨?_,?_⟩,fun c=>?_,fun _=>⟨fun full i=>0<=i/\i<=l.length/\(full=true->Hn (ES (BH s) (l.take i.toNat))),fun _ i=>(l.length-i).toNat,⟨by omega,by omega,fun q=>by cases q⟩,fun full i hI=>⟨fun hlt=>?_,fun _=>rfl⟩⟩⟩
 ·show (Bx (Au s) l).length<=_;omega
 ·show (Bx (Au s) l).length<=_;omega
 ·exfalso;rcases c with (c | c) | c
  ·exact c (by show ((Dp (BH s) l).length:Int)=((Ds (Au s) l).length:Int);omega)
  ·exact c rfl
  ·simp at c
 obtain ⟨i0,i1,iF⟩:=hI;have hlt:i<((Dp (BH s) l).length:Int):=hlt;obtain ⟨j,rfl⟩: ∃j:Nat,i=(j:Int):=⟨i.toNat,by omega⟩
 have hj:j<l.length:=by omega
 obtain ⟨r,hr⟩: ∃r,l[j]?=some r:=⟨_,List.getElem?_eq_getElem hj⟩
 rw [Int.toNat_natCast] at iF;have gx:gt (Dp (BH s) l) (j:Int)=(BG (ES (BH s) (l.take j)) r).2:=by
  have:=Ig (l:=Dp (BH s) l) (i:=(j:Int)) (by omega) hlt;rw [Int.toNat_natCast,T5 hr] at this;exact (Option.some.inj this).symm
 have gy:gt (Ds (Au s) l) (j:Int)=(CF (Ft (Au s) (l.take j)) r).2:=by
  have:=Ig (l:=Ds (Au s) l) (i:=(j:Int)) (by omega) (by omega);rw [Int.toNat_natCast,UU hr] at this;exact (Option.some.inj this).symm
 have gm:gt (Bl (Au s) l) (j:Int)=JW (CF (Ft (Au s) (l.take j)) r).1:=by
  have:=Ig (l:=Bl (Au s) l) (i:=(j:Int)) (by omega) (by omega);rw [Int.toNat_natCast,UT hr] at this;exact (Option.some.inj this).symm
 have gl:gt l (j:Int)=r:=by
  have:=Ig (l:=l) (i:=(j:Int)) (by omega) (by omega);rw [Int.toNat_natCast,hr] at this;exact (Option.some.inj this).symm
 have lt:(l.take j).length=j:=by rw [List.length_take];omega
 have e1:l.take (j+1)=l.take j++[r]:=by rw [List.take_add_one,hr];rfl
 have ic:=Fz.run (s:=s) h600 (l.take j);have S:=YH.run h600 (l.take j);have eE:ES (BH s) (l.take ((j:Int)+1).toNat)=(BG (ES (BH s) (l.take j)) r).1:=by
  rw [show ((j:Int)+1).toNat=j+1 by omega,e1,T4]
 have hfit: ∀L:List Int,L=(CF (Ft (Au s) (l.take j)) r).2.2.2.2.1->Gg L:=fun L hL=>by
  subst hL;exact rM (S.h▸ic.h.len)
 dsimp only;simp only [gx,gy,gm,gl];generalize ES (BH s) (l.take j)=E at*;generalize Ft (Au s) (l.take j)=R at*;have hjj:0<=(j:Int):=by omega
 have hjl:(j:Int)<(l.length:Int):=by omega
 have hjr:(j:Int)<((Ds (Au s) l).length:Int):=by omega
 have hjm:(j:Int)<((Bl (Au s) l).length:Int):=by omega
 have hi64:AQ ((j:Int)+1):=by unfold AQ;omega
 have hm:((l.length:Int)-((j:Int)+1)).toNat<((l.length:Int)-(j:Int)).toNat:=by omega
 have hstep: ∀b:Bool,(b=true->Hn (BG E r).1)->0<=(j:Int)+1/\(j:Int)+1<=l.length/\(b=true->Hn (ES (BH s) (l.take ((j:Int)+1).toNat))):=fun b hb=>⟨by omega,by omega,by rw [eE];exact hb⟩
 have hfy:=hfit _ rfl;by_cases c9:r.1=9
 ·have ex:(BG E r).2=(0,N3 E,0,[],[]):=by rw [QD c9]
  have ey:(CF R r).2=(0,-1,0,[],[]):=by rw [tq c9]
  have eR:(CF R r).1=R:=by rw [tq c9]
  have eE2:(BG E r).1=E:=by rw [QD c9]
  have f0:Gg ([]:List Int):=by simp
  have fN:(N3 E=1/\Hn E)\/(N3 E=0/\ ¬Hn E):=by
   unfold N3;by_cases q:Hn E
   ·rw [if_pos q];exact .inl ⟨rfl,q⟩
   ·rw [if_neg q];exact .inr ⟨rfl,q⟩
  rw [ex,ey,eR];dsimp only;refine ⟨hjj,hlt,hjj,hjr,fun _=>⟨fun _=>hjj,fun _=>hjm,fun bad=>?_,fun _=>⟨hjj,hjl,fun _=>⟨f0,f0⟩,fun bad=>?_,fun _=>⟨hi64,hstep _ fun hb=>?_,hm⟩⟩⟩,fun no=>absurd ⟨rfl,rfl⟩ no⟩
  ·exfalso;rcases bad with (⟨b1,b2⟩ | ⟨b1,b2⟩) | ⟨b1,b2⟩
   ·rcases fN with ⟨q,_⟩ | ⟨q,_⟩
    ·exact b2 q
    ·exact b1 q
   ·rcases fN with ⟨q,_⟩ | ⟨_,q⟩
    ·exact b2 q
    ·exact q (S.xT ic b1)
   ·rcases fN with ⟨q,_⟩ | ⟨_,q⟩
    ·exact b2 q
    ·exact q (iF b1)
  ·simp at bad
  ·rw [eE2];simp only [Gu] at hb;rcases fN with ⟨_,q⟩ | ⟨q,_⟩
   ·exact q
   ·exfalso;have:=hb.2;omega
 ·obtain ⟨t1,t2⟩:=S.told ic c9;rw [t1];refine ⟨hjj,hlt,hjj,hjr,fun hyp=>?_,fun no=>⟨hjj,hjl,fun _=>⟨hfy,hfy⟩,fun bad=>?_,fun _=>⟨hi64,hstep _ fun hb=>?_,hm⟩⟩⟩
  ·exfalso;have:=hyp.1;omega
  ·exfalso;simp at bad
  ·simp only [Gu] at hb;exact S.full ic (iF hb.2) hb.1
end Go.Proofs.YtlibocgedgdmlaaGreat
end
section
set_option maxRecDepth 100000
namespace Go.Proofs.YtlibocgedgdmlaaGreat
open Go.ChangeShapes Go.WideShapes Go.ChangeAt Go.RowKit Go.Vc
theorem Ny {H:Type} (enc:TypeId×Value->H) (law:BV Tryz.prog 3 (Yl enginePlays_tys))
  (W:World) (args:Array Value) (ds gs:List (DataW H)) (before:List MemPlace) (hval: ∀(j:Nat) t v,Tryz.f3.params[j]?=some t->args[j]?=some v->Value.okWide Tryz.prog W .any 0 t v)
  (hW:DataW.Whole enc Tryz.prog Tryz.f3.params.toList Rows.enginePlaysSpec.vars false W args.toList ds gs before)
  (hz:(DataW.weightsEach Tryz.prog (Tryz.f3.params.toList++Rows.enginePlaysSpec.plain.varTypes Tryz.prog) (ds++gs)).all (· <=reachBytes)=true):
  Calls Tryz.prog 3 args W fun e W'=> ∃v,e= .returned v/\Rows.enginePlaysSpec.post enc Tryz.prog Tryz.f3 false true false false W args v W':=
 aN (us:=enginePlays_tys) (n:=8) (tb:=4) Tryz.params3 (bulk_law H) laid_out (par_ok (by kernel_rfl)) rfl (fun ds h=>match ds,h with | [d0,d1],_=>rfl) (by kernel_rfl) (by kernel_rfl) (by kernel_rfl) (fun x h1 _=>tC law x h1) hval hW hz
theorem SX (law:BV Tryz.prog 3 (Yl enginePlays_tys)):Rows.EnginePlaysSaid:=
 OpenClaim.holds_of_wide 3 Tryz.f3 rfl rfl rfl rfl rfl rfl rfl ⟨rfl,rfl,rfl,rfl,rfl⟩ rfl rfl rfl rfl rfl (by kernel_rfl) Tryz.func3 (by kernel_rfl)
  (of_decide_eq_true (by kernel_rfl)) (by unfold Func.isWrapper;first | (rw [if_pos (by decide+kernel)];kernel_rfl) | (rw [if_neg (by decide+kernel)];exact ⟨rfl,rfl⟩))
  (fun os started H enc _=>returnsInHanded_of_change_sized (C:=Tryz.checked) own_knob started (by kernel_rfl) Tryz.func3
   (ChangeSpec.witness6 (enc:=enc) (C:=Tryz.checked) false ⟨#[],#[.string ⟨#[]⟩,.slice none 0 0],[]⟩ 8 (by kernel_rfl) (by kernel_rfl) (by kernel_rfl) (by kernel_rfl))
   fun W base args ds gs before hval hW _ hz _=>Ny enc law W args ds gs before hval hW hz)
theorem enginePlays_holds:Rows.EnginePlaysSaid:=SX PK
end Go.Proofs.YtlibocgedgdmlaaGreat
end
