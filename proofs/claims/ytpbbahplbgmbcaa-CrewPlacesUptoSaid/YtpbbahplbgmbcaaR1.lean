/- Part of the proof of crewPlacesUpto_holds: the whole is true of every input. Conditions: none. -/
import Derived.Test.YtpbbahplbgmbcaaP2
import Derived.Conc.WgGenDone
import Derived.Conc.Own2
import Derived.Conc.TokenWalk
import Derived.Conc.Deaf
import Derived.Conc.Beside
import Derived.Test.YtpbbahplbgmbcaaProg
import Derived.Conc.WgLib
import Derived.KernelRfl
set_option linter.all false
section
namespace Go.Vk
open Go.Conc Go.RowKit Go.Conc.Lib Go.ConcR.Gen
open Go.ConcR (KK wgBlock WgAt stA smA rd wr mk)
open Go.ConcN (WgLive)
section
variable {P : Program} {b : Frame} {a : Act} {todo : List Item} {fn : Func}
end
theorem Back.enter {P:Program} {main:Bool} {J:World→Prop} {Z:Goroutine→Prop} (hZ:Back P main J Z) {b:Frame} {a:Act} {k:List Item} {cs:List Frame} {ops:Array Oper} {i:Nat} {rest:List Nat} {o:Oper} {f:FuncId} {fn:Func} {c:Code} {args:Array Operand} {ats:Array TypeId}
  (ho:ops[i]?=some o) (hw:Region.wanted o (yielded ops a.tmps)=true) (hk:b.kind≠ .early) (hop:o.op= .call {callee:= .value (.func f),args,argTypes:=ats})
  (hf:P.funcs[f]?=some fn) (hname:(fn.name == "runtime.NumGoroutine")=false) (hb:fn.body=some c)
  (hq:Z (G (Frame.enter P f (args.map a.eval) .normal) (b.at a (.inRegion ops (i::rest)::k)::cs))):Z (G (b.at a (.inRegion ops (i::rest)::k)) cs):=by
 have hb':fn.body.isNone=false:=by rw [hb];rfl
 refine hZ.ctl rfl (fun w _=>?_) hq
 rw [stepG_enter ho hw hk (run_call_body hop hf hname hb')]
 have:listed P b.fn a o w= #[]:=by unfold listed;rw [events_call_body hop hf hname hb'];exact seen_none P _
 rw [this]
variable {M : Mp}
theorem qs_back {S:Goroutine→Prop}:Back M.P false M.I (M.Qs S):=Qw.back
theorem wg_live {w:World} (h:M.I w):WgLive M.L.tWg M.Wg w:=h
end Go.Vk
end
section
namespace Go.Vk
open Go.Conc Go.RowKit Go.Conc.Lib Go.ConcR.Gen
open Go.ConcR (KK wgBlock WgAt stA smA rd wr mk)
open Go.ConcN (WgLive)
section
variable {P : Program} {main : Bool} {J : World → Prop} {ty : TypeId} {Wg : Nat} {g : Goroutine}
theorem MarkAt.imp {m:Mark} {K K':Goroutine→Prop} (hK: ∀g,K g→K' g) (h:MarkAt P main J m K g):MarkAt P main J m K' g:=⟨h.1,h.2.choose,h.2.choose_spec.1,hK _ h.2.choose_spec.2⟩
theorem AddAt.imp {δ:Int} {D:Int→Prop} {K K':Int→Goroutine→Prop} (hK: ∀y g,K y g→K' y g) (h:AddAt P main J ty Wg δ D K g):AddAt P main J ty Wg δ D K' g:=⟨h.1,fun x hx=>let ⟨g',a,b⟩:=h.2 x hx;⟨g',a,hK _ _ b⟩⟩
theorem LoadAt.imp {D:Int→Prop} {K K':Int→Goroutine→Prop} (hK: ∀y g,K y g→K' y g) (h:LoadAt P main J ty Wg D K g):LoadAt P main J ty Wg D K' g:=⟨h.1,fun x hx=>let ⟨g',a,b⟩:=h.2 x hx;⟨g',a,hK _ _ b⟩⟩
theorem CasAt.imp {x0:Int} {KH KM KH' KM':Goroutine→Prop} (h1: ∀g,KH g→KH' g) (h2: ∀g,KM g→KM' g) (h:CasAt P main J ty Wg x0 KH KM g):CasAt P main J ty Wg x0 KH' KM' g:=let ⟨a,⟨g1,b,c⟩,g2,d,e⟩:=h;⟨a,⟨g1,b,h1 _ c⟩,g2,d,h2 _ e⟩
theorem SemacqAt.imp {K K':Goroutine→Prop} (hK: ∀g,K g→K' g) (h:SemacqAt P main J ty Wg K g):SemacqAt P main J ty Wg K' g:=let ⟨a,b,c,g',d,e⟩:=h;⟨a,b,c,g',d,hK _ e⟩
end
variable {M : Mp}
theorem cw_back {S:Goroutine→World→Prop} {v:World}:Back M.P false M.I fun g=>Vway M.P M.cw S g v:=Vway.back (cx:=M.cw)
set_option maxRecDepth 100000 in
set_option maxHeartbeats 4000000 in
theorem wait_c2 (H:WgLib M.P M.L) {b₀:Frame} {a₀:Act} {ops₀:Array Oper} {i₀:Nat} {rest₀:List Nat} {k₀:List Item} {cs:List Frame} {v:World}
  (hn:Vway M.P M.cw M.C10 (G (b₀.at (a₀.put ((ops₀[i₀]?).bind (·.dst)) (.tuple #[])) (.inRegion ops₀ rest₀::k₀)) cs) v): ∀(f:Nat) (x1 x2 x3 x4 x5 x6 x7 x8 x9 x10 x11 x12 x13 x14 x15 x16 x17 x18 x19 x20 x21 x22 x23 x24 x25 x26 x27 x28 x29 x30 x31 x32 x33 x34 x35 x36 x37 x38 x39 x40 x41 x42 x43 x44 x45 x46 x47 x48 x49 x50 x51 x52 x53 x54 x55 x56 x57 x58 x59 x60 x61 x62 x63 x64 x65 x66 x67 x68 x69 x70 x71 x72 x73 x74 x75 x76 x77 x78 x79 x80 x81 x82 x83:Value),Vway M.P M.cw (M.C2 f) (G ((base M.L.wait).at ⟨#[.pointer (some ⟨M.Wg,0,none⟩),x1,x2,x3,x4,x5,x6,x7,x8,x9,x10,x11,x12,x13,x14,x15,x16,x17,x18,x19,x20,x21,x22,x23,x24,x25,x26,x27,x28,x29,x30,x31,x32,x33,x34,x35,x36,x37,x38,x39,x40,x41,x42,x43,x44,x45,x46,x47,x48,x49,x50,x51,x52,x53,x54,x55,x56,x57,x58,x59,x60,x61,x62,x63,x64,x65,x66,x67,x68,x69,x70,x71,x72,x73,x74,x75,x76,x77,x78,x79,x80,x81,x82,x83],[]⟩ [.code (wait_loop M.L),.inLoop (wait_loop M.L),.inBlock 0]) (b₀.at a₀ (.inRegion ops₀ (i₀::rest₀)::k₀)::cs)) v:=by
 intro f
 induction f with
 | zero=>
  intro x1 x2 x3 x4 x5 x6 x7 x8 x9 x10 x11 x12 x13 x14 x15 x16 x17 x18 x19 x20 x21 x22 x23 x24 x25 x26 x27 x28 x29 x30 x31 x32 x33 x34 x35 x36 x37 x38 x39 x40 x41 x42 x43 x44 x45 x46 x47 x48 x49 x50 x51 x52 x53 x54 x55 x56 x57 x58 x59 x60 x61 x62 x63 x64 x65 x66 x67 x68 x69 x70 x71 x72 x73 x74 x75 x76 x77 x78 x79 x80 x81 x82 x83
  refine wait_round H (main:=false) (J:=M.I) (Wg:=M.Wg) (fun w h=>wg_live h) (Z2:=fun g=>Vway M.P M.cw (M.C2 0) g v) (Z2':=fun g=>Vway M.P M.cw (fun _ _=>True) g v) (Z3:=fun x g=>Vway M.P M.cw (M.C3 x fun _ _=>True) g v) (Z4:=fun g=>Vway M.P M.cw M.C4 g v) (Z5:=fun g=>Vway M.P M.cw M.C5 g v) (Z6:=fun g=>Vway M.P M.cw M.C6 g v) (Z7:=fun g=>Vway M.P M.cw M.C7 g v) (Z9:=fun g=>Vway M.P M.cw M.C9 g v) (Z10:=fun g=>Vway M.P M.cw M.C10 g v)
   cw_back (fun g h=>.stop fun v₁ h₁=>h.imp fun x g q=>⟨fun e=>(q.1 e).rely h₁,fun e=>(q.2 e).rely h₁⟩) (fun x=>cw_back) (fun x g h=>.stop fun v₁ h₁=>h.imp (fun g q=>q.rely h₁) fun g q=>q.rely h₁) cw_back (fun g h=>.stop fun v₁ h₁=>h.imp fun g q=>q.rely h₁) cw_back (fun g h=>.stop fun v₁ h₁=>h.imp fun g q=>q.rely h₁)
   cw_back (fun g h=>.stop fun v₁ h₁=>h.imp fun x g q=>q.rely h₁) cw_back (fun g h=>.stop fun v₁ h₁=>h.imp fun g q=>q.rely h₁) cw_back (fun g h=>.stop fun v₁ h₁=>h.imp fun g q=>q.rely h₁) cw_back hn cw_back ?_ x1 x2 x3 x4 x5 x6 x7 x8 x9 x10 x11 x12 x13 x14 x15 x16 x17 x18 x19 x20 x21 x22 x23 x24 x25 x26 x27 x28 x29 x30 x31 x32 x33 x34 x35 x36 x37 x38 x39 x40 x41 x42 x43 x44 x45 x46 x47 x48 x49 x50 x51 x52 x53 x54 x55 x56 x57 x58 x59 x60 x61 x62 x63 x64 x65 x66 x67 x68 x69 x70 x71 x72 x73 x74 x75 x76 x77 x78 x79 x80 x81 x82 x83
  intros
  exact .stop fun _ _=>trivial
 | succ f ih=>
  intro x1 x2 x3 x4 x5 x6 x7 x8 x9 x10 x11 x12 x13 x14 x15 x16 x17 x18 x19 x20 x21 x22 x23 x24 x25 x26 x27 x28 x29 x30 x31 x32 x33 x34 x35 x36 x37 x38 x39 x40 x41 x42 x43 x44 x45 x46 x47 x48 x49 x50 x51 x52 x53 x54 x55 x56 x57 x58 x59 x60 x61 x62 x63 x64 x65 x66 x67 x68 x69 x70 x71 x72 x73 x74 x75 x76 x77 x78 x79 x80 x81 x82 x83
  refine wait_round H (main:=false) (J:=M.I) (Wg:=M.Wg) (fun w h=>wg_live h) (Z2:=fun g=>Vway M.P M.cw (M.C2 (f+1)) g v) (Z2':=fun g=>Vway M.P M.cw (M.C2 f) g v) (Z3:=fun x g=>Vway M.P M.cw (M.C3 x (M.C2 f)) g v) (Z4:=fun g=>Vway M.P M.cw M.C4 g v) (Z5:=fun g=>Vway M.P M.cw M.C5 g v) (Z6:=fun g=>Vway M.P M.cw M.C6 g v) (Z7:=fun g=>Vway M.P M.cw M.C7 g v) (Z9:=fun g=>Vway M.P M.cw M.C9 g v) (Z10:=fun g=>Vway M.P M.cw M.C10 g v)
   cw_back (fun g h=>.stop fun v₁ h₁=>h.imp fun x g q=>⟨fun e=>(q.1 e).rely h₁,fun e=>(q.2 e).rely h₁⟩) (fun x=>cw_back) (fun x g h=>.stop fun v₁ h₁=>h.imp (fun g q=>q.rely h₁) fun g q=>q.rely h₁) cw_back (fun g h=>.stop fun v₁ h₁=>h.imp fun g q=>q.rely h₁) cw_back (fun g h=>.stop fun v₁ h₁=>h.imp fun g q=>q.rely h₁)
   cw_back (fun g h=>.stop fun v₁ h₁=>h.imp fun x g q=>q.rely h₁) cw_back (fun g h=>.stop fun v₁ h₁=>h.imp fun g q=>q.rely h₁) cw_back (fun g h=>.stop fun v₁ h₁=>h.imp fun g q=>q.rely h₁) cw_back hn cw_back ih x1 x2 x3 x4 x5 x6 x7 x8 x9 x10 x11 x12 x13 x14 x15 x16 x17 x18 x19 x20 x21 x22 x23 x24 x25 x26 x27 x28 x29 x30 x31 x32 x33 x34 x35 x36 x37 x38 x39 x40 x41 x42 x43 x44 x45 x46 x47 x48 x49 x50 x51 x52 x53 x54 x55 x56 x57 x58 x59 x60 x61 x62 x63 x64 x65 x66 x67 x68 x69 x70 x71 x72 x73 x74 x75 x76 x77 x78 x79 x80 x81 x82 x83
theorem wait_walk (H:WgLib M.P M.L) {b₀:Frame} {a₀:Act} {ops₀:Array Oper} {i₀:Nat} {rest₀:List Nat} {k₀:List Item} {cs:List Frame} {v:World}
  (hn:Vway M.P M.cw M.C10 (G (b₀.at (a₀.put ((ops₀[i₀]?).bind (·.dst)) (.tuple #[])) (.inRegion ops₀ rest₀::k₀)) cs) v):
  Vway M.P M.cw M.C1 (G (Frame.enter M.P M.L.wait #[.pointer (some ⟨M.Wg,0,none⟩)] .normal) (b₀.at a₀ (.inRegion ops₀ (i₀::rest₀)::k₀)::cs)) v:=
 wait_enter H (main:=false) (J:=M.I) (Z1:=fun g=>Vway M.P M.cw M.C1 g v) (Z2:=fun g=>Vway M.P M.cw (M.C2 M.n) g v) cw_back (fun g h=>.stop fun v₁ h₁=>h.imp fun g q=>q.rely h₁) cw_back (wait_c2 H hn M.n)
end Go.Vk
end
section
namespace Go.Vk
open Go.Conc Go.RowKit Go.Conc.Lib Go.ConcR.Gen
open Go.ConcR (KK wgBlock WgAt stA smA rd wr mk)
open Go.ConcN (WgLive)
def rootF (P:Program):Frame:={(default:Frame) with fn:=P.funcs.size,defers:=[],mode:= .panicking [goexitEntry]}
section
variable {P : Program} {main : Bool} {b : Frame} {a : Act} {todo : List Item} {fn : Func}
theorem stepG_born {f:FuncId} {caps:Array Value} {cap2:Array Value} {c:Code} (hf:P.funcs[f]?=some fn) (hname:(fn.name == "runtime.NumGoroutine")=false) (hb:fn.body=some c) (w:World):
  stepG P main (born P {target:= .fn (.func f) caps,args:=cap2}) w= .go (G ((baseD f).at {tmps:=(cap2++caps)++Array.replicate (fn.ntmps-(cap2++caps).size) undef,defers:=[]} [.code c]) [rootF P]) w #[]:=by
 have h1: ¬fn.name= "runtime.NumGoroutine" :=by simpa using hname
 rw [←enter_atD (cap2++caps) hf hb]
 simp [born,rootF,G,stepG,unwind,callDeferred,Frame.at,invoke,callFunc,hf,h1,hb,GStep.after,seen_none]
theorem quits_root (hn:b.kind= .deferred) (hd:a.defers=[]) (hf:P.funcs[b.fn]?=some fn) (hr:fn.results= #[]):QuitsD P 2 0 (G {b.at a todo with mode:= .returning} [rootF P]):=by
 have s1: ∀w,stepG P false (G {b.at a todo with mode:= .returning} [rootF P]) w= .go (G (rootF P) []) w #[]:=fun w=>by
  have h1:=results_none hr a.tmps P w
  have h2:=fun es=>events_results_none (P:=P) (w:=w) hr a.tmps es
  simp [G,stepG,unwind,doReturn,Frame.at,hn,hd,hf,h1,h2,seen,GStep.after,rootF,goexitEntry]
 have s2: ∀w,stepG P false (G (rootF P) []) w= .go {frame:=rootF P,callers:=[],status:= .finished,dying:=none} w #[]:=fun w=>by
  have hnf:P.funcs[P.funcs.size]?=none:=by simp
  have ht:(default:Frame).todo=[]:=rfl
  simp [G,stepG,unwind,rootF,goexitEntry,Frame.catches,hnf,ht]
 exact .ctl rfl s1 (.ctl rfl s2 ⟨rfl,rfl⟩)
end
variable {M : Mp}
set_option maxRecDepth 100000 in
theorem done_walkD (H:WgLib M.P M.L) {b:Frame} {tmps:Array Value} {todo:List Item} {fn:Func} (hn:b.kind= .deferred) (hf:M.P.funcs[b.fn]?=some fn) (hr:fn.results= #[]):
  M.Qs M.W2 (G {b.at ⟨tmps,[dcall M.L.done #[.pointer (some ⟨M.Wg,0,none⟩)]]⟩ todo with mode:= .returning} [rootF M.P]):=by
 lib_facts
 refine (qs_back (S:=M.W2)).ctl rfl (fun w _=>stepG_unwind_enter rfl H.f_done (nm_done M.L) (show (doneFn M.L).body=some (body_done M.L) from rfl)) ?_
 have hA:= @add_down M.P M.L H false M.I M.Wg (fun w h=>wg_live h)
 simp only [body_done,doneFn,Option.getD_some]
 walk_nrm
 refine qs_back.region ?_
 simp only [List.size_toArray,List.length_cons,List.length_nil,Nat.reduceAdd,Nat.zero_add,List.range,List.range.loop]
 refine qs_back.value rfl rfl (by k_ne) (fun w hw=>by go_simp<;>rfl) (fun w hw=>by simp [go_sem, *]) ?_
 walk_nrm
 refine qs_back.enter rfl rfl (by k_ne) rfl H.f_add (nm_add M.L) (show (addFn M.L).body=some (body_add M.L) from rfl) ?_
 have ea:(#[Operand.tmp 2,Operand.const (.int .i64 (-1))]:Array Operand).map (Act.eval ⟨#[.pointer (some ⟨M.Wg,0,none⟩),undef,.pointer (some ⟨M.Wg,0,none⟩),undef],[]⟩)= #[.pointer (some ⟨M.Wg,0,none⟩),.int .i64 (-1)]:=by simp [Act.eval]
 rw [ea]
 refine hA (Z0:=M.Qs M.W2) (Z1:=M.Qs M.W3) (Z2:=M.Qs M.W4) (Z3:=M.Qs M.W5) (Z4:=M.Qs M.W6) (Z5:=M.Qs M.W7) (Zr:=M.Q 1) qs_back (fun g h=>⟨0,h⟩) qs_back (fun g h=>⟨0,h⟩) qs_back (fun g h=>⟨0,h⟩) qs_back (fun g h=>⟨0,h⟩) qs_back (fun g h=>⟨0,h⟩) qs_back (fun g h=>⟨0,h⟩) quits_back fun tmps' todo'=>?_
 refine ⟨7,QuitsD.unwind_mark (n:=6) .enable rfl (by simp) rfl H.f_enable (x_enable_n M.L) (x_enable_b M.L) (x_enable_x M.L) (x_enable_f M.L) ?_⟩
 refine QuitsD.leave0 rfl rfl H.f_add rfl ?_
 refine .ctl rfl (fun w=>stepG_region_end) ?_
 refine .ctl rfl (fun w=>stepG_end) ?_
 refine QuitsD.leaveD rfl rfl H.f_done rfl rfl ?_
 exact quits_root hn rfl hf hr
end Go.Vk
end
section
namespace Go.Vk
open Go.Conc
section
variable {P : Program}
theorem Tame.map {α β:Type} {f:α→β} {p:Sem α} (h:Tame P p):Tame P (Functor.map f p):=Tame.bind (fun _=>Tame.pure) h
theorem tame_stuck {α:Type} {s:String}:Tame P (stuck s:Sem α):=trivial
theorem tame_unsupported {α:Type} {s:Unsupported}:Tame P (unsupported s:Sem α):=trivial
theorem tame_goPanic {α:Type} {s:Value}:Tame P (goPanic s:Sem α):=trivial
theorem tame_program:Tame P program:=trivial
theorem tame_choose {q:Question}:Tame P (choose q):=fun _=>trivial
theorem tame_load {a:Addr} {m:Mode}:Tame P (load a m):=fun _=>trivial
theorem tame_store {a:Addr} {v:Value} {m:Mode}:Tame P (store a v m):=trivial
theorem tame_newObj {o:Obj} (h:NoView o):Tame P (newObj o):=⟨h,fun _=>trivial⟩
theorem tame_typeInfo {t:TypeId}:Tame P (typeInfo t):=by
 unfold typeInfo
 refine Tame.bind (fun p=>?_) tame_program
 split<;>trivial
theorem tame_underlying {t:TypeId}:Tame P (underlying t):=by
 unfold underlying
 refine Tame.bind (fun p=>?_) tame_program
 split<;>trivial
theorem tame_sizeOf {t:TypeId}:Tame P (sizeOf t):=Tame.bind (fun _=>Tame.pure) tame_typeInfo
theorem tame_zero {t:TypeId}:Tame P (zeroValue t):=by
 unfold zeroValue
 refine Tame.bind (fun p=>?_) tame_typeInfo
 split<;>trivial
theorem tame_isAgg {t:TypeId}:Tame P (isAgg t):=by
 unfold isAgg
 refine Tame.bind (fun p=>?_) tame_underlying
 split<;>trivial
theorem tame_loadFrom {a:Addr}: ∀(n i:Nat) (acc:Array Value),Tame P (loadCellsFrom a i n acc)
 | 0,_,_=>trivial
 | n+1,i,acc=>Tame.bind (fun v=>tame_loadFrom n (i+1) _) tame_load
theorem tame_loadCells {a:Addr} {n:Nat}:Tame P (loadCells a n):=tame_loadFrom _ _ _
theorem tame_storeCells {a:Addr}: ∀(vs:List Value) (i:Nat),Tame P (storeCells a vs i)
 | [],_=>trivial
 | v::vs,i=>Tame.bind (fun _=>tame_storeCells vs (i+1)) tame_store
theorem tame_loadVar {t:TypeId} {a:Addr}:Tame P (loadVar t a):=by
 unfold loadVar
 refine Tame.bind (fun b=>?_) tame_isAgg
 cases b
 ·exact tame_load
 ·exact Tame.bind (fun _=>Tame.bind (fun _=>Tame.pure) tame_loadCells) tame_sizeOf
theorem tame_storeVar {t:TypeId} {a:Addr} {v:Value}:Tame P (storeVar t a v):=by
 unfold storeVar
 refine Tame.bind (fun n=>?_) tame_sizeOf
 split
 ·exact Tame.bind (fun _=>tame_storeCells _ _) tame_stuck
 ·exact tame_storeCells _ _
theorem tame_newRow {t:TypeId} {cs:Array Value}:Tame P (newRow t cs):=Tame.bind (fun _=>Tame.pure) (tame_newObj fun _ _ e=>by cases e)
theorem tame_newVar {t:TypeId} {v:Value}:Tame P (newVar t v):=tame_newRow
theorem tame_elemOf {t:TypeId}:Tame P (elemOf t):=by
 unfold elemOf
 refine Tame.bind (fun p=>?_) tame_underlying
 split<;>trivial
theorem tame_part {t:TypeId} {cs:Array Value} {n:Nat}:Tame P (part t cs n):=by
 unfold part
 refine Tame.bind (fun b=>?_) tame_isAgg
 cases b
 ·show Tame P (match cs[n]? with | some v=>pure v | none=>stuck "part: no such cell")
  split<;>trivial
 ·exact Tame.bind (fun _=>Tame.pure) tame_sizeOf
theorem tame_runtimePanic {α:Type} {e:RuntimeError}:Tame P (runtimePanic e:Sem α):=by
 unfold runtimePanic
 refine Tame.bind (fun p=>?_) tame_program
 cases e<;>first | exact tame_goPanic | exact Tame.bind (fun _=>Tame.bind (fun _=>tame_goPanic) tame_newVar) tame_elemOf
theorem tame_asIntOf {v:Value}:Tame P (asIntOf v):=by unfold asIntOf;split<;>trivial
theorem tame_asInt {v:Value}:Tame P (asInt v):=Tame.bind (fun _=>Tame.pure) tame_asIntOf
theorem tame_asBool {v:Value}:Tame P (asBool v):=by unfold asBool;split<;>trivial
theorem tame_asAgg {v:Value}:Tame P (asAgg v):=by unfold asAgg;split<;>trivial
theorem tame_asAddr {v:Value}:Tame P (asAddr v):=by unfold asAddr;split<;>first | exact tame_runtimePanic | trivial
theorem tame_sureAddr {v:Value}:Tame P (Instr.sureAddr v):=by unfold Instr.sureAddr;split<;>trivial
theorem tame_askRoom {n:Nat}:Tame P (askRoom n):=by unfold askRoom;split<;>first | exact ⟨.inl rfl,trivial⟩ | trivial
theorem tame_getObj {n:Nat}:Tame P (getObj n):=fun _=>trivial
theorem tame_mapM {α β:Type} {f:α→Sem β} (h: ∀a,Tame P (f a)): ∀(l:List α),Tame P (l.mapM f)
 | []=>trivial
 | a::l=>by
  rw [List.mapM_cons]
  exact Tame.bind (fun _=>Tame.bind (fun _=>Tame.pure) (tame_mapM h l)) (h a)
theorem tame_mapA {α β:Type} {f:α→Sem β} (h: ∀a,Tame P (f a)) (l:Array α):Tame P (l.mapM f):=by
 rw [Array.mapM_eq_mapM_toList]
 exact Tame.map (tame_mapM h _)
theorem tame_foldlM {α β:Type} {f:β→α→Sem β} (h: ∀b a,Tame P (f b a)): ∀(l:List α) (b:β),Tame P (l.foldlM f b)
 | [],_=>trivial
 | a::l,b=>by
  rw [List.foldlM_cons]
  exact Tame.bind (fun _=>tame_foldlM h l _) (h b a)
theorem tms {α:Type} {p:Sem α} (e:Tame P p:=by
  try dsimp only
  repeat' first
   | with_reducible exact Tame.pure
   | with_reducible exact tame_stuck
   | with_reducible exact tame_unsupported
   | with_reducible exact tame_goPanic
   | with_reducible exact tame_runtimePanic
   | with_reducible exact tame_underlying
   | with_reducible exact tame_typeInfo
   | with_reducible exact tame_sizeOf
   | with_reducible exact tame_zero
   | with_reducible exact tame_isAgg
   | with_reducible exact tame_asIntOf
   | with_reducible exact tame_asInt
   | with_reducible exact tame_asBool
   | with_reducible exact tame_asAgg
   | with_reducible exact tame_asAddr
   | with_reducible exact tame_sureAddr
   | with_reducible exact tame_askRoom
   | with_reducible exact tame_getObj
   | with_reducible exact tame_choose
   | with_reducible exact tame_program
   | with_reducible exact tame_part
   | with_reducible exact tame_newRow
   | with_reducible exact tame_newVar
   | with_reducible exact tame_loadVar
   | with_reducible exact tame_loadCells
   | with_reducible assumption
   | with_reducible refine Tame.bind (fun _=>?_) ?_
   | with_reducible refine Tame.map ?_
   | split):Tame P p:=e
theorem tame_boundsPanic {α:Type} {k:IntKind} {x y:Int} {c:BoundsCode}:Tame P (boundsPanic k x y c:Sem α):=by unfold boundsPanic;exact tms
theorem tame_stringOp {op:BinOp} {x y:ByteArray}:Tame P (Op.stringOp op x y):=by unfold Op.stringOp;cases op<;>exact tms
theorem tame_sliceBound {x:Value} {y:Nat} {c:BoundsCode}:Tame P (Instr.sliceBound x y c):=by
 unfold Instr.sliceBound
 refine Tame.bind (fun k=>?_) tame_asIntOf
 try dsimp only
 split
 ·exact tms
 ·exact tame_boundsPanic
theorem tmu {α:Type} {p:Sem α} (e:Tame P p:=by
  try dsimp only
  repeat' first
   | with_reducible exact Tame.pure
   | with_reducible exact tame_stuck
   | with_reducible exact tame_unsupported
   | with_reducible exact tame_goPanic
   | with_reducible exact tame_runtimePanic
   | with_reducible exact tame_underlying
   | with_reducible exact tame_typeInfo
   | with_reducible exact tame_sizeOf
   | with_reducible exact tame_zero
   | with_reducible exact tame_isAgg
   | with_reducible exact tame_asIntOf
   | with_reducible exact tame_asInt
   | with_reducible exact tame_asBool
   | with_reducible exact tame_asAgg
   | with_reducible exact tame_asAddr
   | with_reducible exact tame_sureAddr
   | with_reducible exact tame_askRoom
   | with_reducible exact tame_getObj
   | with_reducible exact tame_choose
   | with_reducible exact tame_program
   | with_reducible exact tame_part
   | with_reducible exact tame_newRow
   | with_reducible exact tame_newVar
   | with_reducible exact tame_loadVar
   | with_reducible exact tame_loadCells
   | with_reducible exact tame_boundsPanic
   | with_reducible exact tame_sliceBound
   | with_reducible exact tame_stringOp
   | with_reducible assumption
   | with_reducible refine Tame.bind (fun _=>?_) ?_
   | with_reducible refine Tame.map ?_
   | split):Tame P p:=e
theorem tame_sliceBounds {b:Bool} {n c:Nat} {l h m:Option Value}:Tame P (Instr.sliceBounds b n c l h m):=by
 unfold Instr.sliceBounds
 cases m<;>cases h<;>cases l<;>exact tmu
theorem tmt {α:Type} {p:Sem α} (e:Tame P p:=by
  try dsimp only
  repeat' first
   | with_reducible exact Tame.pure
   | with_reducible exact tame_stuck
   | with_reducible exact tame_unsupported
   | with_reducible exact tame_goPanic
   | with_reducible exact tame_runtimePanic
   | with_reducible exact tame_underlying
   | with_reducible exact tame_typeInfo
   | with_reducible exact tame_sizeOf
   | with_reducible exact tame_zero
   | with_reducible exact tame_isAgg
   | with_reducible exact tame_asIntOf
   | with_reducible exact tame_asInt
   | with_reducible exact tame_asBool
   | with_reducible exact tame_asAgg
   | with_reducible exact tame_asAddr
   | with_reducible exact tame_sureAddr
   | with_reducible exact tame_askRoom
   | with_reducible exact tame_getObj
   | with_reducible exact tame_choose
   | with_reducible exact tame_program
   | with_reducible exact tame_part
   | with_reducible exact tame_newRow
   | with_reducible exact tame_newVar
   | with_reducible exact tame_loadVar
   | with_reducible exact tame_loadCells
   | with_reducible exact tame_boundsPanic
   | with_reducible exact tame_sliceBound
   | with_reducible exact tame_sliceBounds
   | with_reducible exact tame_stringOp
   | with_reducible assumption
   | with_reducible refine Tame.bind (fun _=>?_) ?_
   | with_reducible refine Tame.map ?_
   | split):Tame P p:=e
theorem tame_loadAt {t:TypeId} {a:Value}:Tame P (Instr.loadAt t a):=Tame.bind (fun _=>tame_loadVar) tame_sureAddr
theorem tame_storeAt {t:TypeId} {a v:Value}:Tame P (Instr.storeAt t a v):=Tame.bind (fun _=>tame_storeVar) tame_sureAddr
theorem tame_alloc {t:TypeId}:Tame P (Instr.alloc t true (.tuple #[])):=Tame.bind (fun _=>Tame.bind (fun _=>Tame.pure) tame_newVar) tame_zero
theorem tame_box {t:TypeId} {v:Value}:Tame P (Instr.box t v):=Tame.bind (fun _=>Tame.pure) tame_newVar
theorem tame_build {t:TypeId} {ps:Array (Nat×Value)}:Tame P (Instr.build t ps):=by
 have h: ∀fs:Array Field,Tame P (fs.mapM fun f=>(do pure (f.offset,←sizeOf f.type):Sem (Nat×Nat))):=fun fs=>tame_mapA (fun f=>Tame.bind (fun _=>Tame.pure) tame_sizeOf) _
 unfold Instr.build
 refine Tame.bind (fun z=>Tame.bind (fun d=>?_) tame_underlying) tame_zero
 cases d with
 | struct fs=>exact Tame.bind (fun _=>tms) (h fs)
 | _=>exact tms
theorem tame_buildSlice {t:TypeId} {n:Nat} {ps:Array (Nat×Value)}:Tame P (Instr.buildSlice t n ps):=by unfold Instr.buildSlice;exact tms
theorem tame_field {t:TypeId} {x:Value} {n:Nat}:Tame P (Instr.field t x n):=by unfold Instr.field;exact tms
theorem tame_index {t:TypeId} {x i:Value}:Tame P (Instr.index t x i):=by unfold Instr.index;exact tmt
theorem tame_indexAt {t:TypeId} {x i:Value}:Tame P (Instr.indexAt t x i):=by unfold Instr.indexAt;exact tmt
theorem tame_extract {x:Value} {i:Nat}:Tame P (Instr.extract x i):=by unfold Instr.extract;exact tms
theorem tame_slice {t:TypeId} {x:Value} {l h m:Option Value}:Tame P (Instr.slice t x l h m):=by unfold Instr.slice;exact tmt
theorem tame_sliceAt {t:TypeId} {x:Value} {l h m:Option Value}:Tame P (Instr.sliceAt t x l h m):=by
 unfold Instr.sliceAt
 refine Tame.bind (fun d=>?_) tame_underlying
 split
 ·exact Tame.bind (fun _=>Tame.bind (fun _=>Tame.bind (fun _=>Tame.pure) tame_sizeOf) tame_sliceBounds) tame_sureAddr
 ·exact tame_slice
theorem tame_makeSlice {t:TypeId} {l c:Value}:Tame P (Instr.makeSlice t l c):=by unfold Instr.makeSlice;exact tms
theorem tame_makeInterface {t:TypeId} {x:Value}:Tame P (Instr.makeInterface t x):=by unfold Instr.makeInterface;exact tms
theorem tame_len {ats:Array TypeId} {t:TypeId} {args:Array Value}:Tame P (Builtin.len_ ats t args):=by unfold Builtin.len_;exact tms
theorem tame_min2 {v u:Value}:Tame P (Builtin.min2 v u):=by unfold Builtin.min2;exact tmt
theorem tame_max2 {v u:Value}:Tame P (Builtin.max2 v u):=by unfold Builtin.max2;exact tmt
theorem tame_min {ats:Array TypeId} {t:TypeId} {args:Array Value}:Tame P (Builtin.min_ ats t args):=by
 unfold Builtin.min_
 split
 ·exact tame_stuck
 ·exact tame_foldlM (fun _ _=>tame_min2) _ _
theorem tame_max {ats:Array TypeId} {t:TypeId} {args:Array Value}:Tame P (Builtin.max_ ats t args):=by
 unfold Builtin.max_
 split
 ·exact tame_stuck
 ·exact tame_foldlM (fun _ _=>tame_max2) _ _
def Soft {α:Type} (p:Sem α):Prop:=match p with | .pure _=>True | .shape _ _=>True | .frozen _ _=>True | _=>False
theorem Tame.soft {α β:Type} {p:Sem α} {f:α→Sem β} (hs:Soft p) (hd: ∀a,Dead (f a)) (ht: ∀a,Tame P (f a)):Tame P (p >>=f):=by
 cases p<;>first | exact hs.elim | skip
 ·exact ht _
 ·exact fun s=>Dead.then (p:=_) hd
 ·exact fun s=>Dead.then (p:=_) hd
theorem soft_share {size sLen n:Nat} {base:Option Addr} {x:Value}:Soft (Builtin.mayShare size sLen n base x):=by
 cases base with
 | some a=>trivial
 | none=>cases x with
  | slice b _ _=>cases b<;>trivial
  | _=>trivial
theorem Tame.under {u:TypeId} {d:TypeDesc} (hu:P.underlying u=some d) {β:Type} {f:TypeDesc→Sem β} (h:Tame P (f d)):Tame P (underlying u >>=f):=by
 show Tame P (Sem.bind (underlying u) f)
 simp only [underlying,program,Bind.bind,Sem.bind,Tame,hu]
 exact h
theorem tame_append {ats:Array TypeId} {t:TypeId} {args:Array Value} {u:TypeId} {ut:TypeDesc} (h1:ats[1]?=some u) (hu:P.underlying u=some ut) (hut:(∃e,ut= .slice e)∨ut= .string):Tame P (Builtin.append_ ats t args):=by
 have cells: ∀ {s n:Nat} {v:Value},Tame P (Builtin.firstCells s n v):=fun {s n v}=>by unfold Builtin.firstCells;exact tms
 have len: ∀ {v:Value},Tame P (Builtin.lenOf v):=fun {v}=>by unfold Builtin.lenOf;exact tms
 have st: ∀ {a:Addr} {l:List Value},Tame P (storeCells a l):=fun {a l}=>tame_storeCells _ _
 have dead: ∀ {α:Type} {size sLen n:Nat} {base:Option Addr} {x:Value} {u:Unsupported} {g:Unit→Sem α},Tame P (Builtin.mayShare size sLen n base x >>=fun b=>if (!b)=true then (mark .noRoom >>=fun _=>(unsupported u:Sem Unit) >>=g) else ((unsupported u:Sem Unit) >>=g)):=fun {α size sLen n base x u g}=>
  Tame.soft soft_share (fun a=>by
   cases a
   ·exact Dead.then (p:=_) fun _=>Dead.bind Dead.halt _
   ·exact Dead.bind Dead.halt _) fun a=>by
   cases a
   ·exact ⟨.inl rfl,trivial⟩
   ·trivial
 have dead0: ∀ {size sLen n:Nat} {base:Option Addr} {x:Value} {u:Unsupported},Tame P (Builtin.mayShare size sLen n base x >>=fun b=>if (!b)=true then (mark .noRoom >>=fun _=>(unsupported u:Sem PUnit)) else (unsupported u:Sem PUnit)):=fun {size sLen n base x u}=>
  Tame.soft soft_share (fun a=>by
   cases a
   ·exact Dead.then (p:=_) fun _=>Dead.halt
   ·exact Dead.halt) fun a=>by
   cases a
   ·exact ⟨.inl rfl,trivial⟩
   ·trivial
 unfold Builtin.append_
 cases h0:ats[0]? with
 | none=>exact tame_stuck
 | some t0=>
  cases ha:args[0]? with
  | none=>exact tame_stuck
  | some s=>
   cases hb:args[1]? with
   | none=>exact tame_stuck
   | some x=>
    refine Tame.bind (fun d=>?_) tame_underlying
    cases d<;>first | exact tame_stuck | skip
    cases s<;>first | exact tame_stuck | skip
    rename_i e base sLen sCap
    refine Tame.bind (fun size=>?_) tame_sizeOf
    simp only [h1]
    refine Tame.under hu ?_
    have hz:(match ut with | .int _=>true | _=>false)=false:=by rcases hut with ⟨e',rfl⟩ | rfl<;>rfl
    rcases hut with ⟨e',rfl⟩ | rfl
    all_goals
     try dsimp only
     simp only [Bool.false_eq_true,if_false,Bool.not_false,if_true,false_or,pure_bind]
     refine Tame.bind (fun n=>?_) len
     split
     ·refine Tame.bind (fun nw=>?_) cells
      split
      ·exact Tame.bind (fun _=>Tame.pure) st
      ·exact Tame.pure
     ·repeat' first
       | with_reducible exact Tame.pure
       | with_reducible exact tame_unsupported
       | with_reducible exact tame_runtimePanic
       | with_reducible exact tame_typeInfo
       | with_reducible exact tame_zero
       | with_reducible exact tame_askRoom
       | with_reducible exact tame_choose
       | with_reducible exact tame_newRow
       | with_reducible exact cells
       | with_reducible exact dead
       | exact dead0
       | with_reducible refine Tame.bind (fun _=>?_) ?_
       | split
theorem tame_results {fn:Func} {tmps:Array Value}:Tame P (results fn tmps):=by
 unfold results
 refine Tame.bind (fun _=>Tame.pure) (tame_mapA (fun r=>?_) _)
 cases r with
 | tmp t=>exact Tame.pure
 | cell a t=>exact Tame.bind (fun _=>tame_loadVar) tame_asAddr
end
end Go.Vk
end
section
namespace Go.Vk
open Go.Conc Go.RowKit Go.Conc.Lib Go.ConcR.Gen
open Go.ConcR (KK wgBlock WgAt stA smA rd wr mk)
open Go.ConcN (WgLive)
theorem Itf.cell {v v₁:World} (h:Itf v v₁) {a:Addr} {x:Value} (hc:v.cell? a=some x):v₁.cell? a=some x:=by
 have hlt:a.block<v.heap.size:=by
  unfold World.cell? at hc
  cases hg:v.heap[a.block]? with
  | none=>rw [hg] at hc;cases hc
  | some o=>exact lt_of_get hg
 unfold World.cell? at hc ⊢
 rw [h.get hlt];exact hc
theorem Vway.load {P:Program} {cx:Cx} {S:Goroutine→World→Prop} {b:Frame} {a:Act} {k:List Item} {cs:List Frame} {ops:Array Oper} {i:Nat} {rest:List Nat} {o:Oper} {t:TypeId} {x:Operand} {ad:Addr} {val:Value} {v:World}
  (ho:ops[i]?=some o) (hw:Region.wanted o (yielded ops a.tmps)=true) (hk:b.kind≠ .early) (hop:o.op= .load t x) (ha: ∀w,(isAgg t).run P w= .ok false w) (hx:a.eval x= .pointer (some ad)) (hc:v.cell? ad=some val)
  (hn:Vway P cx S (G (b.at (a.put o.dst val) (.inRegion ops rest::k)) cs) v):Vway P cx S (G (b.at a (.inRegion ops (i::rest)::k)) cs) v:=by
 refine .go rfl fun v₁ h₁=>⟨_,v₁,.value ho hw hk ?_ ?_,hn.rely h₁⟩
 ·unfold execOp
  simp only [hop]
  exact Tame.bind (fun _=>Tame.pure) tame_loadAt
 ·have:=h₁.cell hc
  have hx':Act.eval a x= .pointer (some ad):=hx
  simp [execOp,hop,hx',Instr.loadAt,Instr.sureAddr,loadVar,ha,this]
end Go.Vk
end
section
namespace Go.Vk
open Go.Conc Go.RowKit Go.Conc.Lib Go.ConcR.Gen
open Go.ConcR (KK wgBlock WgAt stA smA rd wr mk)
open Go.ConcN (WgLive)
theorem run_enterF {P:Program} {f:FuncId} {fn:Func} {c:Code} (hf:P.funcs[f]?=some fn) (hname:(fn.name == "runtime.NumGoroutine")=false) (hb:fn.body=some c) (args:Array Value) (w:World):
  (callFunc f args).run P w= .ok (.enter f args) w:=by
 have h1:fn.name≠ "runtime.NumGoroutine" :=by simpa using hname
 simp [callFunc,hf,h1,hb]
theorem tame_enterF {P:Program} {f:FuncId} {fn:Func} {c:Code} (hf:P.funcs[f]?=some fn) (hname:(fn.name == "runtime.NumGoroutine")=false) (hb:fn.body=some c) (args:Array Value):Tame P (callFunc f args):=by
 have h1:fn.name≠ "runtime.NumGoroutine" :=by simpa using hname
 unfold callFunc
 simp only [program,Bind.bind,Sem.bind,Tame,hf,hname,hb,Bool.false_eq_true,if_false]
 exact Tame.pure
section
variable {P : Program} {cx : Cx} {S : Goroutine → World → Prop} {b : Frame} {a : Act} {k : List Item} {cs : List Frame} {ops : Array Oper} {i : Nat} {rest : List Nat} {o : Oper} {v : World}
theorem Vway.callv {x:Operand} {args:Array Operand} {ats:Array TypeId} {f:FuncId} {cap:Array Value} {fn:Func} {c:Code} {R:Ending→World→Prop} (ho:ops[i]?=some o) (hw:Region.wanted o (yielded ops a.tmps)=true) (hk:b.kind≠ .early)
  (hop:o.op= .call {callee:= .value x,args,argTypes:=ats}) (hx:a.eval x= .func (.func f) #[] cap) (hf:P.funcs[f]?=some fn) (hname:(fn.name == "runtime.NumGoroutine")=false) (hb:fn.body=some c)
  {avs:Array Value} (hargs:args.map a.eval=avs) (h: ∀v₁,Itf v v₁→CallsV P f (avs++cap) v₁ R) (hn: ∀y v',R (.returned y) v'→Vway P cx S (G (b.at (a.put o.dst y) (.inRegion ops rest::k)) cs) v'):Vway P cx S (G (b.at a (.inRegion ops (i::rest)::k)) cs) v:=by
 subst hargs
 have hfin: ∀y,(b.at a (.inRegion ops (i::rest)::k)).finish y=b.at (a.put o.dst y) (.inRegion ops rest::k):=fun y=>by rw [Frame.finish_at,ho];rfl
 have e:execOp a.eval o=callFunc f (args.map a.eval++cap):=by
  simp only [execOp,hop,resolve,hx,Deferred.ofValue,invoke]
  simp [invoke]
  try rfl
 refine .go rfl fun v₁ h₁=>⟨_,v₁,.enter ho hw hk (by rw [e];exact tame_enterF hf hname hb _) (by rw [e];exact run_enterF hf hname hb _ _),Vway.body (h v₁ h₁) fun y v' hy=>?_⟩
 rw [hfin]
 exact hn y v' hy
end
end Go.Vk
end
section
namespace Go.Vk
open Go.Conc Go.RowKit Go.Conc.Lib Go.ConcR.Gen
open Go.ConcR (KK wgBlock WgAt stA smA rd wr mk)
open Go.ConcN (WgLive)
variable {M : Mp}
theorem send_at {b:Frame} {a:Act} {k:List Item} {cs:List Frame} {ops:Array Oper} {i:Nat} {rest:List Nat} {o:Oper} {x y:Operand} {c:Nat} {val:Value} {P:Program} {main:Bool} (ho:ops[i]?=some o) (hw:Region.wanted o (yielded ops a.tmps)=true) (hk:b.kind≠ .early) (hop:o.op= .send x y)
  (hx:a.eval x= .chan (some c)) (hy:a.eval y=val) (w:World):stepG P main (G (b.at a (.inRegion ops (i::rest)::k)) cs) w= .comm (G (b.at a (.inRegion ops (i::rest)::k)) cs) #[scase c val (.tuple #[])] true .send w #[]:=by
 rw [stepG_comm (cases:= #[scase c val (.tuple #[])]) (blocking:=true) (shape:= .send) (w':=w) ho hw hk (by simp [execOp,hop,hx,hy,scase])]
 have he:(execOp a.eval o).events P w #[]= #[]:=by
  unfold execOp
  simp only [hop]
  rfl
 unfold listed
 rw [he]
 simp [seen]
end Go.Vk
end
section
namespace Go.Vk
open Go.Conc
def Mute (P:Program) {α:Type}:Sem α→Prop
 | .pure _=>True
 | .program k=>Mute P (k P)
 | .halt _=>True
 | _=>False
theorem Mute.bind {P:Program} {α β:Type} {f:α→Sem β} (hf: ∀a,Mute P (f a)): ∀ {p:Sem α},Mute P p→Mute P (p >>=f)
 | .pure a,h=>hf a
 | .program k,h=>Mute.bind hf (p:=k P) h
 | .halt x,h=>trivial
 | .load ..,h=>h.elim
 | .store ..,h=>h.elim
 | .new ..,h=>h.elim
 | .shape ..,h=>h.elim
 | .freeze ..,h=>h.elim
 | .frozen ..,h=>h.elim
 | .getObj ..,h=>h.elim
 | .setObj ..,h=>h.elim
 | .choose ..,h=>h.elim
 | .sys ..,h=>h.elim
 | .mark ..,h=>h.elim
theorem Mute.events {P:Program} {α:Type}: ∀ {p:Sem α},Mute P p→ ∀(w:World) (es:Array Event),p.events P w es=es
 | .pure a,_,w,es=>rfl
 | .program k,h,w,es=>Mute.events (p:=k P) h w es
 | .halt x,h,w,es=>rfl
 | .load ..,h,_,_=>h.elim
 | .store ..,h,_,_=>h.elim
 | .new ..,h,_,_=>h.elim
 | .shape ..,h,_,_=>h.elim
 | .freeze ..,h,_,_=>h.elim
 | .frozen ..,h,_,_=>h.elim
 | .getObj ..,h,_,_=>h.elim
 | .setObj ..,h,_,_=>h.elim
 | .choose ..,h,_,_=>h.elim
 | .sys ..,h,_,_=>h.elim
 | .mark ..,h,_,_=>h.elim
section
variable {P : Program}
theorem mute_pure {α:Type} {x:α}:Mute P (pure x:Sem α):=trivial
theorem mute_halt {α:Type} {x:Halt}:Mute P (.halt x:Sem α):=trivial
theorem mute_program:Mute P (program):=trivial
theorem mute_typeInfo {t:TypeId}:Mute P (typeInfo t):=by
 unfold typeInfo
 refine Mute.bind (fun p=>?_) mute_program
 split<;>first | exact mute_pure | exact mute_halt
theorem mute_underlying {t:TypeId}:Mute P (underlying t):=by
 unfold underlying
 refine Mute.bind (fun p=>?_) mute_program
 split<;>first | exact mute_pure | exact mute_halt
theorem mute_sizeOf {t:TypeId}:Mute P (sizeOf t):=by
 unfold sizeOf
 exact Mute.bind (fun _=>mute_pure) mute_typeInfo
theorem mute_zeroValue {t:TypeId}:Mute P (zeroValue t):=by
 unfold zeroValue
 refine Mute.bind (fun p=>?_) mute_typeInfo
 split<;>first | exact mute_pure | exact mute_halt
theorem mute_forIn {α β:Type} {f:α→β→Sem (ForInStep β)} (h: ∀a b,Mute P (f a b)): ∀(l:List α) (b:β),Mute P (forIn l b f)
 | [],b=>mute_pure
 | a::l,b=>by
  rw [List.forIn_cons]
  refine Mute.bind (fun r=>?_) (h a b)
  cases r with
  | done b=>exact mute_pure
  | yield b=>exact mute_forIn h l b
theorem mute_mapM' {α β:Type} {f:α→Sem β} (h: ∀a,Mute P (f a)): ∀(l:List α),Mute P (l.mapM f)
 | []=>by simp [mute_pure]
 | a::l=>by
  rw [List.mapM_cons]
  exact Mute.bind (fun b=>Mute.bind (fun bs=>mute_pure) (mute_mapM' h l)) (h a)
theorem mute_build {t:TypeId} {ps:Array (Nat×Value)}:Mute P (Instr.build t ps):=by
 unfold Instr.build
 refine Mute.bind (fun z=>?_) mute_zeroValue
 refine Mute.bind (fun u=>?_) mute_underlying
 split
 ·refine Mute.bind (fun places=>?_) ?_
  ·split<;>first | exact mute_pure | exact mute_halt
  ·rw [Array.mapM_eq_mapM_toList]
   exact Mute.bind (fun _=>mute_pure) (mute_mapM' (fun f=>Mute.bind (fun _=>mute_pure) mute_sizeOf) _)
 ·refine Mute.bind (fun s=>?_) mute_sizeOf
  split<;>first | exact mute_pure | exact mute_halt
 ·exact mute_halt
end
end Go.Vk
end
section
namespace Go.Vk
open Go.Conc Go.Conc.Lib
open Go.ConcR (KK wgBlock WgAt stA smA rd wr mk)
open Go.ConcN (WgLive)
def blk:Loc→Option Nat
 | .cell a=>some a.block
 | .obj r=>some r
 | _=>none
def KnA (t:Trace) (j b:Nat):Prop:= ∀i a,touchAt t i=some a→blk a.loc=some b→Knows t j i
def KnW (t:Trace) (j b:Nat):Prop:= ∀i a,touchAt t i=some a→blk a.loc=some b→a.write=true→Knows t j i
structure Sep (M:Mp) (N sz:Nat) (γ:Nat→Gh):Prop where
 lt: ∀j b,j<N→(γ j).ow b→b<sz
 flt: ∀j b,j<N→(γ j).fz b→b<sz
 ap: ∀j k b,j<N→k<N→j≠k→(γ j).ow b→ ¬(γ k).ow b
 apf: ∀j k b,j<N→k<N→(γ j).ow b→ ¬(γ k).fz b
 nw: ∀j b,j<N→(γ j).ow b∨(γ j).fz b→b≠M.Wg∧b≠M.c
 wlt:M.Wg<sz
 clt:M.c<sz
structure TI (M:Mp) (N sz:Nat) (γ:Nat→Gh) (d:Nat→Nat) (pre:Nat→Prop) (t:Trace):Prop where
 race: ∀said,¬Race said t
 low: ∀i a b,touchAt t i=some a→blk a.loc=some b→b<sz
 ids: ∀(i:Nat) op,t[i]?=some op→op.g<N
 own: ∀j b,j<N→(γ j).ow b→KnA t j b
 fz: ∀j b,j<N→(γ j).fz b→KnW t j b
 sp: ∀i a,touchAt t i=some a→(blk a.loc=some M.Wg∨blk a.loc=some M.c)→(∀j,j<N→Knows t j i)∨a.kind= .atomic∨(a.kind= .said∧a.write=false∧(∃z,t[i]?=some z∧z.g=0)∧ ∀j,M.n<j→j<N→Knows t j i)∨(a.kind= .said∧ ∃z,t[i]?=some z∧z.g=M.n+1)
 deaf: ∀j,j<N→Deaf t j=d j
 ho: ∀(i:Nat) z,t[i]?=some z→z.g≠0→t.counts i→pre z.g∨Knows t 0 i
def TouchOk (M:Mp) (N sz sz':Nat) (γ:Gh) (j:Nat) (a:Touch):Prop:=
 (∃b,blk a.loc=some b∧(γ.ow b∨(sz≤b∧b<sz')))∨(a.write=false∧ ∃b,blk a.loc=some b∧γ.fz b)∨
  ((blk a.loc=some M.Wg∨blk a.loc=some M.c)∧(a.kind= .atomic∨(a.kind= .said∧a.write=false∧j=0∧N≤M.n+1)∨(a.kind= .said∧j=M.n+1)))
theorem counts_old {t u:Trace} {i:Nat} (h:i<t.size):(t++u).counts i↔t.counts i:=by
 have e:(t++u).act? i=t.act? i:=act?_old h
 unfold Trace.counts
 rw [e,heard_old h]
theorem get_app {t u:Trace} {i:Nat} {z:MemOp} (h:(t++u)[i]?=some z):(i<t.size∧t[i]?=some z)∨(t.size≤i∧z∈u):=getElem?_append_cases h
theorem touch_app {t u:Trace} {i:Nat} {a:Touch} (h:touchAt (t++u) i=some a):(i<t.size∧touchAt t i=some a)∨(t.size≤i∧ ∃op∈u,(t++u)[i]?=some op∧op.act.touch?=some a):=by
 obtain ⟨x,hx,hxa⟩:=touch_of h
 rcases get_app hx with ⟨hi,hx'⟩ | ⟨hi,hxu⟩
 ·exact .inl ⟨hi,by rw [touchAt_of hx'];exact hxa⟩
 ·exact .inr ⟨hi,x,hxu,hx,hxa⟩
section
variable {M : Mp} {N sz sz' : Nat} {γ : Nat → Gh} {d : Nat → Nat} {pre : Nat → Prop} {t u : Trace}
theorem TI.grow (h:TI M N sz γ d pre t) (hs:Sep M N sz γ) {j:Nat} (hj:j<N) (hle:sz≤sz') (hu: ∀op∈u,op.g=j) (hk: ∀op∈u,∀a,op.act.touch?=some a→TouchOk M N sz sz' (γ j) j a)
  {d':Nat} (hd:Deaf (t++u) j=d') (hp:j≠0→pre j∨ ∀i,t.size≤i→ ¬(t++u).counts i):
  TI M N sz' (fun k=>if k=j then (γ j).grow sz sz' else γ k) (fun k=>if k=j then d' else d k) pre (t++u):=by
 have own': ∀ {k b:Nat},k≠j→(if k=j then (γ j).grow sz sz' else γ k)=γ k:=fun {k b} e=>if_neg e
 refine ⟨fun said=>noRace_append (h.race said) hu fun i a ha op hop b hb hc=>?_,fun i a b ha hb=>?_,fun i op ho=>?_,fun k b hkN ho i a ha hb=>?_,fun k b hkN hf i a ha hb hw=>?_,fun i a ha hb=>?_,fun k hkN=>?_,fun i z hz hg hcn=>?_⟩
 ·obtain ⟨c1,c2,c3,c4⟩:=hc
  rcases hk op hop b hb with ⟨x,q1,q2 | q2⟩ | ⟨q0,x,q1,q2⟩ | ⟨q1,q2⟩
  ·exact h.own j x hj q2 i a ha (by rw [c1];exact q1)
  ·have:=h.low i a x ha (by rw [c1];exact q1);omega
  ·refine h.fz j x hj q2 i a ha (by rw [c1];exact q1) ?_
   rcases c3 with c3 | c3
   ·exact c3
   ·rw [q0] at c3;cases c3
  ·rcases h.sp i a ha (by rw [c1];exact q1) with r | r | ⟨r1,r2,_,r3⟩ | ⟨r1,z,r2,r3⟩
   ·exact r j hj
   ·rcases q2 with q2 | ⟨q2,_⟩ | ⟨q2,_⟩<;>rw [r,q2] at c4<;>simp at c4
   ·rcases q2 with q2 | ⟨q2,q3,_⟩ | ⟨q2,q3⟩
    ·rw [r1,q2] at c4;simp at c4
    ·rw [r2,q3] at c3;simp at c3
    ·exact r3 j (by omega) hj
   ·rcases q2 with q2 | ⟨q2,q3,q4,q5⟩ | ⟨q2,q3⟩
    ·rw [r1,q2] at c4;simp at c4
    ·have:=h.ids i z r2;omega
    ·have:=knows_own r2;rw [r3,←q3] at this;exact this
 ·rcases touch_app ha with ⟨_,ha'⟩ | ⟨_,op,hop,_,hoa⟩
  ·exact Nat.lt_of_lt_of_le (h.low i a b ha' hb) hle
  ·rcases hk op hop a hoa with ⟨x,q1,q2 | q2⟩ | ⟨q0,x,q1,q2⟩ | ⟨q1,q2⟩
   ·rw [hb] at q1;cases q1;exact Nat.lt_of_lt_of_le (hs.lt j b hj q2) hle
   ·rw [hb] at q1;cases q1;exact q2.2
   ·rw [hb] at q1;cases q1;exact Nat.lt_of_lt_of_le (hs.flt j b hj q2) hle
   ·rcases q1 with q1 | q1<;>rw [hb] at q1<;>cases q1
    ·exact Nat.lt_of_lt_of_le hs.wlt hle
    ·exact Nat.lt_of_lt_of_le hs.clt hle
 ·rcases get_app ho with ⟨_,ho'⟩ | ⟨_,hop⟩
  ·exact h.ids i op ho'
  ·rw [hu op hop];exact hj
 ·rcases touch_app ha with ⟨_,ha'⟩ | ⟨_,op,hop,hio,hoa⟩
  ·by_cases e:k=j
   ·subst e
    rw [if_pos rfl] at ho
    rcases ho with ho | ho
    ·exact (h.own k b hj ho i a ha' hb).app u
    ·have:=h.low i a b ha' hb;omega
   ·rw [if_neg e] at ho
    exact (h.own k b hkN ho i a ha' hb).app u
  ·by_cases e:k=j
   ·subst e;have:=knows_own hio;rw [hu op hop] at this;exact this
   ·rw [if_neg e] at ho
    rcases hk op hop a hoa with ⟨x,q1,q2 | q2⟩ | ⟨q0,x,q1,q2⟩ | ⟨q1,q2⟩
    ·rw [hb] at q1;cases q1;exact (hs.ap j k b hj hkN (fun q=>e q.symm) q2 ho).elim
    ·rw [hb] at q1;cases q1;have:=hs.lt k b hkN ho;omega
    ·rw [hb] at q1;cases q1;exact (hs.apf k j b hkN hj ho q2).elim
    ·have:=hs.nw k b hkN (.inl ho)
     rcases q1 with q1 | q1<;>rw [hb] at q1<;>cases q1
     ·exact (this.1 rfl).elim
     ·exact (this.2 rfl).elim
 ·have hf':(γ k).fz b:=by
   by_cases e:k=j
   ·subst e;rw [if_pos rfl] at hf;exact hf
   ·rw [if_neg e] at hf;exact hf
  rcases touch_app ha with ⟨_,ha'⟩ | ⟨_,op,hop,hio,hoa⟩
  ·exact (h.fz k b hkN hf' i a ha' hb hw).app u
  ·rcases hk op hop a hoa with ⟨x,q1,q2 | q2⟩ | ⟨q0,x,q1,q2⟩ | ⟨q1,q2⟩
   ·rw [hb] at q1;cases q1;exact (hs.apf j k b hj hkN q2 hf').elim
   ·rw [hb] at q1;cases q1;have:=hs.flt k b hkN hf';omega
   ·rw [hw] at q0;cases q0
   ·have:=hs.nw k b hkN (.inr hf')
    rcases q1 with q1 | q1<;>rw [hb] at q1<;>cases q1
    ·exact (this.1 rfl).elim
    ·exact (this.2 rfl).elim
 ·rcases touch_app ha with ⟨hi,ha'⟩ | ⟨_,op,hop,hio,hoa⟩
  ·rcases h.sp i a ha' hb with r | r | ⟨r1,r2,⟨z,r4,r5⟩,r3⟩ | ⟨r1,z,r2,r3⟩
   ·exact .inl fun k hk=>(r k hk).app u
   ·exact .inr (.inl r)
   ·exact .inr (.inr (.inl ⟨r1,r2,⟨z,by rw [getElem?_append_old hi];exact r4,r5⟩,fun k h1 h2=>(r3 k h1 h2).app u⟩))
   ·exact .inr (.inr (.inr ⟨r1,z,by rw [getElem?_append_old hi];exact r2,r3⟩))
  ·rcases hk op hop a hoa with ⟨x,q1,q2 | q2⟩ | ⟨q0,x,q1,q2⟩ | ⟨q1,q2⟩
   ·have:=hs.nw j x hj (.inl q2)
    rcases hb with hb | hb<;>rw [hb] at q1<;>cases q1
    ·exact (this.1 rfl).elim
    ·exact (this.2 rfl).elim
   ·have h1:=hs.wlt
    have h2:=hs.clt
    rcases hb with hb | hb<;>rw [hb] at q1<;>cases q1<;>omega
   ·have:=hs.nw j x hj (.inr q2)
    rcases hb with hb | hb<;>rw [hb] at q1<;>cases q1
    ·exact (this.1 rfl).elim
    ·exact (this.2 rfl).elim
   ·rcases q2 with q2 | ⟨q2,q3,q4,q5⟩ | ⟨q2,q3⟩
    ·exact .inr (.inl q2)
    ·exact .inr (.inr (.inl ⟨q2,q3,⟨op,hio,by rw [hu op hop];exact q4⟩,fun k h1 h2=>by omega⟩))
    ·exact .inr (.inr (.inr ⟨q2,op,hio,by rw [hu op hop];exact q3⟩))
 ·by_cases e:k=j
  ·subst e;rw [if_pos rfl];exact hd
  ·rw [if_neg e,Deaf_other t (fun q=>e q.symm) u hu];exact h.deaf k hkN
 ·rcases get_app hz with ⟨hi,hz'⟩ | ⟨hi,hzu⟩
  ·exact (h.ho i z hz' hg ((counts_old hi).1 hcn)).imp id fun q=>q.app u
  ·have e:=hu z hzu
   rw [e] at hg ⊢
   rcases hp hg with q | q
   ·exact .inl q
   ·exact (q i hi hcn).elim
end
end Go.Vk
end
section
namespace Go.Vk
open Go.Conc Go.Conc.Lib
section
variable {M : Mp} {N sz : Nat} {γ γ' : Nat → Gh} {d : Nat → Nat} {pre pre' : Nat → Prop} {t u : Trace}
theorem knows_edge {j k i p q:Nat} {x y:MemOp} (h:Knows t j i) (hp:t.size≤p) (hx:(t++u)[p]?=some x) (hxg:x.g=j) (hy:(t++u)[q]?=some y) (hyg:y.g=k) (he:HappensBefore (t++u) p q):Knows (t++u) k i:=
 ⟨q,y,hy,hyg,.inr ((h.hb_new hp hx hxg).trans he)⟩
theorem last_get {t:Trace} {i:Nat} (l:List MemOp):(t++l.toArray)[t.size+i]?=l[i]?:=by
 rw [Array.getElem?_append_right (by omega)]
 simp
theorem touch_none (hu: ∀op∈u,op.act.touch?=none) {i:Nat} {a:Touch} (h:touchAt (t++u) i=some a):i<t.size∧touchAt t i=some a:=by
 rcases touch_app h with h | ⟨_,op,hop,_,hoa⟩
 ·exact h
 ·rw [hu op hop] at hoa;cases hoa
theorem counts_none (hu: ∀op∈u,op.act.touch?=none) {i:Nat} (h:(t++u).counts i):i<t.size∧t.counts i:=by
 obtain ⟨x,hx,_⟩:=id h
 have:=(touch_none hu (i:=i) (a:=x) hx).1
 exact ⟨this,(counts_old this).1 h⟩
theorem race_none (h: ∀said,¬Race said t) (hu: ∀op∈u,op.act.touch?=none): ∀said,¬Race said (t++u):=by
 rintro said ⟨i,j,hij,⟨a,b,ha,hb,hc⟩,n1,n2⟩
 obtain ⟨hi,ha'⟩:=touch_none hu (i:=i) (a:=a) ha
 obtain ⟨hj,hb'⟩:=touch_none hu (i:=j) (a:=b) hb
 exact h said ⟨i,j,hij,⟨a,b,ha',hb',hc⟩,fun e=>n1 (hb_app u e),fun e=>n2 (hb_app u e)⟩
theorem TI.silent (h:TI M N sz γ d pre t) {N':Nat} (hN:N≤N') (hu: ∀op∈u,op.act.touch?=none) (hid: ∀op∈u,op.g<N')
  (hown: ∀j b,j<N'→(γ' j).ow b→KnA (t++u) j b) (hfz: ∀j b,j<N'→(γ' j).fz b→KnW (t++u) j b)
  (hall: ∀i,(∀j,j<N→Knows t j i)→ ∀j,j<N'→Knows (t++u) j i) (hsd: ∀i,(∃z,t[i]?=some z∧z.g=0)→(∀j,M.n<j→j<N→Knows t j i)→ ∀j,M.n<j→j<N'→Knows (t++u) j i)
  {d':Nat→Nat} (hd: ∀j,j<N'→Deaf (t++u) j=d' j) (hp: ∀(i:Nat) z,t[i]?=some z→z.g≠0→t.counts i→pre z.g→pre' z.g∨Knows (t++u) 0 i):TI M N' sz γ' d' pre' (t++u) where
 race:=race_none h.race hu
 low i a b ha hb:=h.low i a b (touch_none hu ha).2 hb
 ids i op ho:=by
  rcases get_app ho with ⟨_,ho'⟩ | ⟨_,hop⟩
  ·exact Nat.lt_of_lt_of_le (h.ids i op ho') hN
  ·exact hid op hop
 own:=hown
 fz:=hfz
 sp i a ha hb:=by
  obtain ⟨hi,ha'⟩:=touch_none hu ha
  have old: ∀ {z:MemOp},t[i]?=some z→(t++u)[i]?=some z:=fun {z} hz=>by rw [getElem?_append_old hi];exact hz
  rcases h.sp i a ha' hb with r | r | ⟨r1,r2,⟨z,r4,r5⟩,r3⟩ | ⟨r1,z,r2,r3⟩
  ·exact .inl (hall i r)
  ·exact .inr (.inl r)
  ·exact .inr (.inr (.inl ⟨r1,r2,⟨z,old r4,r5⟩,hsd i ⟨z,r4,r5⟩ r3⟩))
  ·exact .inr (.inr (.inr ⟨r1,z,old r2,r3⟩))
 deaf:=hd
 ho i z hz hg hc:=by
  obtain ⟨hi,hc'⟩:=counts_none hu hc
  rw [getElem?_append_old hi] at hz
  rcases h.ho i z hz hg hc' with q | q
  ·exact hp i z hz hg hc' q
  ·exact .inr (q.app u)
theorem heard_at {i j:Nat} {z:MemOp} (hz:t[i]?=some z) (hg:z.g=j) (hd:t.deaf j i=0):t.heard i:=⟨j,by simp [Trace.g?,hz,hg],hd⟩
theorem KnA.app {j b:Nat} (hu: ∀op∈u,op.act.touch?=none) (h:KnA t j b):KnA (t++u) j b:=fun i a ha hb=>(h i a (touch_none hu ha).2 hb).app u
theorem KnW.app {j b:Nat} (hu: ∀op∈u,op.act.touch?=none) (h:KnW t j b):KnW (t++u) j b:=fun i a ha hb hw=>(h i a (touch_none hu ha).2 hb hw).app u
theorem TI.spawn (h:TI M N sz γ d pre t) (h0:0<N) (hd0:d 0=0) {fn fn':FuncId} {pos pos':String} {B:Nat→Prop} (hB: ∀b,B b→(γ 0).ow b):
  TI M (N+1) sz (fun k=>if k=0 then ⟨fun b=>(γ 0).ow b∧ ¬B b,fun b=>(γ 0).fz b∨B b⟩ else if k=N then ⟨fun _=>False,fun b=>(γ 0).fz b∨B b⟩ else γ k) (fun k=>if k=N then 0 else d k) (fun k=>k=N∨pre k)
   (t++ #[{g:=0,fn,pos,act:= .go N},{g:=N,fn:=fn',pos:=pos',act:= .start}]):=by
 generalize hue:(#[{g:=0,fn,pos,act:= .go N},{g:=N,fn:=fn',pos:=pos',act:= .start}]:Trace)=u
 have hu: ∀op∈u,op.act.touch?=none:=by
  intro op hop;rw [←hue] at hop;simp at hop;rcases hop with rfl | rfl<;>rfl
 have e0:(t++u)[t.size]?=some {g:=0,fn,pos,act:= .go N}:=by
  have:=last_get (t:=t) (i:=0) [{g:=0,fn,pos,act:= .go N},{g:=N,fn:=fn',pos:=pos',act:= .start}]
  rw [←hue];exact this
 have e1:(t++u)[t.size+1]?=some {g:=N,fn:=fn',pos:=pos',act:= .start}:=by
  have:=last_get (t:=t) (i:=1) [{g:=0,fn,pos,act:= .go N},{g:=N,fn:=fn',pos:=pos',act:= .start}]
  rw [←hue];exact this
 have dN: ∀i,i≤t.size→t.deaf N i=0:=by
  intro i
  induction i with
  | zero=>intro _;rfl
  | succ i ih=>
   intro hi
   have hlt:i<t.size:=by omega
   obtain ⟨z,hz⟩: ∃z,t[i]?=some z:=⟨_,Array.getElem?_eq_getElem hlt⟩
   rw [deaf_succ hz,ih (by omega)]
   have hne:z.g≠N:=by have:=h.ids i z hz;omega
   unfold deafStep
   split<;>simp [hne]
 have da: ∀j,Deaf (t++u) j=Deaf t j:=fun j=>by
  rw [←hue]
  have:=Deaf_append t j [{g:=0,fn,pos,act:= .go N},{g:=N,fn:=fn',pos:=pos',act:= .start}]
  rw [show (#[{g:=0,fn,pos,act:= .go N},{g:=N,fn:=fn',pos:=pos',act:= .start}]:Trace)=[({g:=0,fn,pos,act:= .go N}:MemOp),{g:=N,fn:=fn',pos:=pos',act:= .start}].toArray from rfl,this]
  rfl
 have h1:(t++u).heard t.size:=heard_at e0 rfl (by rw [deaf_old (Nat.le_refl _)];exact (h.deaf 0 h0).trans hd0)
 have h2:(t++u).heard (t.size+1):=heard_at e1 rfl (by
  rw [deaf_succ e0,deaf_old (Nat.le_refl _),dN _ (Nat.le_refl _)];rfl)
 have edge:HappensBefore (t++u) t.size (t.size+1):= .single (.inr ⟨.spawn (child:=N) (act?_of e0) (act?_of e1) (by simp [Trace.g?,e1]),h1,h2⟩)
 have kn: ∀ {i:Nat},Knows t 0 i→Knows (t++u) N i:=fun {i} hk=>knows_edge hk (Nat.le_refl _) e0 rfl e1 rfl edge
 refine h.silent (Nat.le_succ _) hu (fun op hop=>?_) (fun j b hj ho=>?_) (fun j b hj hf=>?_) (fun i hi j hj=>?_) (fun i ⟨z,hz,hzg⟩ hi j h1 h2=>?_) (fun j hj=>?_) (fun i z hz hg hc hp=>.inl (.inr hp))
 ·rw [←hue] at hop;simp at hop;rcases hop with rfl | rfl<;>simp
 ·by_cases e:j=0
  ·subst e;rw [if_pos rfl] at ho
   exact (h.own 0 b h0 ho.1).app hu
  ·rw [if_neg e] at ho
   by_cases e':j=N
   ·rw [if_pos e'] at ho;exact ho.elim
   ·rw [if_neg e'] at ho;exact (h.own j b (by omega) ho).app hu
 ·have k0:(γ 0).fz b∨B b→KnW t 0 b:=fun q=>q.elim (h.fz 0 b h0) fun q i a ha hb hw=>h.own 0 b h0 (hB b q) i a ha hb
  by_cases e:j=0
  ·subst e;rw [if_pos rfl] at hf
   exact (k0 hf).app hu
  ·rw [if_neg e] at hf
   by_cases e':j=N
   ·subst e';rw [if_pos rfl] at hf
    exact fun i a ha hb hw=>kn (k0 hf i a (touch_none hu ha).2 hb hw)
   ·rw [if_neg e'] at hf;exact (h.fz j b (by omega) hf).app hu
 ·by_cases e:j=N
  ·subst e;exact kn (hi 0 h0)
  ·exact (hi j (by omega)).app u
 ·by_cases e:j=N
  ·subst e
   have:=knows_own hz
   rw [hzg] at this
   exact kn this
  ·exact (hi j h1 (by omega)).app u
 ·rw [da]
  by_cases e:j=N
  ·subst e;rw [if_pos rfl];exact dN _ (Nat.le_refl _)
  ·rw [if_neg e];exact h.deaf j (by omega)
theorem TI.hand (h:TI M N sz γ d pre t) {k r:Nat} (h0:0<N) (hk:k<N) (hk0:k≠0) (hd0:d 0=0) (hdk:d k=0) {f1 f2:FuncId} {p1 p2:String} {c cap:Nat}:
  TI M N sz (fun j=>if j=0 then ⟨fun b=>(γ 0).ow b∨(γ k).ow b,(γ 0).fz⟩ else if j=k then ⟨fun _=>False,fun _=>False⟩ else γ j) d (fun j=>j≠k∧pre j)
   (t++ #[{g:=k,fn:=f1,pos:=p1,act:= .send c r},{g:=0,fn:=f2,pos:=p2,act:= .recv c r cap},{g:=k,fn:=f1,pos:=p1,act:= .sendDone c r},{g:=0,fn:=f2,pos:=p2,act:= .recvDone c r}]):=by
 have hl:=fun i=>last_get (t:=t) (i:=i) (l:=[({g:=k,fn:=f1,pos:=p1,act:= .send c r}:MemOp),{g:=0,fn:=f2,pos:=p2,act:= .recv c r cap},{g:=k,fn:=f1,pos:=p1,act:= .sendDone c r},{g:=0,fn:=f2,pos:=p2,act:= .recvDone c r}])
 have da: ∀j,Deaf (t++ #[({g:=k,fn:=f1,pos:=p1,act:= .send c r}:MemOp),{g:=0,fn:=f2,pos:=p2,act:= .recv c r cap},{g:=k,fn:=f1,pos:=p1,act:= .sendDone c r},{g:=0,fn:=f2,pos:=p2,act:= .recvDone c r}]) j=Deaf t j:=fun j=>by
  have:=Deaf_append t j [({g:=k,fn:=f1,pos:=p1,act:= .send c r}:MemOp),{g:=0,fn:=f2,pos:=p2,act:= .recv c r cap},{g:=k,fn:=f1,pos:=p1,act:= .sendDone c r},{g:=0,fn:=f2,pos:=p2,act:= .recvDone c r}]
  exact this.trans rfl
 generalize hue:(#[{g:=k,fn:=f1,pos:=p1,act:= .send c r},{g:=0,fn:=f2,pos:=p2,act:= .recv c r cap},{g:=k,fn:=f1,pos:=p1,act:= .sendDone c r},{g:=0,fn:=f2,pos:=p2,act:= .recvDone c r}]:Trace)=u at*
 have hl': ∀i,(t++u)[t.size+i]?=[({g:=k,fn:=f1,pos:=p1,act:= .send c r}:MemOp),{g:=0,fn:=f2,pos:=p2,act:= .recv c r cap},{g:=k,fn:=f1,pos:=p1,act:= .sendDone c r},{g:=0,fn:=f2,pos:=p2,act:= .recvDone c r}][i]?:=hl
 have hu: ∀op∈u,op.act.touch?=none:=by
  intro op hop;rw [←hue] at hop;simp at hop;rcases hop with rfl | rfl | rfl | rfl<;>rfl
 have e0:=hl' 0
 have e1:=hl' 1
 have e2:=hl' 2
 have e3:=hl' 3
 simp only [List.getElem?_cons_zero,List.getElem?_cons_succ,Nat.add_zero] at e0 e1 e2 e3
 have st: ∀(j q:Nat) (z:MemOp),(t++u)[q]?=some z→(∀m,z.act≠ .mark m)→(t++u).deaf j (q+1)=(t++u).deaf j q:=fun j q z hz hm=>by
  rw [deaf_succ hz]
  unfold deafStep
  split
  ·rename_i e;exact (hm _ e).elim
  ·rename_i e;exact (hm _ e).elim
  ·rfl
 have hh1:(t++u).heard t.size:=heard_at e0 rfl (by rw [deaf_old (Nat.le_refl _)];exact (h.deaf k hk).trans hdk)
 have hh2:(t++u).heard (t.size+3):=heard_at e3 rfl (by
  rw [st 0 _ _ e2 (by simp),st 0 _ _ e1 (by simp),st 0 _ _ e0 (by simp),deaf_old (Nat.le_refl _)];exact (h.deaf 0 h0).trans hd0)
 have edge:HappensBefore (t++u) t.size (t.size+3):= .single (.inr ⟨.handOver (c:=c) (k:=r) (act?_of e0) (act?_of e3),hh1,hh2⟩)
 have kn: ∀ {i:Nat},Knows t k i→Knows (t++u) 0 i:=fun {i} q=>knows_edge q (Nat.le_refl _) e0 rfl e3 rfl edge
 refine h.silent (Nat.le_refl _) hu (fun op hop=>?_) (fun j b hj ho=>?_) (fun j b hj hf=>?_) (fun i hi j hj=>(hi j hj).app u) (fun i _ hi j h1 h2=>(hi j h1 h2).app u) (fun j hj=>(da j).trans (h.deaf j hj)) (fun i z hz hg hc hp=>?_)
 ·rw [←hue] at hop;simp at hop;rcases hop with rfl | rfl | rfl | rfl<;>simp<;>omega
 ·by_cases e:j=0
  ·subst e;rw [if_pos rfl] at ho
   rcases ho with ho | ho
   ·exact (h.own 0 b h0 ho).app hu
   ·exact fun i a ha hb=>kn (h.own k b hk ho i a (touch_none hu ha).2 hb)
  ·rw [if_neg e] at ho
   by_cases e':j=k
   ·rw [if_pos e'] at ho;exact ho.elim
   ·rw [if_neg e'] at ho;exact (h.own j b hj ho).app hu
 ·by_cases e:j=0
  ·subst e;rw [if_pos rfl] at hf;exact (h.fz 0 b h0 hf).app hu
  ·rw [if_neg e] at hf
   by_cases e':j=k
   ·rw [if_pos e'] at hf;exact hf.elim
   ·rw [if_neg e'] at hf;exact (h.fz j b hj hf).app hu
 ·by_cases e:z.g=k
  ·have:=knows_own hz
   rw [e] at this
   exact .inr (kn this)
  ·exact .inl ⟨e,hp⟩
def ClosedAt (M:Mp) (t:Trace):Prop:= ∃p z,t[p]?=some z∧z.g=M.n+1∧z.act= .close M.c∧t.heard p∧ ∀(i:Nat) z',t[i]?=some z'→z'.g=M.n+1→t.counts i→i<p
theorem ClosedAt.app (h:ClosedAt M t) (hu: ∀(i:Nat) z',(t++u)[i]?=some z'→t.size≤i→z'.g=M.n+1→ ¬(t++u).counts i):ClosedAt M (t++u):=by
 obtain ⟨p,z,h1,h2,h3,h4,h5⟩:=h
 have hp:=lt_size_of_getElem? h1
 refine ⟨p,z,by rw [getElem?_append_old hp];exact h1,h2,h3,(heard_old hp).2 h4,fun i z' hz hg hc=>?_⟩
 rcases get_app hz with ⟨hi,hz'⟩ | ⟨hi,_⟩
 ·exact h5 i z' hz' hg ((counts_old hi).1 hc)
 ·exact (hu i z' hz hi hg hc).elim
theorem TI.shut (h:TI M N sz γ d pre t) (h0:0<N) (hd0:d 0=0) (hc:ClosedAt M t) {fn:FuncId} {pos:String}:
  TI M N sz γ d (fun j=>j≠M.n+1∧pre j) (t++ #[{g:=0,fn,pos,act:= .recvClosed M.c}]):=by
 have e0:(t++ #[({g:=0,fn,pos,act:= .recvClosed M.c}:MemOp)])[t.size]?=some {g:=0,fn,pos,act:= .recvClosed M.c}:=by simp
 have da: ∀j,Deaf (t++ #[({g:=0,fn,pos,act:= .recvClosed M.c}:MemOp)]) j=Deaf t j:=fun j=>by rw [Deaf_push];rfl
 generalize hue:(#[{g:=0,fn,pos,act:= .recvClosed M.c}]:Trace)=u at*
 have hu: ∀op∈u,op.act.touch?=none:=by
  intro op hop;rw [←hue] at hop;simp at hop;rw [hop];rfl
 obtain ⟨p,z,h1,h2,h3,h4,h5⟩:=hc
 have hp:=lt_size_of_getElem? h1
 have h1':(t++u)[p]?=some z:=by rw [getElem?_append_old hp];exact h1
 have edge:HappensBefore (t++u) p t.size:= .single (.inr ⟨.closed (c:=M.c) (by rw [act?_of h1',h3]) (act?_of e0),(heard_old hp).2 h4,heard_at e0 rfl (by rw [deaf_old (Nat.le_refl _)];exact (h.deaf 0 h0).trans hd0)⟩)
 refine h.silent (Nat.le_refl _) hu (fun op hop=>?_) (fun j b hj ho=>(h.own j b hj ho).app hu) (fun j b hj hf=>(h.fz j b hj hf).app hu) (fun i hi j hj=>(hi j hj).app u) (fun i _ hi j h1 h2=>(hi j h1 h2).app u) (fun j hj=>(da j).trans (h.deaf j hj)) (fun i z' hz hg hcn hpr=>?_)
 ·rw [←hue] at hop;simp at hop;rw [hop];exact h0
 ·by_cases e:z'.g=M.n+1
  ·refine .inr ⟨t.size,_,e0,rfl,.inr ?_⟩
   have hi:=lt_size_of_getElem? hz
   exact (hb_po (h5 i z' hz e hcn) (by rw [getElem?_append_old hi];exact hz) h1' (e.trans h2.symm)).trans edge
  ·exact .inl ⟨e,hpr⟩
theorem TI.handedOver (h:TI M N sz γ d pre t) (hp: ∀j,j<N→j≠0→ ¬pre j):t.HandedOver:=by
 intro i g hg hne hc
 obtain ⟨z,hz,hzg⟩:=Option.map_eq_some_iff.1 hg
 rcases h.ho i z hz (by rw [hzg];exact hne) hc with q | ⟨q,y,h1,h2,h3⟩
 ·exact (hp _ (h.ids i z hz) (by rw [hzg];exact hne) q).elim
 ·refine ⟨q,by simp [Trace.g?,h1,h2],?_⟩
  rcases h3 with rfl | h3
  ·rw [hz] at h1;cases h1;rw [hzg] at h2;exact (hne h2).elim
  ·exact h3
end
end Go.Vk
end
section
namespace Go.Vk
open Go.Conc Go.Conc.Lib
open Go.ConcR (KK wgBlock WgAt stA smA rd wr mk)
open Go.ConcN (WgLive)
inductive Ph
 | ms (r:Nat)
 | ma (r:Nat)
 | mr (r:Nat)
 | me (r:Nat)
 | mg (r:Nat)
 | rv (r:Nat) (X:Nat→Prop)
 | rp (r:Nat) (X:Nat→Prop)
 | rw
 | fin
 | w1 | wp | w2 | w3 | w4 | w5 | w6 | w7 | wq
 | c1
 | c2 (f:Nat)
 | c3 (f:Nat) (x:Int)
 | c4 | c5 | cs | c6 | c7 | c9 | c10 | cq
def stage (n:Nat):Ph→Nat
 | .ms r=>30*r+7*n+50
 | .ma r=>30*r+7*n+75
 | .mr r=>30*r+7*n+74
 | .me r=>30*r+7*n+73
 | .mg r=>30*r+7*n+72
 | .rv r _=>3*r+5
 | .rp r _=>3*r+4
 | .rw=>3
 | .fin=>1
 | .w1=>12 | .wp=>11 | .w2=>10 | .w3=>9 | .w4=>8 | .w5=>7 | .w6=>6 | .w7=>5 | .wq=>0
 | .c1=>4*n+40
 | .c2 f=>4*f+30
 | .c3 f _=>4*f+29
 | .c4=>20 | .c5=>19 | .cs=>18 | .c6=>17 | .c7=>16 | .c9=>15 | .c10=>14 | .cq=>0
def code:Ph→Nat
 | .w1=>1 | .wp=>2 | .w2=>3 | .w3=>4 | .w4=>5 | .w5=>6 | .w6=>7 | .w7=>8 | .wq=>9
 | _=>0
def roleM:Ph→Bool
 | .ms _ | .ma _ | .mr _ | .me _ | .mg _ | .rv _ _ | .rp _ _ | .rw | .fin=>true
 | _=>false
def roleC:Ph→Bool
 | .c1 | .c2 _ | .c3 _ _ | .c4 | .c5 | .cs | .c6 | .c7 | .c9 | .c10 | .cq=>true
 | _=>false
def dOf:Ph→Nat
 | .ma _ | .mr _ | .me _=>1
 | .w4 | .w5 | .w6 | .w7=>1
 | .c2 _ | .c3 _ _ | .c4 | .c5 | .cs | .c6 | .c7=>1
 | _=>0
def quits:Ph→Bool
 | .wq | .cq=>true
 | _=>false
def upd {α:Type} (f:Nat→α) (j:Nat) (x:α):Nat→α:=fun k=>if k=j then x else f k
theorem upd_self {α:Type} {f:Nat→α} {j:Nat} {x:α}:upd f j x j=x:=if_pos rfl
theorem upd_ne {α:Type} {f:Nat→α} {j k:Nat} {x:α} (h:k≠j):upd f j x k=f k:=if_neg h
structure GS where
 γ:Gh
 T:Tr
 d:Nat
section
variable (M : Mp)
def Mp.cx (k:Nat):Cx:=⟨k == 0,M.I⟩
def Mp.stop (k:Nat):Ph→Goroutine→World→Prop
 | .ms r=>M.S r
 | .ma r=>M.Ma (M.S r) (M.n-r)
 | .mr r=>M.Mr (M.S r) (M.n-r)
 | .me r=>M.Me (M.S r) (M.n-r)
 | .mg r=>M.GoAt (M.W1 (M.n-r)) (M.S r)
 | .rv r X=>M.R r X
 | .fin=>M.F
 | .w1=>M.W1 k
 | .c1=>M.C1
 | .c2 f=>M.C2 f
 | .c3 f x=>M.C3 x (M.nx f)
 | .c4=>M.C4
 | .c5=>M.C5
 | .c6=>M.C6
 | .c7=>M.C7
 | .c9=>M.C9
 | .c10=>M.C10
 | _=>fun _ _=>False
def Mp.Quiet (S:Goroutine→Prop) (x:GS) (g:Goroutine):Prop:= ∃q,x.T=Tr.ofNat q∧Qw M.P false M.I S q g
def Mp.Quit (x:GS) (g:Goroutine):Prop:= ∃q,x.T=Tr.ofNat q∧QuitsD M.P q x.d g
def Mp.Act (k:Nat) (p:Ph) (x:GS) (v:World) (g:Goroutine) (w:World):Prop:=VwT M.P (M.cx k) (M.stop k p) x.T g v∧Vt x.γ w v
def Mp.Park (k:Nat) (x:GS) (v:World) (g:Goroutine) (w:World):Prop:= ∃g0 val z,g=parked g0 #[scase M.c val z] .send∧M.Ok k val v∧Vt x.γ w v∧M.Qs M.W2 (Go.Conc.served g0 undef)
def Mp.Rp (r:Nat) (X:Nat→Prop) (x:GS) (v:World) (g:Goroutine) (w:World):Prop:= ∃g0 z,g=parked g0 #[rcase M.c z] (.recv true)∧Vt x.γ w v∧M.RecvAt z g0∧M.RK r X z g0 v
def Mp.Rw (x:GS) (v:World) (g:Goroutine) (w:World):Prop:= ∃g0 z X,g={parked g0 #[rcase M.c z] (.recv true) with status:= .running}∧Vt x.γ w v∧M.RecvAt z g0∧M.RK 0 X z g0 v
def Mp.Cs (x:GS) (v:World) (g:Goroutine) (w:World):Prop:= ∃g0,(g=g0∨g={g0 with status:= .blocked})∧M.C5 g0 v∧Vt x.γ w v
def Mp.GOk (k:Nat) (p:Ph) (x:GS) (v:World) (g:Goroutine) (w:World):Prop:=
 match p with
 | .w2=>M.Quiet M.W2 x g
 | .w3=>M.Quiet M.W3 x g
 | .w4=>M.Quiet M.W4 x g
 | .w5=>M.Quiet M.W5 x g
 | .w6=>M.Quiet M.W6 x g
 | .w7=>M.Quiet M.W7 x g
 | .wq=>M.Quit x g
 | .cq=>M.Quit x g
 | .wp=>M.Park k x v g w
 | .rp r X=>M.Rp r X x v g w
 | .rw=>M.Rw x v g w
 | .cs=>M.Cs x v g w
 | p=>M.Act k p x v g w
def num (ph:Nat→Ph) (N p:Nat):Nat:=((List.range N).map fun k=>if code (ph k)=p then 1 else 0).sum
def up:Ph→Nat
 | .mr _ | .me _ | .mg _=>1
 | _=>0
def cnt (ph:Nat→Ph) (N:Nat):Nat:=num ph N 1+num ph N 2+num ph N 3+num ph N 4+num ph N 5+up (ph 0)
def lw (ph:Nat→Ph) (N:Nat):Nat:=num ph N 6+num ph N 7+num ph N 8
def atSem:Ph→Bool
 | .c4 | .c5 | .cs=>true
 | _=>false
def idleC (v:Nat):Ph→Prop
 | .c1=>True
 | .c2 f=>v≤f
 | .c3 f x0=> ∃v0:Nat,x0=(v0:Int)*KK∧0<v0∧v0≤f∧v≤v0
 | .c6 | .c7 | .c9 | .c10 | .cq=>v=0
 | _=>False
def Sit (hc:Prop) (pc:Ph) (v l l8:Nat) (x sm:Int):Prop:=
 (x=(v:Int)*KK∧sm=0∧l=0∧(hc→idleC v pc))∨
 (x=(v:Int)*KK+1∧sm=0∧0<v∧l=0∧hc∧atSem pc=true)∨
 (x=1∧sm=0∧v=0∧l=1∧l8=0∧hc∧atSem pc=true)∨
 (x=0∧sm=0∧v=0∧l=1∧l8=1∧hc∧atSem pc=true)∨
 (x=0∧sm=1∧v=0∧l=0∧hc∧atSem pc=true)
def SzOk (n N:Nat):Ph→Prop
 | .ms r=>r≤n∧N=1+n-r
 | .ma r=>r<n∧N=n-r
 | .mr r=>r<n∧N=n-r
 | .me r=>r<n∧N=n-r
 | .mg r=>r<n∧N=n-r
 | _=>N=n+2
def CapOk (n v:Nat):Ph→Prop
 | .ms r=>v+r≤n
 | .ma r=>v+r+1≤n
 | .mr r=>v+r≤n
 | .me r=>v+r≤n
 | .mg r=>v+r≤n
 | _=>v≤n
def young:Ph→Bool
 | .ms _ | .ma _ | .mr _ | .me _ | .mg _=>true
 | _=>false
structure RxOk (n N:Nat) (ph:Nat→Ph) (cl:Bool) (p:Ph):Prop where
 start:young p=true→num ph N 1+num ph N 2+1=N∧cl=false∧ ∀k,1≤k→k<N→code (ph k)≤2
 rv: ∀r X,p= .rv r X→r=num ph N 1+num ph N 2∧ ∀k,1≤k→k≤n→(X k↔3≤code (ph k))
 rp: ∀r X,p= .rp r X→r=num ph N 1+num ph N 2∧num ph N 2=0∧cl=false∧ ∀k,1≤k→k≤n→(X k↔3≤code (ph k))
 rw:p= .rw→num ph N 1+num ph N 2=0∧cl=true
 fin:p= .fin→num ph N 1+num ph N 2=0∧cl=true
def isCq:Ph→Bool
 | .cq=>true
 | _=>false
structure Prot (n N:Nat) (ph:Nat→Ph) (x sm:Int) (cl:Bool):Prop where
 nlt:n<2147483000
 main:roleM (ph 0)=true
 wk: ∀k,1≤k→k≤n→k<N→1≤code (ph k)
 clr:n+1<N→roleC (ph (n+1))=true
 sz:SzOk n N (ph 0)
 cap:CapOk n (cnt ph N) (ph 0)
 sit:Sit (n+1<N) (ph (n+1)) (cnt ph N) (lw ph N) (num ph N 8) x sm
 rX:RxOk n N ph cl (ph 0)
 shut:cl=true↔(n+1<N∧isCq (ph (n+1))=true)
def Mp.pre (ph:Nat→Ph) (k:Nat):Prop:=(k≤M.n∧(code (ph k)=1∨code (ph k)=2))∨(k=M.n+1∧ph 0≠ .fin)
def flag (gs:Array Goroutine) (n:Nat):Nat:=if (gs[n+1]?).any (fun g=>g.status == .running) then 1 else 0
def Mp.mu (gs:Array Goroutine) (X:Nat→GS) (ph:Nat→Ph):Mu:=⟨((List.range gs.size).map fun k=>stage M.n (ph k)).sum,(List.range gs.size).map fun k=>(X k).T,flag gs M.n⟩
structure Inv (W:World) (gs:Array Goroutine) (w:World) (X:Nat→GS) (ph:Nat→Ph) (x sm:Int) (cl:Bool) (r0:Nat) (t:Trace):Prop where
 ok: ∀(k:Nat) g,gs[k]?=some g→ ∃v,M.GOk k (ph k) (X k) v g w
 sep:Sep M gs.size w.heap.size (fun k=>(X k).γ)
 ti:TI M gs.size w.heap.size (fun k=>(X k).γ) (fun k=>(X k).d) (M.pre ph) t
 dd: ∀k,k<gs.size→quits (ph k)=false→(X k).d=dOf (ph k)
 fzs: ∀k b,k<gs.size→(X k).γ.fz b→(X 0).γ.fz b
 wg:WgAt M.L.tWg M.Wg w x sm
 ch:w.heap[M.c]?=some (.chan 0 #[] cl r0 r0 false)
 old: ∀b,b<W.heap.size→w.heap[b]?=W.heap[b]?
 olt:W.heap.size≤M.Wg∧W.heap.size≤M.c∧M.Wg≠M.c∧ ∀k b,k<gs.size→(X k).γ.ow b→W.heap.size≤b
 out:W.heap.size≤w.heap.size∧w.os=W.os∧w.output=W.output∧w.tape=W.tape
 pr:Prot M.n gs.size ph x sm cl
 rel:sm=1→ ∀g,gs[M.n+1]?=some g→ph (M.n+1)= .cs→g.status= .running
 clo:cl=true→ClosedAt M t
end
theorem num_upd {ph:Nat→Ph} {N j p:Nat} {q:Ph} (hj:j<N):num (upd ph j q) N p+(if code (ph j)=p then 1 else 0)=num ph N p+(if code q=p then 1 else 0):=by
 have:=sum_upd (f:=fun k=>if code (ph k)=p then 1 else 0) (x:=if code q=p then 1 else 0) hj
 have e:(fun i=>if i=j then (if code q=p then 1 else 0) else (if code (ph i)=p then 1 else 0))=fun k=>if code (upd ph j q k)=p then 1 else 0:=by
  funext i
  by_cases h:i=j
  ·rw [if_pos h,h,upd_self]
  ·rw [if_neg h,upd_ne h]
 rw [e] at this
 exact this
theorem num_succ {ph:Nat→Ph} {N p:Nat}:num ph (N+1) p=num ph N p+(if code (ph N)=p then 1 else 0):=by
 unfold num
 rw [List.range_succ,List.map_append,List.sum_append]
 simp
theorem num_congr {ph ph':Nat→Ph} {N p:Nat} (h: ∀k,k<N→code (ph' k)=code (ph k)):num ph' N p=num ph N p:=by
 unfold num
 congr 1
 refine List.map_congr_left fun k hk=>?_
 rw [h k (List.mem_range.1 hk)]
theorem num_pos {ph:Nat→Ph} {p:Nat}: ∀ {N:Nat},0<num ph N p→ ∃k,k<N∧code (ph k)=p
 | 0,h=>by simp [num] at h
 | N+1,h=>by
  rw [num_succ] at h
  by_cases e:code (ph N)=p
  ·exact ⟨N,Nat.lt_succ_self _,e⟩
  ·rw [if_neg e] at h
   obtain ⟨k,h1,h2⟩:=num_pos (N:=N) h
   exact ⟨k,Nat.lt_succ_of_lt h1,h2⟩
theorem num_ge {ph:Nat→Ph} {p k:Nat}: ∀ {N:Nat},k<N→code (ph k)=p→1≤num ph N p
 | 0,h,_=>by omega
 | N+1,h,e=>by
  rw [num_succ]
  by_cases e':k=N
  ·subst e';rw [if_pos e];omega
  ·have:=num_ge (N:=N) (by omega) e
   omega
end Go.Vk
end
section
namespace Go.Vk
open Go.Conc Go.Conc.Lib
open Go.ConcR (KK wgBlock WgAt stA smA rd wr mk)
theorem code_roleM {p:Ph} (h:roleM p=true):code p=0:=by cases p<;>simp [roleM,code] at h ⊢
theorem code_roleC {p:Ph} (h:roleC p=true):code p=0:=by cases p<;>simp [roleC,code] at h ⊢
theorem num_same {ph:Nat→Ph} {N j p:Nat} {q:Ph} (h:code q=code (ph j)):num (upd ph j q) N p=num ph N p:=by
 refine num_congr fun k hk=>?_
 by_cases e:k=j
 ·subst e;rw [upd_self,h]
 ·rw [upd_ne e]
theorem num_zero {ph:Nat→Ph} {p k:Nat} {N:Nat} (h:num ph N p=0) (hk:k<N):code (ph k)≠p:=fun e=>by
 have:=num_ge hk e;omega
section
variable {n N : Nat} {ph : Nat → Ph} {x sm x' sm' : Int} {cl : Bool} {j : Nat} {q : Ph}
theorem Prot.wstep (h:Prot n N ph x sm cl) (hj1:1≤j) (hjn:j≤n) (hjN:j<N) (hq:3≤code q) (hp:3≤code (ph j)) (hc:cnt (upd ph j q) N≤cnt ph N)
  (hs:Sit (n+1<N) (ph (n+1)) (cnt (upd ph j q) N) (lw (upd ph j q) N) (num (upd ph j q) N 8) x' sm'):Prot n N (upd ph j q) x' sm' cl:=by
 have e0:upd ph j q 0=ph 0:=upd_ne (by omega)
 have en:upd ph j q (n+1)=ph (n+1):=upd_ne (by omega)
 have n1:num (upd ph j q) N 1=num ph N 1:=by
  have:=num_upd (ph:=ph) (p:=1) (q:=q) hjN
  rw [if_neg (by omega),if_neg (by omega)] at this;omega
 have n2:num (upd ph j q) N 2=num ph N 2:=by
  have:=num_upd (ph:=ph) (p:=2) (q:=q) hjN
  rw [if_neg (by omega),if_neg (by omega)] at this;omega
 have c3: ∀k,3≤code (upd ph j q k)↔3≤code (ph k):=fun k=>by
  by_cases e:k=j
  ·subst e;rw [upd_self];exact ⟨fun _=>hp,fun _=>hq⟩
  ·rw [upd_ne e]
 refine ⟨h.nlt,by rw [e0];exact h.main,fun k h1 h2 h3=>?_,fun hN=>by rw [en];exact h.clr hN,by rw [e0];exact h.sz,?_,by rw [en];exact hs,?_,by rw [en];exact h.shut⟩
 ·by_cases e:k=j
  ·subst e;rw [upd_self];omega
  ·rw [upd_ne e];exact h.wk k h1 h2 h3
 ·rw [e0]
  have:=h.cap
  revert this
  cases ph 0<;>simp only [CapOk]<;>omega
 ·rw [e0]
  have r:=h.rX
  refine ⟨fun y=>?_,fun r' X e=>?_,fun r' X e=>?_,fun e=>by rw [n1,n2];exact r.rw e,fun e=>by rw [n1,n2];exact r.fin e⟩
  ·have:=(r.start y).2.2 j hj1 hjN
   omega
  ·rw [n1,n2]
   exact ⟨(r.rv r' X e).1,fun k h1 h2=>((r.rv r' X e).2 k h1 h2).trans (c3 k).symm⟩
  ·rw [n1,n2]
   obtain ⟨a,b,c,d⟩:=r.rp r' X e
   exact ⟨a,b,c,fun k h1 h2=>(d k h1 h2).trans (c3 k).symm⟩
theorem Prot.wpark (h:Prot n N ph x sm cl) (hj1:1≤j) (hjn:j≤n) (hjN:j<N) (hp:ph j= .w1) (hm: ∀r X,ph 0≠ .rp r X):Prot n N (upd ph j .wp) x sm cl:=by
 have e0:upd ph j .wp 0=ph 0:=upd_ne (by omega)
 have en:upd ph j .wp (n+1)=ph (n+1):=upd_ne (by omega)
 have nm: ∀p,num (upd ph j .wp) N p+(if 1=p then 1 else 0)=num ph N p+(if 2=p then 1 else 0):=fun p=>by
  have:=num_upd (ph:=ph) (p:=p) (q:= .wp) hjN
  rw [hp] at this
  exact this
 have m1:=nm 1
 have m2:=nm 2
 have m3:=nm 3
 have m4:=nm 4
 have m5:=nm 5
 have m6:=nm 6
 have m7:=nm 7
 have m8:=nm 8
 simp at m1 m2 m3 m4 m5 m6 m7 m8
 have ec:cnt (upd ph j .wp) N=cnt ph N:=by unfold cnt;rw [e0];omega
 have el:lw (upd ph j .wp) N=lw ph N:=by unfold lw;omega
 have c3: ∀k,3≤code (upd ph j .wp k)↔3≤code (ph k):=fun k=>by
  by_cases e:k=j
  ·subst e;rw [upd_self,hp];decide
  ·rw [upd_ne e]
 refine ⟨h.nlt,by rw [e0];exact h.main,fun k h1 h2 h3=>?_,fun hN=>by rw [en];exact h.clr hN,by rw [e0];exact h.sz,by rw [e0,ec];exact h.cap,by rw [en,ec,el,m8];exact h.sit,?_,by rw [en];exact h.shut⟩
 ·by_cases e:k=j
  ·subst e;rw [upd_self];decide
  ·rw [upd_ne e];exact h.wk k h1 h2 h3
 ·rw [e0]
  have r:=h.rX
  refine ⟨fun y=>?_,fun r' X e=>?_,fun r' X e=>(hm r' X e).elim,fun e=>?_,fun e=>?_⟩
  ·obtain ⟨a,b,c⟩:=r.start y
   refine ⟨by omega,b,fun k h1 h2=>?_⟩
   by_cases e:k=j
   ·subst e;rw [upd_self];decide
   ·rw [upd_ne e];exact c k h1 h2
  ·obtain ⟨a,b⟩:=r.rv r' X e
   exact ⟨by omega,fun k h1 h2=>(b k h1 h2).trans (c3 k).symm⟩
  ·obtain ⟨a,b⟩:=r.rw e;exact ⟨by omega,b⟩
  ·obtain ⟨a,b⟩:=r.fin e;exact ⟨by omega,b⟩
theorem Prot.mstep (h:Prot n N ph x sm cl) (hN:0<N) (hr:roleM q=true) (hsz:SzOk n N q) (hcap:CapOk n (cnt (upd ph 0 q) N) q)
  (hs:Sit (n+1<N) (ph (n+1)) (cnt (upd ph 0 q) N) (lw ph N) (num ph N 8) x' sm) (hx:RxOk n N ph cl q):Prot n N (upd ph 0 q) x' sm cl:=by
 have e0:upd ph 0 q 0=q:=upd_self
 have nm: ∀p,num (upd ph 0 q) N p=num ph N p:=fun p=>num_same (by rw [code_roleM hr,code_roleM h.main])
 have el:lw (upd ph 0 q) N=lw ph N:=by unfold lw;rw [nm,nm,nm]
 have ek: ∀k,1≤k→upd ph 0 q k=ph k:=fun k hk=>upd_ne (by omega)
 refine ⟨h.nlt,by rw [e0];exact hr,fun k h1 h2 h3=>by rw [ek k h1];exact h.wk k h1 h2 h3,fun q=>by rw [ek _ (by omega)];exact h.clr q,by rw [e0];exact hsz,by rw [e0];exact hcap,by rw [ek _ (by omega),el,nm];exact hs,?_,by rw [ek _ (by omega)];exact h.shut⟩
 rw [e0]
 refine ⟨fun y=>?_,fun r X e=>?_,fun r X e=>?_,fun e=>by rw [nm,nm];exact hx.rw e,fun e=>by rw [nm,nm];exact hx.fin e⟩
 ·rw [nm,nm]
  obtain ⟨a,b,c⟩:=hx.start y
  exact ⟨a,b,fun k h1 h2=>by rw [ek k h1];exact c k h1 h2⟩
 ·rw [nm,nm]
  exact ⟨(hx.rv r X e).1,fun k h1 h2=>by rw [ek k h1];exact (hx.rv r X e).2 k h1 h2⟩
 ·rw [nm,nm]
  obtain ⟨a,b,c,d⟩:=hx.rp r X e
  exact ⟨a,b,c,fun k h1 h2=>by rw [ek k h1];exact d k h1 h2⟩
theorem cnt_main (h:roleM (ph 0)=true) (hr:roleM q=true):cnt (upd ph 0 q) N+up (ph 0)=cnt ph N+up q:=by
 have nm: ∀p,num (upd ph 0 q) N p=num ph N p:=fun p=>num_same (by rw [code_roleM hr,code_roleM h])
 unfold cnt
 rw [nm,nm,nm,nm,nm,upd_self]
 omega
theorem Prot.cstep (h:Prot n N ph x sm cl) (hN:n+1<N) (hr:roleC q=true) (hcq:isCq q=true↔isCq (ph (n+1))=true)
  (hs:Sit True q (cnt ph N) (lw ph N) (num ph N 8) x' sm'):Prot n N (upd ph (n+1) q) x' sm' cl:=by
 have en:upd ph (n+1) q (n+1)=q:=upd_self
 have e0:upd ph (n+1) q 0=ph 0:=upd_ne (by omega)
 have nm: ∀p,num (upd ph (n+1) q) N p=num ph N p:=fun p=>num_same (by rw [code_roleC hr,code_roleC (h.clr hN)])
 have ek: ∀k,k≤n→upd ph (n+1) q k=ph k:=fun k hk=>upd_ne (by omega)
 have ec:cnt (upd ph (n+1) q) N=cnt ph N:=by unfold cnt;rw [nm,nm,nm,nm,nm,e0]
 have el:lw (upd ph (n+1) q) N=lw ph N:=by unfold lw;rw [nm,nm,nm]
 have hT:(n+1<N)=True:=eq_true hN
 refine ⟨h.nlt,by rw [e0];exact h.main,fun k h1 h2 h3=>by rw [ek k h2];exact h.wk k h1 h2 h3,fun _=>by rw [en];exact hr,by rw [e0];exact h.sz,by rw [e0,ec];exact h.cap,by rw [en,ec,el,nm,hT];exact hs,?_,by rw [en,h.shut,hcq]⟩
 rw [e0]
 have hx:=h.rX
 refine ⟨fun y=>?_,fun r X e=>?_,fun r X e=>?_,fun e=>by rw [nm,nm];exact hx.rw e,fun e=>by rw [nm,nm];exact hx.fin e⟩
 ·have:=h.sz
  exfalso
  revert this y
  cases ph 0<;>simp only [young,SzOk]<;>intro a b<;>first | omega | cases a
 ·rw [nm,nm]
  exact ⟨(hx.rv r X e).1,fun k h1 h2=>by rw [ek k h2];exact (hx.rv r X e).2 k h1 h2⟩
 ·rw [nm,nm]
  obtain ⟨a,b,c,d⟩:=hx.rp r X e
  exact ⟨a,b,c,fun k h1 h2=>by rw [ek k h2];exact d k h1 h2⟩
theorem Prot.hstep (h:Prot n N ph x sm cl) (hj1:1≤j) (hjn:j≤n) (hjN:j<N) (hp:ph j= .w1∨ph j= .wp) {r:Nat} {X:Nat→Prop} (hm:ph 0= .rv (r+1) X∨ph 0= .rp (r+1) X):
  Prot n N (upd (upd ph j .w2) 0 (.rv r fun i=>X i∨i=j)) x sm cl∧ ¬X j:=by
 have hcj:code (ph j)=1∨code (ph j)=2:=hp.imp (fun e=>by rw [e];rfl) fun e=>by rw [e];rfl
 have hu0:up (ph 0)=0:=by rcases hm with e | e<;>rw [e]<;>rfl
 have hr0:roleM (ph 0)=true:=h.main
 have e0':(upd ph j .w2) 0=ph 0:=upd_ne (by omega)
 have nm0: ∀p,num (upd (upd ph j .w2) 0 (.rv r fun i=>X i∨i=j)) N p=num (upd ph j .w2) N p:=fun p=>num_same (by rw [e0',code_roleM hr0];rfl)
 have nm: ∀p,num (upd ph j .w2) N p+(if code (ph j)=p then 1 else 0)=num ph N p+(if 3=p then 1 else 0):=fun p=>num_upd (ph:=ph) (p:=p) (q:= .w2) hjN
 have m1:=nm 1
 have m2:=nm 2
 have m3:=nm 3
 have m4:=nm 4
 have m5:=nm 5
 have m6:=nm 6
 have m7:=nm 7
 have m8:=nm 8
 have ec:cnt (upd (upd ph j .w2) 0 (.rv r fun i=>X i∨i=j)) N=cnt ph N:=by
  unfold cnt
  rw [nm0,nm0,nm0,nm0,nm0,upd_self,hu0]
  rcases hcj with e | e<;>rw [e] at m1 m2 m3 m4 m5<;>simp at m1 m2 m3 m4 m5<;>simp only [up]<;>omega
 have el:lw (upd (upd ph j .w2) 0 (.rv r fun i=>X i∨i=j)) N=lw ph N:=by
  unfold lw
  rw [nm0,nm0,nm0]
  rcases hcj with e | e<;>rw [e] at m6 m7 m8<;>simp at m6 m7 m8<;>omega
 have e8:num (upd (upd ph j .w2) 0 (.rv r fun i=>X i∨i=j)) N 8=num ph N 8:=by
  rw [nm0]
  rcases hcj with e | e<;>rw [e] at m8<;>simp at m8<;>omega
 have en:(upd (upd ph j .w2) 0 (.rv r fun i=>X i∨i=j)) (n+1)=ph (n+1):=by rw [upd_ne (by omega),upd_ne (by omega)]
 have hsz:=h.sz
 have hcap:=h.cap
 have hx:r+1=num ph N 1+num ph N 2∧ ∀k,1≤k→k≤n→(X k↔3≤code (ph k)):=by
  rcases hm with e | e
  ·exact h.rX.rv _ _ e
  ·obtain ⟨a,b,c,d⟩:=h.rX.rp _ _ e;exact ⟨a,d⟩
 refine ⟨⟨h.nlt,by rw [upd_self];rfl,fun k h1 h2 h3=>?_,fun hN=>by rw [en];exact h.clr hN,?_,?_,by rw [en,ec,el,e8];exact h.sit,?_,by rw [en];exact h.shut⟩,fun q=>?_⟩
 ·rw [upd_ne (by omega)]
  by_cases e:k=j
  ·subst e;rw [upd_self];decide
  ·rw [upd_ne e];exact h.wk k h1 h2 h3
 ·rw [upd_self]
  rcases hm with e | e<;>rw [e] at hsz<;>exact hsz
 ·rw [upd_self,ec]
  rcases hm with e | e<;>rw [e] at hcap<;>exact hcap
 ·rw [upd_self]
  refine ⟨fun y=>(by cases y),fun r' X' e=>?_,fun r' X' e=>(by cases e),fun e=>(by cases e),fun e=>(by cases e)⟩
  cases e
  refine ⟨?_,fun k h1 h2=>?_⟩
  ·rw [nm0,nm0]
   rcases hcj with e | e<;>rw [e] at m1 m2<;>simp at m1 m2<;>omega
  ·rw [upd_ne (by omega)]
   by_cases e:k=j
   ·subst e
    rw [upd_self]
    exact ⟨fun _=>by decide,fun _=>.inr rfl⟩
   ·rw [upd_ne e]
    exact ⟨fun q=>q.elim (hx.2 k h1 h2).1 fun q=>(e q).elim,fun q=>.inl ((hx.2 k h1 h2).2 q)⟩
 ·have:=(hx.2 j hj1 hjn).1 q
  omega
theorem Prot.wspawn (h:Prot n N ph x sm cl) {r:Nat} (hm:ph 0= .mg r):Prot n (N+1) (upd (upd ph N .w1) 0 (.ms r)) x sm cl∧N=n-r∧r<n:=by
 have hsz:=h.sz
 rw [hm] at hsz
 obtain ⟨hr,hN⟩:=hsz
 have hN1:1≤N:=by omega
 have hcap:=h.cap
 rw [hm] at hcap
 obtain ⟨s1,s2,s3⟩:=h.rX.start (by rw [hm];rfl)
 have hk: ∀k,k<N→code ((upd (upd ph N .w1) 0 (.ms r)) k)=code (ph k):=fun k hk=>by
  by_cases e:k=0
  ·subst e;rw [upd_self,hm];rfl
  ·rw [upd_ne e,upd_ne (by omega)]
 have eN:(upd (upd ph N .w1) 0 (.ms r)) N= .w1:=by rw [upd_ne (by omega),upd_self]
 have nm: ∀p,num (upd (upd ph N .w1) 0 (.ms r)) (N+1) p=num ph N p+(if 1=p then 1 else 0):=fun p=>by
  rw [num_succ,num_congr hk,eN];rfl
 have hf: ¬n+1<N:=by omega
 have ec:cnt (upd (upd ph N .w1) 0 (.ms r)) (N+1)=cnt ph N:=by
  unfold cnt
  simp only [nm,upd_self,hm,up]
  simp
  omega
 have el:lw (upd (upd ph N .w1) 0 (.ms r)) (N+1)=lw ph N:=by
  unfold lw
  simp [nm]
 refine ⟨⟨h.nlt,by rw [upd_self];rfl,fun k h1 h2 h3=>?_,fun q=>by omega,?_,?_,?_,?_,?_⟩,hN,hr⟩
 ·by_cases e:k=N
  ·subst e;rw [eN];decide
  ·rw [hk k (by omega)];exact h.wk k h1 h2 (by omega)
 ·rw [upd_self];exact ⟨by omega,by omega⟩
 ·rw [upd_self,ec];exact hcap
 ·have hs:=h.sit
  rw [ec,el,nm]
  rcases hs with ⟨a,b,c,d⟩ | ⟨a,b,c,d,e,f⟩ | ⟨a,b,c,d,e,f,g⟩ | ⟨a,b,c,d,e,f,g⟩ | ⟨a,b,c,d,e,f⟩<;>first | (exfalso;omega) | skip
  exact .inl ⟨a,b,c,fun q=>by omega⟩
 ·rw [upd_self]
  refine ⟨fun _=>⟨?_,s2,fun k h1 h2=>?_⟩,fun r' X e=>(by cases e),fun r' X e=>(by cases e),fun e=>(by cases e),fun e=>(by cases e)⟩
  ·rw [nm,nm];simp;omega
  ·by_cases e:k=N
   ·subst e;rw [eN];decide
   ·rw [hk k (by omega)];exact s3 k h1 (by omega)
 ·rw [s2]
  exact ⟨fun e=>(by cases e),fun e=>(by omega)⟩
theorem Prot.cspawn (h:Prot n N ph x sm cl) (hm:ph 0= .ms 0):Prot n (N+1) (upd (upd ph N .c1) 0 (.rv n fun _=>False)) x sm cl∧N=n+1:=by
 have hsz:=h.sz
 rw [hm] at hsz
 obtain ⟨hr,hN⟩:=hsz
 have hN':N=n+1:=by omega
 subst hN'
 have hcap:=h.cap
 rw [hm] at hcap
 obtain ⟨s1,s2,s3⟩:=h.rX.start (by rw [hm];rfl)
 have hk: ∀k,k<n+1→code ((upd (upd ph (n+1) .c1) 0 (.rv n fun _=>False)) k)=code (ph k):=fun k hk=>by
  by_cases e:k=0
  ·subst e;rw [upd_self,hm];rfl
  ·rw [upd_ne e,upd_ne (by omega)]
 have eN:(upd (upd ph (n+1) .c1) 0 (.rv n fun _=>False)) (n+1)= .c1:=by rw [upd_ne (by omega),upd_self]
 have nm: ∀p,1≤p→num (upd (upd ph (n+1) .c1) 0 (.rv n fun _=>False)) (n+1+1) p=num ph (n+1) p:=fun p hp=>by
  rw [num_succ,num_congr hk,eN,if_neg (by show ¬(0=p);omega),Nat.add_zero]
 have ec:cnt (upd (upd ph (n+1) .c1) 0 (.rv n fun _=>False)) (n+1+1)=cnt ph (n+1):=by
  unfold cnt
  rw [nm 1 (by omega),nm 2 (by omega),nm 3 (by omega),nm 4 (by omega),nm 5 (by omega),upd_self,hm]
  rfl
 have el:lw (upd (upd ph (n+1) .c1) 0 (.rv n fun _=>False)) (n+1+1)=lw ph (n+1):=by
  unfold lw
  rw [nm 6 (by omega),nm 7 (by omega),nm 8 (by omega)]
 refine ⟨⟨h.nlt,by rw [upd_self];rfl,fun k h1 h2 h3=>?_,fun q=>by rw [eN];rfl,by rw [upd_self];exact rfl,?_,?_,?_,?_⟩,rfl⟩
 ·rw [hk k (by omega)];exact h.wk k h1 h2 (by omega)
 ·rw [upd_self,ec];exact hcap
 ·have hs:=h.sit
  rw [ec,el,nm 8 (by omega),eN]
  rcases hs with ⟨a,b,c,d⟩ | ⟨a,b,c,d,e,f⟩ | ⟨a,b,c,d,e,f,g⟩ | ⟨a,b,c,d,e,f,g⟩ | ⟨a,b,c,d,e,f⟩<;>first | (exfalso;omega) | skip
  exact .inl ⟨a,b,c,fun _=>trivial⟩
 ·rw [upd_self]
  refine ⟨fun y=>(by cases y),fun r' X e=>?_,fun r' X e=>(by cases e),fun e=>(by cases e),fun e=>(by cases e)⟩
  cases e
  refine ⟨by rw [nm 1 (by omega),nm 2 (by omega)];omega,fun k h1 h2=>⟨fun q=>q.elim,fun q=>?_⟩⟩
  rw [hk k (by omega)] at q
  have:=s3 k h1 (by omega)
  omega
 ·rw [s2,eN]
  exact ⟨fun e=>(by cases e),fun e=>(by cases e.2)⟩
end
end Go.Vk
end
section
namespace Go.Vk
open Go.Conc Go.Conc.Lib
open Go.ConcR (KK wgBlock WgAt stA smA rd wr mk)
section
variable {n N : Nat} {ph : Nat → Ph} {x sm x' sm' : Int} {cl : Bool} {j : Nat} {q : Ph}
theorem moves (hjN:j<N) {p0:Ph} (hp:ph j=p0) (p:Nat):num (upd ph j q) N p+(if code p0=p then 1 else 0)=num ph N p+(if code q=p then 1 else 0):=by
 have:=num_upd (ph:=ph) (p:=p) (q:=q) hjN
 rw [hp] at this
 exact this
theorem idleC_le {v v':Nat} {p:Ph} (h:idleC v p) (hv:v'≤v):idleC v' p:=by
 cases p<;>simp only [idleC] at h ⊢ <;>first | exact h | omega | skip
 obtain ⟨v0,a,b,c,d⟩:=h
 exact ⟨v0,a,b,c,by omega⟩
section
theorem Prot.w2 (h:Prot n N ph x sm cl) (hj1:1≤j) (hjn:j≤n) (hjN:j<N) (hp:ph j= .w2):Prot n N (upd ph j .w3) x sm cl:=by
 have m1:=moves (q:=Ph.w3) hjN hp 1
 have m2:=moves (q:=Ph.w3) hjN hp 2
 have m3:=moves (q:=Ph.w3) hjN hp 3
 have m4:=moves (q:=Ph.w3) hjN hp 4
 have m5:=moves (q:=Ph.w3) hjN hp 5
 have m6:=moves (q:=Ph.w3) hjN hp 6
 have m7:=moves (q:=Ph.w3) hjN hp 7
 have m8:=moves (q:=Ph.w3) hjN hp 8
 simp [code] at m1 m2 m3 m4 m5 m6 m7 m8
 have u0:upd ph j Ph.w3 0=ph 0:=upd_ne (by omega)
 have ec:cnt (upd ph j .w3) N=cnt ph N:=by unfold cnt;rw [u0];omega
 have el:lw (upd ph j .w3) N=lw ph N:=by unfold lw;omega
 refine h.wstep hj1 hjn hjN (by decide) (by rw [hp];decide) (by ((try simp only [KK] at*)<;>omega)) ?_
 rw [ec,el,m8];exact h.sit
theorem Prot.w3 (h:Prot n N ph x sm cl) (hj1:1≤j) (hjn:j≤n) (hjN:j<N) (hp:ph j= .w3):Prot n N (upd ph j .w4) x sm cl:=by
 have m1:=moves (q:=Ph.w4) hjN hp 1
 have m2:=moves (q:=Ph.w4) hjN hp 2
 have m3:=moves (q:=Ph.w4) hjN hp 3
 have m4:=moves (q:=Ph.w4) hjN hp 4
 have m5:=moves (q:=Ph.w4) hjN hp 5
 have m6:=moves (q:=Ph.w4) hjN hp 6
 have m7:=moves (q:=Ph.w4) hjN hp 7
 have m8:=moves (q:=Ph.w4) hjN hp 8
 simp [code] at m1 m2 m3 m4 m5 m6 m7 m8
 have u0:upd ph j Ph.w4 0=ph 0:=upd_ne (by omega)
 have ec:cnt (upd ph j .w4) N=cnt ph N:=by unfold cnt;rw [u0];omega
 have el:lw (upd ph j .w4) N=lw ph N:=by unfold lw;omega
 refine h.wstep hj1 hjn hjN (by decide) (by rw [hp];decide) (by ((try simp only [KK] at*)<;>omega)) ?_
 rw [ec,el,m8];exact h.sit
theorem cap_le (h:Prot n N ph x sm cl):cnt ph N≤n:=by
 have:=h.cap
 revert this
 cases ph 0<;>simp only [CapOk]<;>omega
theorem Prot.w4 (h:Prot n N ph x sm cl) (hj1:1≤j) (hjn:j≤n) (hjN:j<N) (hp:ph j= .w4):DnOk x∧(x+ -KK=1→Prot n N (upd ph j .w5) (x+ -KK) sm cl)∧(x+ -KK≠1→Prot n N (upd ph j .wq) (x+ -KK) sm cl):=by
 have hK:KK=4294967296:=rfl
 have g5:1≤num ph N 5:=num_ge hjN (by rw [hp];rfl)
 have hcap:=cap_le h
 have hn:=h.nlt
 have hv:1≤cnt ph N:=by unfold cnt;omega
 have hs:=h.sit
 generalize hvv:cnt ph N=v at hs hv hcap
 have g: ∃wt:Nat,wt≤1∧x=(v:Int)*KK+wt:=by
  rcases hs with ⟨a,_⟩ | ⟨a,_⟩ | ⟨_,_,a,_⟩ | ⟨_,_,a,_⟩ | ⟨_,_,a,_⟩<;>first | ((try simp only [KK] at*)<;>omega) | skip
  ·exact ⟨0,by ((try simp only [KK] at*)<;>omega),by ((try simp only [KK] at*)<;>omega)⟩
  ·exact ⟨1,by ((try simp only [KK] at*)<;>omega),by ((try simp only [KK] at*)<;>omega)⟩
 refine ⟨?_,fun e=>?_,fun e=>?_⟩
 ·obtain ⟨wt,h1,h2⟩:=g
  exact ⟨v-1,wt,by ((try simp only [KK] at*)<;>omega),h1,by ((try simp only [KK] at*)<;>omega)⟩
 ·have m1:=moves (q:=Ph.w5) hjN hp 1
  have m2:=moves (q:=Ph.w5) hjN hp 2
  have m3:=moves (q:=Ph.w5) hjN hp 3
  have m4:=moves (q:=Ph.w5) hjN hp 4
  have m5:=moves (q:=Ph.w5) hjN hp 5
  have m6:=moves (q:=Ph.w5) hjN hp 6
  have m7:=moves (q:=Ph.w5) hjN hp 7
  have m8:=moves (q:=Ph.w5) hjN hp 8
  simp [code] at m1 m2 m3 m4 m5 m6 m7 m8
  have u0:upd ph j Ph.w5 0=ph 0:=upd_ne (by omega)
  have ec:cnt (upd ph j .w5) N+1=v:=by rw [←hvv];unfold cnt;rw [u0];omega
  have el:lw (upd ph j .w5) N=lw ph N+1:=by unfold lw;omega
  refine h.wstep hj1 hjn hjN (by decide) (by rw [hp];decide) (by ((try simp only [KK] at*)<;>omega)) ?_
  rcases hs with ⟨a,b,c,d⟩ | ⟨a,b,c,d,e,f⟩ | ⟨a,b,c,d,e,f,g⟩ | ⟨a,b,c,d,e,f,g⟩ | ⟨a,b,c,d,e,f⟩<;>first | (exfalso;((try simp only [KK] at*)<;>omega)) | skip
  have l0:num ph N 6+num ph N 7+num ph N 8=0:=d
  exact .inr (.inr (.inl ⟨by ((try simp only [KK] at*)<;>omega),b,by ((try simp only [KK] at*)<;>omega),by ((try simp only [KK] at*)<;>omega),by ((try simp only [KK] at*)<;>omega),e,f⟩))
 ·have m1:=moves (q:=Ph.wq) hjN hp 1
  have m2:=moves (q:=Ph.wq) hjN hp 2
  have m3:=moves (q:=Ph.wq) hjN hp 3
  have m4:=moves (q:=Ph.wq) hjN hp 4
  have m5:=moves (q:=Ph.wq) hjN hp 5
  have m6:=moves (q:=Ph.wq) hjN hp 6
  have m7:=moves (q:=Ph.wq) hjN hp 7
  have m8:=moves (q:=Ph.wq) hjN hp 8
  simp [code] at m1 m2 m3 m4 m5 m6 m7 m8
  have u0:upd ph j Ph.wq 0=ph 0:=upd_ne (by omega)
  have ec:cnt (upd ph j .wq) N+1=v:=by rw [←hvv];unfold cnt;rw [u0];omega
  have el:lw (upd ph j .wq) N=lw ph N:=by unfold lw;omega
  refine h.wstep hj1 hjn hjN (by decide) (by rw [hp];decide) (by ((try simp only [KK] at*)<;>omega)) ?_
  rcases hs with ⟨a,b,c,d⟩ | ⟨a,b,c,d,e,f⟩ | ⟨a,b,c,d,e,f,g⟩ | ⟨a,b,c,d,e,f,g⟩ | ⟨a,b,c,d,e,f⟩<;>first | (exfalso;((try simp only [KK] at*)<;>omega)) | skip
  ·exact .inl ⟨by ((try simp only [KK] at*)<;>omega),b,by ((try simp only [KK] at*)<;>omega),fun q=>idleC_le (d q) (by ((try simp only [KK] at*)<;>omega))⟩
  ·exact .inr (.inl ⟨by ((try simp only [KK] at*)<;>omega),b,by ((try simp only [KK] at*)<;>omega),by ((try simp only [KK] at*)<;>omega),e,f⟩)
theorem Prot.w5 (h:Prot n N ph x sm cl) (hj1:1≤j) (hjn:j≤n) (hjN:j<N) (hp:ph j= .w5):x=1∧Prot n N (upd ph j .w6) x sm cl:=by
 have g6:1≤num ph N 6:=num_ge hjN (by rw [hp];rfl)
 have m1:=moves (q:=Ph.w6) hjN hp 1
 have m2:=moves (q:=Ph.w6) hjN hp 2
 have m3:=moves (q:=Ph.w6) hjN hp 3
 have m4:=moves (q:=Ph.w6) hjN hp 4
 have m5:=moves (q:=Ph.w6) hjN hp 5
 have m6:=moves (q:=Ph.w6) hjN hp 6
 have m7:=moves (q:=Ph.w6) hjN hp 7
 have m8:=moves (q:=Ph.w6) hjN hp 8
 simp [code] at m1 m2 m3 m4 m5 m6 m7 m8
 have u0:upd ph j Ph.w6 0=ph 0:=upd_ne (by omega)
 have ec:cnt (upd ph j .w6) N=cnt ph N:=by unfold cnt;rw [u0];omega
 have el:lw (upd ph j .w6) N=lw ph N:=by unfold lw;omega
 have lv:lw ph N=num ph N 6+num ph N 7+num ph N 8:=rfl
 have hs:=h.sit
 refine ⟨?_,h.wstep hj1 hjn hjN (by decide) (by rw [hp];decide) (by ((try simp only [KK] at*)<;>omega)) (by rw [ec,el,m8];exact hs)⟩
 rcases hs with ⟨a,b,c,d⟩ | ⟨a,b,c,d,e,f⟩ | ⟨a,b,c,d,e,f,g⟩ | ⟨a,b,c,d,e,f,g⟩ | ⟨a,b,c,d,e,f⟩<;>first | (exfalso;((try simp only [KK] at*)<;>omega)) | skip
 exact a
theorem Prot.w6 (h:Prot n N ph x sm cl) (hj1:1≤j) (hjn:j≤n) (hjN:j<N) (hp:ph j= .w6):Prot n N (upd ph j .w7) 0 sm cl:=by
 have g6:1≤num ph N 7:=num_ge hjN (by rw [hp];rfl)
 have m1:=moves (q:=Ph.w7) hjN hp 1
 have m2:=moves (q:=Ph.w7) hjN hp 2
 have m3:=moves (q:=Ph.w7) hjN hp 3
 have m4:=moves (q:=Ph.w7) hjN hp 4
 have m5:=moves (q:=Ph.w7) hjN hp 5
 have m6:=moves (q:=Ph.w7) hjN hp 6
 have m7:=moves (q:=Ph.w7) hjN hp 7
 have m8:=moves (q:=Ph.w7) hjN hp 8
 simp [code] at m1 m2 m3 m4 m5 m6 m7 m8
 have u0:upd ph j Ph.w7 0=ph 0:=upd_ne (by omega)
 have ec:cnt (upd ph j .w7) N=cnt ph N:=by unfold cnt;rw [u0];omega
 have el:lw (upd ph j .w7) N=lw ph N:=by unfold lw;omega
 have lv:lw ph N=num ph N 6+num ph N 7+num ph N 8:=rfl
 have hs:=h.sit
 refine h.wstep hj1 hjn hjN (by decide) (by rw [hp];decide) (by ((try simp only [KK] at*)<;>omega)) ?_
 rcases hs with ⟨a,b,c,d⟩ | ⟨a,b,c,d,e,f⟩ | ⟨a,b,c,d,e,f,g⟩ | ⟨a,b,c,d,e,f,g⟩ | ⟨a,b,c,d,e,f⟩<;>first | (exfalso;((try simp only [KK] at*)<;>omega)) | skip
 exact .inr (.inr (.inr (.inl ⟨rfl,b,by ((try simp only [KK] at*)<;>omega),by ((try simp only [KK] at*)<;>omega),by ((try simp only [KK] at*)<;>omega),f,g⟩)))
theorem Prot.w7 (h:Prot n N ph x sm cl) (hj1:1≤j) (hjn:j≤n) (hjN:j<N) (hp:ph j= .w7):sm=0∧Prot n N (upd ph j .wq) x 1 cl∧n+1<N∧atSem (ph (n+1))=true:=by
 have g6:1≤num ph N 8:=num_ge hjN (by rw [hp];rfl)
 have m1:=moves (q:=Ph.wq) hjN hp 1
 have m2:=moves (q:=Ph.wq) hjN hp 2
 have m3:=moves (q:=Ph.wq) hjN hp 3
 have m4:=moves (q:=Ph.wq) hjN hp 4
 have m5:=moves (q:=Ph.wq) hjN hp 5
 have m6:=moves (q:=Ph.wq) hjN hp 6
 have m7:=moves (q:=Ph.wq) hjN hp 7
 have m8:=moves (q:=Ph.wq) hjN hp 8
 simp [code] at m1 m2 m3 m4 m5 m6 m7 m8
 have u0:upd ph j Ph.wq 0=ph 0:=upd_ne (by omega)
 have ec:cnt (upd ph j .wq) N=cnt ph N:=by unfold cnt;rw [u0];omega
 have el:lw (upd ph j .wq) N+1=lw ph N:=by unfold lw;omega
 have lv:lw ph N=num ph N 6+num ph N 7+num ph N 8:=rfl
 have hs:=h.sit
 rcases hs with ⟨a,b,c,d⟩ | ⟨a,b,c,d,e,f⟩ | ⟨a,b,c,d,e,f,g⟩ | ⟨a,b,c,d,e,f,g⟩ | ⟨a,b,c,d,e,f⟩<;>first | (exfalso;((try simp only [KK] at*)<;>omega)) | skip
 refine ⟨b,h.wstep hj1 hjn hjN (by decide) (by rw [hp];decide) (by ((try simp only [KK] at*)<;>omega)) ?_,f,g⟩
 exact .inr (.inr (.inr (.inr ⟨a,rfl,by ((try simp only [KK] at*)<;>omega),by ((try simp only [KK] at*)<;>omega),f,g⟩)))
end
section
theorem Prot.big (h:Prot n N ph x sm cl) (hN:n+1<N):cnt ph N≤n:=by
 have:=h.cap
 revert this
 cases ph 0<;>simp only [CapOk]<;>omega
theorem Prot.c1 (h:Prot n N ph x sm cl) (hN:n+1<N) (hp:ph (n+1)= .c1):Prot n N (upd ph (n+1) (.c2 n)) x sm cl:=by
 have hb:=h.big hN
 refine h.cstep hN rfl (by rw [hp];simp [isCq]) ?_
 have hs:=h.sit
 rw [hp] at hs
 rcases hs with ⟨a,b,c,d⟩ | ⟨a,b,c,d,e,f⟩ | ⟨a,b,c,d,e,f,g⟩ | ⟨a,b,c,d,e,f,g⟩ | ⟨a,b,c,d,e,f⟩<;>first | (exfalso;revert f;decide) | (exfalso;revert g;decide) | skip
 exact .inl ⟨a,b,c,fun _=>hb⟩
theorem Prot.c2 (h:Prot n N ph x sm cl) (hN:n+1<N) {f:Nat} (hp:ph (n+1)= .c2 f):WtOk x∧(x=0→Prot n N (upd ph (n+1) .c7) x sm cl)∧(x≠0→Prot n N (upd ph (n+1) (.c3 f x)) x sm cl):=by
 have hK:KK=4294967296:=rfl
 have hb:=h.big hN
 have hn:=h.nlt
 have hs:=h.sit
 rw [hp] at hs
 rcases hs with ⟨a,b,c,d⟩ | ⟨a,b,c,d,e,f⟩ | ⟨a,b,c,d,e,f,g⟩ | ⟨a,b,c,d,e,f,g⟩ | ⟨a,b,c,d,e,f⟩<;>first | (exfalso;revert f;simp [atSem];done) | (exfalso;revert g;simp [atSem];done) | skip
 have d':cnt ph N≤f:=d hN
 refine ⟨⟨cnt ph N,by ((try simp only [KK] at*)<;>omega),a⟩,fun e=>h.cstep hN rfl (by rw [hp];simp [isCq]) (.inl ⟨a,b,c,fun _=>?_⟩),fun e=>h.cstep hN rfl (by rw [hp];simp [isCq]) (.inl ⟨a,b,c,fun _=>⟨cnt ph N,a,by ((try simp only [KK] at*)<;>omega),d',Nat.le_refl _⟩⟩)⟩
 show cnt ph N=0
 ((try simp only [KK] at*)<;>omega)
theorem Prot.c3 (h:Prot n N ph x sm cl) (hN:n+1<N) {f:Nat} {x0:Int} (hp:ph (n+1)= .c3 f x0):(x=x0→Prot n N (upd ph (n+1) .c4) (x0+1) sm cl)∧(x≠x0→ ∃f',f=f'+1∧Prot n N (upd ph (n+1) (.c2 f')) x sm cl):=by
 have hK:KK=4294967296:=rfl
 have hs:=h.sit
 rw [hp] at hs
 rcases hs with ⟨a,b,c,d⟩ | ⟨a,b,c,d,e,f⟩ | ⟨a,b,c,d,e,f,g⟩ | ⟨a,b,c,d,e,f,g⟩ | ⟨a,b,c,d,e,f⟩<;>first | (exfalso;revert f;simp [atSem];done) | (exfalso;revert g;simp [atSem];done) | skip
 obtain ⟨v0,d1,d2,d3,d4⟩:=d hN
 refine ⟨fun e=>h.cstep hN rfl (by rw [hp];simp [isCq]) (.inr (.inl ⟨by ((try simp only [KK] at*)<;>omega),b,by ((try simp only [KK] at*)<;>omega),c,trivial,rfl⟩)),fun e=>?_⟩
 cases f with
 | zero=>omega
 | succ f'=>
  refine ⟨f',rfl,h.cstep hN rfl (by rw [hp];simp [isCq]) (.inl ⟨a,b,c,fun _=>?_⟩)⟩
  show cnt ph N≤f'
  have:v0≠cnt ph N:=fun q=>e (by rw [a,d1,q])
  omega
theorem Prot.csem (h:Prot n N ph x sm cl) (hN:n+1<N) (hp:atSem (ph (n+1))=true) {q:Ph} (hq:atSem q=true) (hr:roleC q=true):Prot n N (upd ph (n+1) q) x sm cl:=by
 have e1:isCq q=false:=by cases q<;>simp [atSem,isCq] at hq ⊢
 have e2:isCq (ph (n+1))=false:=by
  revert hp
  cases ph (n+1)<;>simp [atSem,isCq]
 have i2: ∀v,¬idleC v (ph (n+1)):=fun v=>by
  revert hp
  cases ph (n+1)<;>simp [atSem,idleC]
 refine h.cstep hN hr (by rw [e1,e2]) ?_
 rcases h.sit with ⟨a,b,c,d⟩ | ⟨a,b,c,d,e,f⟩ | ⟨a,b,c,d,e,f,g⟩ | ⟨a,b,c,d,e,f,g⟩ | ⟨a,b,c,d,e,f⟩
 ·exact (i2 _ (d hN)).elim
 ·exact .inr (.inl ⟨a,b,c,d,trivial,hq⟩)
 ·exact .inr (.inr (.inl ⟨a,b,c,d,e,trivial,hq⟩))
 ·exact .inr (.inr (.inr (.inl ⟨a,b,c,d,e,trivial,hq⟩)))
 ·exact .inr (.inr (.inr (.inr ⟨a,b,c,d,trivial,hq⟩)))
theorem Prot.acq (h:Prot n N ph x sm cl) (hN:n+1<N) (hp:atSem (ph (n+1))=true):sm=0∨(sm=1∧Prot n N (upd ph (n+1) .c6) x 0 cl):=by
 have e2:isCq (ph (n+1))=false:=by
  revert hp
  cases ph (n+1)<;>simp [atSem,isCq]
 have i2: ∀v,¬idleC v (ph (n+1)):=fun v=>by
  revert hp
  cases ph (n+1)<;>simp [atSem,idleC]
 rcases h.sit with ⟨a,b,c,d⟩ | ⟨a,b,c,d,e,f⟩ | ⟨a,b,c,d,e,f,g⟩ | ⟨a,b,c,d,e,f,g⟩ | ⟨a,b,c,d,e,f⟩<;>first | exact .inl b | skip
 refine .inr ⟨b,h.cstep hN rfl (by rw [e2];decide) (.inl ⟨by rw [a,c];simp,rfl,d,fun _=>c⟩)⟩
theorem Prot.zero (h:Prot n N ph x sm cl) (hN:n+1<N) (hp:idleC (cnt ph N) (ph (n+1))→cnt ph N=0) (ha:atSem (ph (n+1))=false):x=0∧sm=0∧cnt ph N=0∧lw ph N=0∧ ∀q,roleC q=true→(isCq q=true↔isCq (ph (n+1))=true)→idleC 0 q→Prot n N (upd ph (n+1) q) x sm cl:=by
 have hs:=h.sit
 rcases hs with ⟨a,b,c,d⟩ | ⟨a,b,c,d,e,f⟩ | ⟨a,b,c,d,e,f,g⟩ | ⟨a,b,c,d,e,f,g⟩ | ⟨a,b,c,d,e,f⟩<;>first | (rw [ha] at f;cases f;done) | (rw [ha] at g;cases g;done) | skip
 have z:=hp (d hN)
 refine ⟨by rw [a,z];simp,b,z,c,fun q hr hc hi=>h.cstep hN hr hc (.inl ⟨a,b,c,fun _=>by rw [z];exact hi⟩)⟩
theorem Prot.close (h:Prot n N ph x sm cl) (hN:n+1<N) (hp:ph (n+1)= .c10):cl=false∧((∀r X,ph 0≠ .rp r X)→Prot n N (upd ph (n+1) .cq) x sm true)∧(∀r X,ph 0= .rp r X→r=0∧Prot n N (upd (upd ph (n+1) .cq) 0 .rw) x sm true):=by
 obtain ⟨z1,z2,z3,z4,_⟩:=h.zero hN (by rw [hp];exact id) (by rw [hp];rfl)
 have hcl:cl=false:=by
  cases cl with
  | false=>rfl
  | true=>have:=(h.shut.1 rfl).2;rw [hp] at this;cases this
 have hs:=h.sit
 have h12:num ph N 1+num ph N 2=0:=by unfold cnt at z3;omega
 have hT:(n+1<N)=True:=eq_true hN
 have nm: ∀p,num (upd ph (n+1) .cq) N p=num ph N p:=fun p=>num_same (by rw [hp];rfl)
 have hm0:=h.main
 have u0:upd ph (n+1) .cq 0=ph 0:=upd_ne (by omega)
 refine ⟨hcl,fun hne=>?_,fun r X hm=>?_⟩
 ·have ec:cnt (upd ph (n+1) .cq) N=cnt ph N:=by unfold cnt;rw [nm,nm,nm,nm,nm,u0]
  have el:lw (upd ph (n+1) .cq) N=lw ph N:=by unfold lw;rw [nm,nm,nm]
  refine ⟨h.nlt,by rw [u0];exact hm0,fun k h1 h2 h3=>by rw [upd_ne (by omega)];exact h.wk k h1 h2 h3,fun _=>by rw [upd_self];rfl,by rw [u0];exact h.sz,by rw [u0,ec];exact h.cap,?_,?_,⟨fun _=>⟨hN,by rw [upd_self];rfl⟩,fun _=>rfl⟩⟩
  ·rw [upd_self,ec,el,nm,z3,z4]
   exact .inl ⟨by rw [z1];simp,z2,rfl,fun _=>rfl⟩
  ·rw [u0]
   have hx:=h.rX
   refine ⟨fun y=>?_,fun r X e=>?_,fun r X e=>(hne r X e).elim,fun e=>?_,fun e=>?_⟩
   ·have:=h.sz
    exfalso
    revert this y
    cases ph 0<;>simp only [young,SzOk]<;>intro a b<;>first | omega | cases a
   ·rw [nm,nm]
    exact ⟨(hx.rv r X e).1,fun k h1 h2=>by rw [upd_ne (by omega)];exact (hx.rv r X e).2 k h1 h2⟩
   ·have:=(hx.rw e).2;rw [hcl] at this;cases this
   ·have:=(hx.fin e).2;rw [hcl] at this;cases this
 ·obtain ⟨r1,r2,r3,r4⟩:=h.rX.rp r X hm
  have nm': ∀p,num (upd (upd ph (n+1) .cq) 0 .rw) N p=num ph N p:=fun p=>(num_same (by rw [u0,code_roleM hm0];rfl)).trans (nm p)
  have ec:cnt (upd (upd ph (n+1) .cq) 0 .rw) N=cnt ph N:=by unfold cnt;rw [nm',nm',nm',nm',nm',upd_self,hm];rfl
  have el:lw (upd (upd ph (n+1) .cq) 0 .rw) N=lw ph N:=by unfold lw;rw [nm',nm',nm']
  have hsz:=h.sz
  have hcap:=h.cap
  rw [hm] at hsz hcap
  refine ⟨by ((try simp only [KK] at*)<;>omega),h.nlt,by rw [upd_self];rfl,fun k h1 h2 h3=>by rw [upd_ne (by omega),upd_ne (by omega)];exact h.wk k h1 h2 h3,fun _=>by rw [upd_ne (by omega),upd_self];rfl,by rw [upd_self];exact hsz,by rw [upd_self,ec];exact hcap,?_,?_,⟨fun _=>⟨hN,by rw [upd_ne (by omega),upd_self];rfl⟩,fun _=>rfl⟩⟩
  ·rw [upd_ne (by omega),upd_self,ec,el,nm',z3,z4]
   exact .inl ⟨by rw [z1];simp,z2,rfl,fun _=>rfl⟩
  ·rw [upd_self]
   refine ⟨fun y=>(by cases y),fun r X e=>(by cases e),fun r X e=>(by cases e),fun e=>?_,fun e=>(by cases e)⟩
   rw [nm',nm'];exact ⟨h12,rfl⟩
end
section
theorem Prot.early (h:Prot n N ph x sm cl) (hN:0<N) (hy:young (ph 0)=true): ¬n+1<N:=fun q=>by
 have:=h.sz
 revert this hy
 cases ph 0<;>simp only [young,SzOk]<;>intro a b<;>first | omega | cases a
theorem Prot.ysit (h:Prot n N ph x sm cl) (hN:0<N) (hy:young (ph 0)=true):x=(cnt ph N:Int)*KK∧sm=0∧lw ph N=0:=by
 have hf:=h.early hN hy
 rcases h.sit with ⟨a,b,c,d⟩ | ⟨a,b,c,d,e,f⟩ | ⟨a,b,c,d,e,f,g⟩ | ⟨a,b,c,d,e,f,g⟩ | ⟨a,b,c,d,e,f⟩<;>first | (exfalso;exact hf e) | (exfalso;exact hf f) | skip
 exact ⟨a,b,c⟩
theorem Prot.ymove (h:Prot n N ph x sm cl) (hN:0<N) (hy:young (ph 0)=true) {q:Ph} (hq:young q=true) (hr:roleM q=true) (hsz:SzOk n N q) (hcap:CapOk n (cnt (upd ph 0 q) N) q) {x':Int} (hx:x'=(cnt (upd ph 0 q) N:Int)*KK):Prot n N (upd ph 0 q) x' sm cl:=by
 obtain ⟨a,b,c⟩:=h.ysit hN hy
 refine h.mstep hN hr hsz hcap (.inl ⟨hx,b,c,fun q=>(h.early hN hy q).elim⟩) ⟨fun _=>h.rX.start hy,fun r X e=>?_,fun r X e=>?_,fun e=>?_,fun e=>?_⟩<;>subst e<;>cases hq
theorem Prot.ms (h:Prot n N ph x sm cl) (hN:0<N) {r:Nat} (hp:ph 0= .ms (r+1)):Prot n N (upd ph 0 (.ma r)) x sm cl:=by
 have hy:young (ph 0)=true:=by rw [hp];rfl
 have ec:=cnt_main (N:=N) (q:= .ma r) h.main rfl
 rw [hp] at ec
 simp only [up] at ec
 have hc:=h.cap;rw [hp] at hc
 have hs:=h.sz;rw [hp] at hs
 simp only [CapOk,SzOk] at hc hs
 refine h.ymove (q:= .ma r) hN hy rfl rfl ⟨by ((try simp only [KK] at*)<;>omega),by ((try simp only [KK] at*)<;>omega)⟩ (by simp only [CapOk];omega) ?_
 rw [(h.ysit hN hy).1]
 congr 2
 omega
theorem Prot.ma (h:Prot n N ph x sm cl) (hN:0<N) {r:Nat} (hp:ph 0= .ma r):UpOk x∧Prot n N (upd ph 0 (.mr r)) (x+KK) sm cl∧Prot n N (upd ph 0 (.me r)) (x+KK) sm cl:=by
 have hK:KK=4294967296:=rfl
 have hy:young (ph 0)=true:=by rw [hp];rfl
 have ec:=cnt_main (N:=N) (q:= .mr r) h.main rfl
 have ec':=cnt_main (N:=N) (q:= .me r) h.main rfl
 rw [hp] at ec ec'
 simp only [up] at ec ec'
 have hc:=h.cap;rw [hp] at hc
 have hs:=h.sz;rw [hp] at hs
 simp only [CapOk,SzOk] at hc hs
 have hx:=(h.ysit hN hy).1
 have hn:=h.nlt
 exact ⟨⟨cnt ph N,by ((try simp only [KK] at*)<;>omega),hx⟩,h.ymove (q:= .mr r) hN hy rfl rfl ⟨by ((try simp only [KK] at*)<;>omega),by ((try simp only [KK] at*)<;>omega)⟩ (by simp only [CapOk];omega) (by ((try simp only [KK] at*)<;>omega)),h.ymove (q:= .me r) hN hy rfl rfl ⟨by ((try simp only [KK] at*)<;>omega),by ((try simp only [KK] at*)<;>omega)⟩ (by simp only [CapOk];omega) (by ((try simp only [KK] at*)<;>omega))⟩
theorem Prot.mr (h:Prot n N ph x sm cl) (hN:0<N) {r:Nat} (hp:ph 0= .mr r):Prot n N (upd ph 0 (.me r)) x sm cl:=by
 have hy:young (ph 0)=true:=by rw [hp];rfl
 have ec:=cnt_main (N:=N) (q:= .me r) h.main rfl
 rw [hp] at ec
 simp only [up] at ec
 have hc:=h.cap;rw [hp] at hc
 have hs:=h.sz;rw [hp] at hs
 simp only [CapOk,SzOk] at hc hs
 refine h.ymove (q:= .me r) hN hy rfl rfl ⟨by ((try simp only [KK] at*)<;>omega),by ((try simp only [KK] at*)<;>omega)⟩ (by simp only [CapOk];omega) ?_
 rw [(h.ysit hN hy).1]
 congr 2
 omega
theorem Prot.me (h:Prot n N ph x sm cl) (hN:0<N) {r:Nat} (hp:ph 0= .me r):Prot n N (upd ph 0 (.mg r)) x sm cl:=by
 have hy:young (ph 0)=true:=by rw [hp];rfl
 have ec:=cnt_main (N:=N) (q:= .mg r) h.main rfl
 rw [hp] at ec
 simp only [up] at ec
 have hc:=h.cap;rw [hp] at hc
 have hs:=h.sz;rw [hp] at hs
 simp only [CapOk,SzOk] at hc hs
 refine h.ymove (q:= .mg r) hN hy rfl rfl ⟨by ((try simp only [KK] at*)<;>omega),by ((try simp only [KK] at*)<;>omega)⟩ (by simp only [CapOk];omega) ?_
 rw [(h.ysit hN hy).1]
 congr 2
 omega
theorem Prot.late (h:Prot n N ph x sm cl) (hN:0<N) {q:Ph} (hy:young (ph 0)=false) (hr:roleM q=true) (hq:young q=false) (hx:RxOk n N ph cl q):Prot n N (upd ph 0 q) x sm cl:=by
 have ec:=cnt_main (N:=N) (q:=q) h.main hr
 have u1:up q=0:=by revert hq;cases q<;>simp [young,up]
 have u2:up (ph 0)=0:=by revert hy;cases ph 0<;>simp [young,up]
 have ec':cnt (upd ph 0 q) N=cnt ph N:=by ((try simp only [KK] at*)<;>omega)
 have hsz:=h.sz
 have hcap:=h.cap
 have hs:N=n+2:=by revert hsz hy;cases ph 0<;>simp [young,SzOk]
 have hc:cnt ph N≤n:=by revert hcap;cases ph 0<;>simp only [CapOk]<;>omega
 refine h.mstep hN hr ?_ ?_ (by rw [ec'];exact h.sit) hx
 ·revert hq hr;cases q<;>simp [young,SzOk,roleM]<;>exact hs
 ·rw [ec'];revert hq hr;cases q<;>simp [young,CapOk,roleM]<;>exact hc
end
theorem Prot.shutNone (h:Prot n N ph x sm cl) (hc:cl=true):num ph N 1+num ph N 2=0∧cnt ph N=0∧lw ph N=0∧n+1<N:=by
 obtain ⟨hN,hq⟩:=h.shut.1 hc
 have ha:atSem (ph (n+1))=false:=by revert hq;cases ph (n+1)<;>simp [isCq,atSem]
 have hi: ∀v,idleC v (ph (n+1))→v=0:=by revert hq;cases ph (n+1)<;>simp [isCq,idleC]
 obtain ⟨z1,z2,z3,z4,_⟩:=h.zero hN (hi _) ha
 exact ⟨by unfold cnt at z3;omega,z3,z4,hN⟩
end
end Go.Vk
end
section
namespace Go.Vk
open Go.Conc Go.Conc.Lib
open Go.ConcR (KK wgBlock WgAt stA smA rd wr mk)
open Go.ConcN (WgLive)
theorem upd_id {α:Type} {f:Nat→α} {j:Nat}:upd f j (f j)=f:=by
 funext k
 by_cases e:k=j
 ·subst e;exact upd_self
 ·exact upd_ne e
structure Mp.Wf (M:Mp):Prop where
 okm: ∀k val v v',Itf v v'→M.Ok k val v→M.Ok k val v'
def isAct:Ph→Bool
 | .rp _ _ | .rw | .wp | .w2 | .w3 | .w4 | .w5 | .w6 | .w7 | .wq | .cs | .cq=>false
 | _=>true
section
variable {M : Mp}
theorem gok_act {k:Nat} {p:Ph} {x:GS} {v:World} {g:Goroutine} {w:World} (h:isAct p=true):M.GOk k p x v g w=M.Act k p x v g w:=by cases p<;>first | rfl | cases h
theorem stop_run {k:Nat} {p:Ph} {g:Goroutine} {v:World} (h:M.stop k p g v):g.status= .running:=by
 cases p<;>try exact h.1
 case ms r=>cases r<;>exact h.1
 case rv r X=>cases r<;>exact h.choose_spec.1.1
 case c2 f=>cases f<;>exact h.1
 all_goals exact h.elim
theorem act_run {k:Nat} {p:Ph} {x:GS} {v:World} {g:Goroutine} {w:World} (h:M.Act k p x v g w):g.status= .running:=by
 obtain ⟨h,_⟩:=h
 cases hT:x.T with
 | leaf=>rw [hT] at h;exact stop_run (h v .refl)
 | mk f=>rw [hT] at h;exact h.1
theorem qw_run {P:Program} {main:Bool} {J:World→Prop} {S:Goroutine→Prop} (hS: ∀g,S g→g.status= .running): ∀ {q:Nat} {g:Goroutine},Qw P main J S q g→g.status= .running
 | 0,g,h=>hS g h
 | q+1,g,h=>h.1
theorem quiet_run {S:Goroutine→Prop} (hS: ∀g,S g→g.status= .running) {x:GS} {g:Goroutine} (h:M.Quiet S x g):g.status= .running:=by
 obtain ⟨q,_,h⟩:=h
 exact qw_run hS h
theorem RK_mono {r:Nat} {X:Nat→Prop} {z:Value} {g:Goroutine} {v v₁:World} (h:M.RK r X z g v) (hr:Itf v v₁):M.RK r X z g v₁:=by
 cases r with
 | zero=>exact fun v₂ h₂=>h v₂ (hr.trans h₂)
 | succ r=>exact fun v₂ h₂=>h v₂ (hr.trans h₂)
theorem C5_mono {g:Goroutine} {v v₁:World} (h:M.C5 g v) (hr:Itf v v₁):M.C5 g v₁:=by
 obtain ⟨a,b,c,g',d,e⟩:=h
 exact ⟨a,b,c,g',d,e.rely hr⟩
theorem again_blk {g:Goroutine} (hs:g.status= .running) (ho:g.offers=none) (w:World):({g with status:= .blocked}:Goroutine).again w=g:=by
 cases g
 simp only at hs ho
 subst hs;subst ho
 rfl
theorem Mp.others (hw:M.Wf) {k:Nat} {p:Ph} {x:GS} {v:World} {g go:Goroutine} {w w':World} (h:M.GOk k p x v g w) (hr:Rl x.γ w w')
  (ho:(p= .wp∨ ∃r X,p= .rp r X)→ ∃r s,w'.heap[M.c]?=some (.chan 0 #[] false s r false)) (hgo:go=g∨go=g.again w'): ∃v',M.GOk k p x v' go w':=by
 have run:g.status= .running∨g.status= .finished→go=g:=fun hs=>hgo.elim id fun e=>by rw [e,again_running _ hs]
 by_cases ha:isAct p=true
 ·rw [gok_act ha] at h
  obtain ⟨h1,h2⟩:=id h
  obtain ⟨v₁,q1,q2⟩:=h2.rely hr
  refine ⟨v₁,?_⟩
  rw [gok_act ha,run (.inl (act_run h))]
  exact ⟨h1.rely q2,q1⟩
 ·cases p<;>first | exact (ha rfl).elim | skip
  case rp r X=>
   obtain ⟨g0,z,rfl,h2,h3,h4⟩:=h
   obtain ⟨r',s',hc⟩:=ho (.inr ⟨r,X,rfl⟩)
   obtain ⟨v₁,q1,q2⟩:=h2.rely hr
   have:go=parked g0 #[rcase M.c z] (.recv true):=hgo.elim id fun e=>by rw [e,again_recv_open hc]
   exact ⟨v₁,g0,z,this,q1,h3,RK_mono h4 q2⟩
  case rw=>
   obtain ⟨g0,z,X,rfl,h2,h3,h4⟩:=h
   obtain ⟨v₁,q1,q2⟩:=h2.rely hr
   exact ⟨v₁,g0,z,X,run (.inl rfl),q1,h3,RK_mono h4 q2⟩
  case wp=>
   obtain ⟨g0,val,z,rfl,h2,h3,h4⟩:=h
   obtain ⟨r',s',hc⟩:=ho (.inl rfl)
   obtain ⟨v₁,q1,q2⟩:=h3.rely hr
   have:go=parked g0 #[scase M.c val z] .send:=hgo.elim id fun e=>by rw [e,again_send_open hc]
   exact ⟨v₁,g0,val,z,this,hw.okm _ _ _ _ q2 h2,q1,h4⟩
  case cs=>
   obtain ⟨g0,h1,h2,h3⟩:=h
   obtain ⟨v₁,q1,q2⟩:=h3.rely hr
   refine ⟨v₁,g0,?_,C5_mono h2 q2,q1⟩
   rcases h1 with rfl | rfl
   ·exact .inl (run (.inl h2.1))
   ·exact hgo.elim .inr fun e=>.inl (by rw [e,again_blk h2.1 h2.2.1])
  case wq=>obtain ⟨q,h1,h2⟩:=h;exact ⟨v,by rw [run h2.status];exact ⟨q,h1,h2⟩⟩
  case cq=>obtain ⟨q,h1,h2⟩:=h;exact ⟨v,by rw [run h2.status];exact ⟨q,h1,h2⟩⟩
  all_goals exact ⟨v,by rw [run (.inl (quiet_run (fun g h=>h.1) h))];exact h⟩
theorem gok_status {k:Nat} {p:Ph} {x:GS} {v:World} {g:Goroutine} {w:World} (h:M.GOk k p x v g w):
  g.status= .running∨(g.status= .blocked∧(p= .wp∨p= .cs∨ ∃r X,p= .rp r X))∨(g.status= .finished∧(p= .wq∨p= .cq)):=by
 by_cases ha:isAct p=true
 ·rw [gok_act ha] at h;exact .inl (act_run h)
 ·cases p<;>first | exact (ha rfl).elim | skip
  case rp r X=>obtain ⟨g0,z,rfl,_⟩:=h;exact .inr (.inl ⟨rfl,.inr (.inr ⟨r,X,rfl⟩)⟩)
  case rw=>obtain ⟨g0,z,X,rfl,_⟩:=h;exact .inl rfl
  case wp=>obtain ⟨g0,val,z,rfl,_⟩:=h;exact .inr (.inl ⟨rfl,.inl rfl⟩)
  case cs=>
   obtain ⟨g0,h1,h2,_⟩:=h
   rcases h1 with rfl | rfl
   ·exact .inl h2.1
   ·exact .inr (.inl ⟨rfl,.inr (.inl rfl)⟩)
  case wq=>obtain ⟨q,h1,h2⟩:=h;exact h2.status.imp id fun e=>.inr ⟨e,.inl rfl⟩
  case cq=>obtain ⟨q,h1,h2⟩:=h;exact h2.status.imp id fun e=>.inr ⟨e,.inr rfl⟩
  all_goals exact .inl (quiet_run (fun g h=>h.1) h)
theorem mu_stage {gs gs':Array Goroutine} {X:Nat→GS} {ph:Nat→Ph} {i:Nat} {x':GS} {p':Ph} (hi:i<gs.size) (hz:gs'.size=gs.size) (hp:stage M.n p'<stage M.n (ph i)):
  Mu.lt (M.mu gs' (upd X i x') (upd ph i p')) (M.mu gs X ph):=by
 have:=sum_upd (f:=fun k=>stage M.n (ph k)) (x:=stage M.n p') hi
 have e:(fun k=>if k=i then stage M.n p' else stage M.n (ph k))=fun k=>stage M.n (upd ph i p' k):=by
  funext k
  by_cases h:k=i
  ·subst h;rw [if_pos rfl,upd_self]
  ·rw [if_neg h,upd_ne h]
 rw [e] at this
 refine .inl ?_
 simp only [Mp.mu,hz]
 omega
theorem mu_walk {gs gs':Array Goroutine} {X:Nat→GS} {ph:Nat→Ph} {i:Nat} {x':GS} (hi:i<gs.size) (hz:gs'.size=gs.size) (hp:Tr.lt x'.T (X i).T):
  Mu.lt (M.mu gs' (upd X i x') ph) (M.mu gs X ph):=by
 have:=Ls.upd (f:=fun k=>(X k).T) (t:=x'.T) hi hp
 have e:(fun k=>if k=i then x'.T else (X k).T)=fun k=>(upd X i x' k).T:=by
  funext k
  by_cases h:k=i
  ·subst h;rw [if_pos rfl,upd_self]
  ·rw [if_neg h,upd_ne h]
 rw [e] at this
 exact .inr ⟨by simp only [Mp.mu,hz],.inl (by simp only [Mp.mu,hz];exact this)⟩
theorem ofE_get {i:Nat} {fn:FuncId} {pos:String} {es:Array Event} {op:MemOp} (h:op∈MemOp.ofEvents i fn pos es):op.g=i∧ ∃e∈es,op.act= .ofEvent e:=by
 obtain ⟨e,he,rfl⟩:=Go.Conc.mem_ofEvents h
 exact ⟨rfl,e,he,rfl⟩
theorem touch_atOk {γ:Gh} {N sz sz' j:Nat} {e:Event} {a:Touch} (h:AtOk γ sz sz' e) (ht:(MemAct.ofEvent e).touch?=some a):TouchOk M N sz sz' γ j a:=by
 obtain ⟨l,w,s⟩:=e
 cases l with
 | cell ad=>
  have:a=⟨.cell ad,w,if s then .atomic else .plain⟩:=by cases w<;>cases s<;>(cases ht;rfl)
  subst this
  rcases h with h | h | ⟨h,h'⟩
  ·exact .inl ⟨_,rfl,.inl h⟩
  ·exact .inl ⟨_,rfl,.inr h⟩
  ·exact .inr (.inl ⟨h,_,rfl,h'⟩)
 | obj r=>
  have:a=⟨.obj r,w,if s then .atomic else .plain⟩:=by cases w<;>cases s<;>first | (cases ht;rfl) | (cases ht)
  subst this
  exact .inl ⟨_,rfl,h⟩
 | mark m=>
  rcases h with h | ⟨f,h⟩<;>subst h<;>cases ht
 | _=>exact h.elim
theorem still_atOk {γ:Gh} {sz sz':Nat} {e:Event} (h:AtOk γ sz sz' e):e.loc≠ .mark .disable∧e.loc≠ .mark .enable:=by
 unfold AtOk at h
 constructor<;>intro q<;>rw [q] at h<;>rcases h with h | ⟨f,h⟩<;>cases h
theorem hush {j:Nat} {fn:FuncId} {pos:String}: ∀(l:List Event),(∀e∈l,e.loc≠ .mark .enable)→ ∀t:Trace,1≤Deaf t j→ ∀i,t.size≤i→i≤t.size+l.length→
  1≤(t++(l.map fun e=>({g:=j,fn,pos,act:= .ofEvent e}:MemOp)).toArray).deaf j i
 | [],_,t,h,i,h1,h2=>by
  have:i=t.size:=by simp at h2;omega
  subst this
  rw [deaf_old (Nat.le_refl _)];exact h
 | e::l,hl,t,h,i,h1,h2=>by
  have eq:t++((e::l).map fun e=>({g:=j,fn,pos,act:= .ofEvent e}:MemOp)).toArray=(t++ #[({g:=j,fn,pos,act:= .ofEvent e}:MemOp)])++(l.map fun e=>({g:=j,fn,pos,act:= .ofEvent e}:MemOp)).toArray:=by simp
  rcases Nat.eq_or_lt_of_le h1 with q | q
  ·subst q
   rw [deaf_old (Nat.le_refl _)];exact h
  ·rw [eq]
   refine hush l (fun e he=>hl e (List.mem_cons_of_mem _ he)) _ ?_ i (by simp;omega) (by simp at h2 ⊢;omega)
   rw [Deaf_push]
   have:=hl e List.mem_cons_self
   obtain ⟨lc,w,s⟩:=e
   cases lc with
   | mark m=>cases m<;>simp [deafStep,MemAct.ofEvent]<;>first | omega | exact (this rfl).elim
   | obj c=>cases w<;>cases s<;>simp [deafStep,MemAct.ofEvent]<;>omega
   | _=>simp [deafStep,MemAct.ofEvent]<;>omega
theorem hush_counts {j:Nat} {fn:FuncId} {pos:String} {es:Array Event} {t:Trace} (hd:1≤Deaf t j) (l:List Event) (he:es=l.toArray∨es=(l++[(⟨.mark .enable,false,true⟩:Event)]).toArray)
  (hl: ∀e∈l,e.loc≠ .mark .enable) (ha: ∀e∈l,∀a,(MemAct.ofEvent e).touch?=some a→a.kind= .atomic) (i:Nat) (hi:t.size≤i): ¬(t++MemOp.ofEvents j fn pos es).counts i:=by
 rintro ⟨a,h1,h2,h3⟩
 have h1':touchAt (t++MemOp.ofEvents j fn pos es) i=some a:=h1
 rcases touch_app h1' with ⟨hi',_⟩ | ⟨_,op,hop,hio,hoa⟩
 ·omega
 obtain ⟨hg,e,hes,hact⟩:=ofE_get hop
 rw [hact] at hoa
 have hmem:e∈l:=by
  rcases he with he | he<;>rw [he] at hes<;>simp at hes
  ·exact hes
  ·rcases hes with hes | hes
   ·exact hes
   ·rw [hes] at hoa;cases hoa
 have hk:=ha e hmem a hoa
 rcases h3 with h3 | ⟨g,hg1,hg2⟩
 ·exact h3 hk
 ·have:g=j:=by
   simp [Trace.g?,hio,hg] at hg1;exact hg1.symm
  subst this
  have hsz:i<(t++MemOp.ofEvents g fn pos es).size:=lt_size_of_getElem? hio
  rw [ofEvents_eq] at hg2 hsz hio
  have key:=hush (j:=g) (fn:=fn) (pos:=pos) l hl t hd i hi
  rcases he with he | he
  ·rw [he] at hg2 hsz
   simp at hsz
   have:=key (by omega)
   simp only [List.map_toArray] at hg2
   omega
  ·rw [he] at hg2 hsz hio
   have eq:(t++((l++[(⟨.mark .enable,false,true⟩:Event)]).toArray.map fun e=>({g,fn,pos,act:= .ofEvent e}:MemOp)))=(t++(l.map fun e=>({g,fn,pos,act:= .ofEvent e}:MemOp)).toArray)++ #[({g,fn,pos,act:= .ofEvent ⟨.mark .enable,false,true⟩}:MemOp)]:=by simp
   rw [eq] at hg2 hsz
   have hle:i≤(t++(l.map fun e=>({g,fn,pos,act:= .ofEvent e}:MemOp)).toArray).size:=by simp at hsz ⊢;omega
   rw [deaf_old hle] at hg2
   have:=key (by simp at hle;omega)
   omega
end
end Go.Vk
end
section
namespace Go.Vk
open Go.Conc Go.Conc.Lib
open Go.ConcR (KK wgBlock WgAt stA smA rd wr mk)
open Go.ConcN (WgLive)
section
variable {M : Mp} {W : World} {gs : Array Goroutine} {w w' : World} {X : Nat → GS} {ph : Nat → Ph} {x sm : Int} {cl : Bool} {r0 : Nat} {t : Trace}
theorem lts {gs:Array Goroutine} {i:Nat} {g:Goroutine} (h:gs[i]?=some g):i<gs.size:=(Array.getElem?_eq_some_iff.1 h).1
theorem Inv.open (h:Inv M W gs w X ph x sm cl r0 t) {k:Nat} (hk:k<gs.size) (hp:ph k= .wp∨ ∃r X,ph k= .rp r X):cl=false:=by
 cases hc:cl with
 | false=>rfl
 | true=>
  obtain ⟨h12,_,_,_⟩:=h.pr.shutNone hc
  rcases hp with hp | ⟨r,Y,hp⟩
  ·have:=num_ge (ph:=ph) (p:=2) hk (by rw [hp];rfl)
   omega
  ·have hc0:k=0:=by
    have hsz:gs.size≤M.n+2:=by
     have:=h.pr.sz
     revert this
     cases ph 0<;>simp only [SzOk]<;>omega
    rcases Nat.eq_zero_or_pos k with e | e
    ·exact e
    ·rcases Nat.lt_or_ge M.n k with q | q
     ·have hk':k=M.n+1:=by omega
      subst hk'
      have:=h.pr.clr hk
      rw [hp] at this;cases this
     ·have:=h.pr.wk k e q hk
      rw [hp] at this
      simp [code] at this
   subst hc0
   rw [←hc]
   exact (h.pr.rX.rp r Y hp).2.2.1
theorem Inv.at (h:Inv M W gs w X ph x sm cl r0 t) (hw:M.Wf) (d:Nat):Inv M W gs (w.at d) X ph x sm cl r0 t:=by
 have hok: ∀(k:Nat) g,gs[k]?=some g→ ∃v,M.GOk k (ph k) (X k) v g (w.at d):=fun k g hk=>by
  obtain ⟨v,hv⟩:=h.ok k g hk
  refine Mp.others hw hv ⟨Nat.le_refl _,fun _ _=>rfl,rfl,rfl,rfl⟩ (fun hp=>?_) (.inl rfl)
  have hc:=h.open (lts hk) hp
  have:=h.ch
  rw [hc] at this
  exact ⟨_,_,this⟩
 exact {h with ok:=hok}
def Mp.Nx (M:Mp) (W:World) (gs:Array Goroutine) (w:World) (X:Nat→GS) (ph:Nat→Ph) (t:Trace) (sl:Option (Nat×Nat)) (i:Nat):Prop:=
 ∃gs' w' X' ph' x' sm' cl' r' sl' u,runT M.P (crowd gs w sl) i=(.next (crowd gs' w' sl'),u)∧Inv M W gs' w' X' ph' x' sm' cl' r' (t++u)∧Mu.lt (M.mu gs' X' ph') (M.mu gs X ph)
theorem TI.mono {N sz:Nat} {γ:Nat→Gh} {d:Nat→Nat} {pre pre':Nat→Prop} (h:TI M N sz γ d pre t) (hp: ∀k,pre k→pre' k):TI M N sz γ d pre' t:=
 {h with ho:=fun i z h1 h2 h3=>(h.ho i z h1 h2 h3).imp (hp _) id}
theorem upd_gh {i:Nat} {x':GS}:(fun k=>(upd X i x' k).γ)=fun k=>if k=i then x'.γ else (X k).γ:=by
 funext k
 unfold upd
 split<;>rfl
theorem upd_dd {i:Nat} {x':GS}:(fun k=>(upd X i x' k).d)=fun k=>if k=i then x'.d else (X k).d:=by
 funext k
 unfold upd
 split<;>rfl
theorem Inv.go (h:Inv M W gs w X ph x sm cl r0 t) (hw:M.Wf) {i:Nat} {g g':Goroutine} {es:Array Event} (hi:gs[i]?=some g) (hs:stepG M.P (i == 0) g w= .go g' w' es) (sl:Option (Nat×Nat))
  {p':Ph} {x':GS} {x1 sm1:Int} (hg: ∃v',M.GOk i p' x' v' g' w') (hrl: ∀k,k<gs.size→k≠i→Rl (X k).γ w w')
  (hsep:Sep M gs.size w'.heap.size (fun k=>(upd X i x' k).γ))
  (hti:TI M gs.size w'.heap.size (fun k=>(upd X i x' k).γ) (fun k=>(upd X i x' k).d) (M.pre (upd ph i p')) (t++MemOp.ofEvents i g.frame.fn g.frame.place es))
  (hd:quits p'=false→x'.d=dOf p') (hf:x'.γ.fz=(X i).γ.fz) (hwg:WgAt M.L.tWg M.Wg w' x1 sm1) (hch:w'.heap[M.c]?=w.heap[M.c]?)
  (hold: ∀b,b<W.heap.size→w'.heap[b]?=w.heap[b]?) (holt: ∀b,x'.γ.ow b→W.heap.size≤b) (hout:w.heap.size≤w'.heap.size∧w'.os=w.os∧w'.output=w.output∧w'.tape=w.tape)
  (hpr:Prot M.n gs.size (upd ph i p') x1 sm1 cl)
  (hrel:sm1=1→(sm=1∧(i=M.n+1→p'= .cs→g'.status= .running))∨(i≠M.n+1∧mayWake M.P g=true∧g'.status= .running))
  (hclo:cl=true→i=M.n+1→ ∀e∈es,(MemAct.ofEvent e).touch?=none)
  (hmu:stage M.n p'<stage M.n (ph i)∨(p'=ph i∧Tr.lt x'.T (X i).T)∨(p'=ph i∧x'.T=(X i).T∧i=M.n+1∧g.status= .running∧g'.status≠ .running)):M.Nx W gs w X ph t sl i:=by
 have hlt:i<gs.size:=lts hi
 have hsz:((gs.map (woken M.P g g' w')).setIfInBounds i g').size=gs.size:=by simp
 have get: ∀k y,((gs.map (woken M.P g g' w')).setIfInBounds i g')[k]?=some y→(k=i∧y=g')∨(k≠i∧ ∃y0,gs[k]?=some y0∧y=woken M.P g g' w' y0):=fun k y hy=>by
  by_cases e:i=k
  ·subst e
   rw [Array.getElem?_setIfInBounds_self_of_lt (by simpa using hlt)] at hy
   exact .inl ⟨rfl,(Option.some.inj hy).symm⟩
  ·rw [Array.getElem?_setIfInBounds_ne e,Array.getElem?_map] at hy
   obtain ⟨y0,h1,h2⟩:=Option.map_eq_some_iff.1 hy
   exact .inr ⟨fun q=>e q.symm,y0,h1,h2.symm⟩
 have wk: ∀y,woken M.P g g' w' y=y∨woken M.P g g' w' y=y.again w':=fun y=>by
  unfold woken;split
  ·exact .inr rfl
  ·exact .inl rfl
 refine ⟨_,w',upd X i x',upd ph i p',x1,sm1,cl,r0,sl,_,runT_crowd_go hi hs,⟨fun k y hy=>?_,by rw [hsz];exact hsep,by rw [hsz];exact hti,fun k hk hq=>?_,fun k b hk hb=>?_,hwg,hch.trans h.ch,fun b hb=>(hold b hb).trans (h.old b hb),⟨h.olt.1,h.olt.2.1,h.olt.2.2.1,fun k b hk hb=>?_⟩,⟨Nat.le_trans h.out.1 hout.1,hout.2.1.trans h.out.2.1,hout.2.2.1.trans h.out.2.2.1,hout.2.2.2.trans h.out.2.2.2⟩,by rw [hsz];exact hpr,fun e y hy hp=>?_,fun e=>?_⟩,?_⟩
 ·rcases get k y hy with ⟨rfl,rfl⟩ | ⟨hk,y0,hy0,rfl⟩
  ·rw [upd_self,upd_self];exact hg
  ·rw [upd_ne hk,upd_ne hk]
   obtain ⟨v,hv⟩:=h.ok k y0 hy0
   refine Mp.others hw hv (hrl k (lts hy0) hk) (fun hp=>?_) (wk y0)
   have hc:=h.open (lts hy0) hp
   have:=h.ch
   rw [hc] at this
   exact ⟨_,_,hch.trans this⟩
 ·by_cases e:k=i
  ·subst e;rw [upd_self] at hq ⊢;rw [upd_self];exact hd hq
  ·rw [upd_ne e] at hq ⊢;rw [upd_ne e];exact h.dd k (by rwa [hsz] at hk) hq
 ·have f0: ∀b,(upd X i x' 0).γ.fz b↔(X 0).γ.fz b:=fun b=>by
   by_cases e:0=i
   ·rw [←e,upd_self,hf,←e]
   ·rw [upd_ne e]
  rw [f0]
  by_cases e:k=i
  ·subst e
   rw [upd_self,hf] at hb
   exact h.fzs k b hlt hb
  ·rw [upd_ne e] at hb;exact h.fzs k b (by rwa [hsz] at hk) hb
 ·by_cases e:k=i
  ·subst e;rw [upd_self] at hb;exact holt b hb
  ·rw [upd_ne e] at hb;exact h.olt.2.2.2 k b (by rwa [hsz] at hk) hb
 ·rcases get _ y hy with ⟨e1,rfl⟩ | ⟨hk,y0,hy0,rfl⟩
  ·rcases hrel e with ⟨_,q⟩ | ⟨q,_⟩
   ·rw [e1,upd_self] at hp;exact q e1.symm hp
   ·exact (q e1.symm).elim
  ·rw [upd_ne hk] at hp
   rcases hrel e with ⟨q,_⟩ | ⟨_,q1,q2⟩
   ·have:=h.rel q y0 hy0 hp
    rcases wk y0 with e' | e'<;>rw [e']
    ·exact this
    ·rw [again_running _ (.inl this)];exact this
   ·obtain ⟨v,hv⟩:=h.ok _ y0 hy0
    rw [hp] at hv
    obtain ⟨g0,c1,c2,_⟩:=hv
    have e':woken M.P g g' w' y0=y0.again w':=by
     unfold woken
     rw [q1,q2];rfl
    rw [e']
    rcases c1 with rfl | rfl
    ·rw [again_running _ (.inl c2.1)];exact c2.1
    ·rw [again_blk c2.1 c2.2.1];exact c2.1
 ·refine (h.clo e).app fun j z hz hj hg hc=>?_
  rcases get_app hz with ⟨q,_⟩ | ⟨_,q⟩
  ·omega
  obtain ⟨e1,ev,he,hact⟩:=ofE_get q
  obtain ⟨a,h1,_⟩:=hc
  have h1':touchAt (t++MemOp.ofEvents i g.frame.fn g.frame.place es) j=some a:=h1
  rw [touchAt_of hz,hact,hclo e (e1.symm.trans hg) ev he] at h1'
  cases h1'
 ·rcases hmu with q | ⟨q1,q2⟩ | ⟨q1,q2,q3,q4,q5⟩
  ·exact mu_stage hlt hsz q
  ·subst q1;rw [upd_id];exact mu_walk hlt hsz q2
  ·subst q1;rw [upd_id]
   refine .inr ⟨by simp only [Mp.mu,hsz],.inr ⟨?_,?_⟩⟩
   ·simp only [Mp.mu,hsz]
    congr 1
    funext k
    by_cases e:k=i
    ·subst e;rw [upd_self,q2]
    ·rw [upd_ne e]
   ·simp only [Mp.mu,flag]
    subst q3
    rw [Array.getElem?_setIfInBounds_self_of_lt (by simpa using hlt),hi]
    simp [q4,q5]
theorem Inv.size (h:Inv M W gs w X ph x sm cl r0 t):gs.size≤M.n+2:=by
 have:=h.pr.sz
 revert this
 cases ph 0<;>simp only [SzOk]<;>omega
theorem Inv.rlOf (h:Inv M W gs w X ph x sm cl r0 t) {i:Nat} (hi:i<gs.size) {es:Array Event} (hd:Dg (X i).γ w w' es) {k:Nat} (hk:k<gs.size) (hne:k≠i):Rl (X k).γ w w':=
 ⟨hd.size,fun b hb=>by
  refine hd.keep b ?_ fun q=>?_
  ·rcases hb with hb | hb
   ·exact h.sep.lt k b hk hb
   ·exact h.sep.flt k b hk hb
  ·rcases hb with hb | hb
   ·exact h.sep.ap i k b hi hk (fun e=>hne e.symm) q hb
   ·exact h.sep.apf i k b hi hk q hb,hd.os,hd.output,hd.tape⟩
theorem Sep.grow {N sz sz':Nat} {γ:Nat→Gh} (h:Sep M N sz γ) (hle:sz≤sz') {i:Nat} (hi:i<N):Sep M N sz' (fun k=>if k=i then (γ i).grow sz sz' else γ k):=by
 have ow: ∀k b,k<N→(if k=i then (γ i).grow sz sz' else γ k).ow b→(γ k).ow b∨(k=i∧sz≤b∧b<sz'):=fun k b hk ho=>by
  by_cases e:k=i
  ·subst e;rw [if_pos rfl] at ho;exact ho.imp id fun q=>⟨rfl,q⟩
  ·rw [if_neg e] at ho;exact .inl ho
 have fz: ∀k b,(if k=i then (γ i).grow sz sz' else γ k).fz b→(γ k).fz b:=fun k b ho=>by
  by_cases e:k=i
  ·subst e;rw [if_pos rfl] at ho;exact ho
  ·rw [if_neg e] at ho;exact ho
 refine ⟨fun k b hk ho=>?_,fun k b hk hf=>Nat.lt_of_lt_of_le (h.flt k b hk (fz k b hf)) hle,fun j k b hj hk hne ho ho'=>?_,fun j k b hj hk ho hf=>?_,fun k b hk ho=>?_,Nat.lt_of_lt_of_le h.wlt hle,Nat.lt_of_lt_of_le h.clt hle⟩
 ·rcases ow k b hk ho with q | q
  ·exact Nat.lt_of_lt_of_le (h.lt k b hk q) hle
  ·exact q.2.2
 ·rcases ow j b hj ho with q | ⟨q1,q2,q3⟩<;>rcases ow k b hk ho' with r | ⟨r1,r2,r3⟩
  ·exact h.ap j k b hj hk hne q r
  ·have:=h.lt j b hj q;omega
  ·have:=h.lt k b hk r;omega
  ·exact hne (q1.trans r1.symm)
 ·have hf':=fz k b hf
  rcases ow j b hj ho with q | ⟨q1,q2,q3⟩
  ·exact h.apf j k b hj hk q hf'
  ·have:=h.flt k b hk hf';omega
 ·rcases ho with ho | ho
  ·rcases ow k b hk ho with q | ⟨q1,q2,q3⟩
   ·exact h.nw k b hk (.inl q)
   ·have:=h.wlt;have:=h.clt;omega
  ·exact h.nw k b hk (.inr (fz k b ho))
theorem Inv.priv (h:Inv M W gs w X ph x sm cl r0 t) (hw:M.Wf) {i:Nat} {g g':Goroutine} {es:Array Event} (hi:gs[i]?=some g) (hs:stepG M.P (i == 0) g w= .go g' w' es) (sl:Option (Nat×Nat))
  (hact:isAct (ph i)=true) (hd:Dg (X i).γ w w' es) {T':Tr} (hT:Tr.lt T' (X i).T) (hg: ∃v',M.GOk i (ph i) ⟨(X i).γ.grow w.heap.size w'.heap.size,T',(X i).d⟩ v' g' w'):M.Nx W gs w X ph t sl i:=by
 have hlt:i<gs.size:=lts hi
 have hq:quits (ph i)=false:=by revert hact;cases ph i<;>simp [isAct,quits]
 have hcq:cl=true→i≠M.n+1:=fun hc e=>by
  have:=(h.pr.shut.1 hc).2
  rw [←e] at this
  revert this hact
  cases ph i<;>simp [isAct,isCq]
 have hkeep: ∀b,b<w.heap.size→ ¬(X i).γ.ow b→w'.heap[b]?=w.heap[b]?:=hd.keep
 have hpre:i≠0→M.pre ph i:=fun hne=>by
  have hsz:=h.size
  rcases Nat.lt_or_ge M.n i with q | q
  ·have e:i=M.n+1:=by omega
   refine .inr ⟨e,fun hf=>?_⟩
   exact hcq (h.pr.rX.fin hf).2 e
  ·have h1:=h.pr.wk i (by omega) q hlt
   refine .inl ⟨q,?_⟩
   revert h1 hact
   cases ph i<;>simp [isAct,code]
 have hdf:Deaf (t++MemOp.ofEvents i g.frame.fn g.frame.place es) i=(X i).d:=by
  rw [Deaf_own,deafBehind_still (fun e he=>still_atOk (hd.acc e he)),h.ti.deaf i hlt]
 refine h.go hw hi hs sl hg (fun k hk hne=>h.rlOf hlt hd hk hne) ?_ ?_ (fun _=>h.dd i hlt hq) rfl (x1:=x) (sm1:=sm) ?_ ?_ (fun b hb=>?_) (fun b hb=>?_) ⟨hd.size,hd.os,hd.output,hd.tape⟩ (by rw [upd_id];exact h.pr) (fun e=>.inl ⟨e,fun _ hp=>?_⟩) (fun hc e=>(hcq hc e).elim) (.inr (.inl ⟨rfl,hT⟩))
 ·rw [upd_gh];exact h.sep.grow hd.size hlt
 ·rw [upd_gh,upd_dd,upd_id]
  refine h.ti.grow h.sep hlt hd.size (fun op hop=>(ofE_get hop).1) (fun op hop a ha=>?_) hdf fun hne=>.inl (hpre hne)
  obtain ⟨_,e,he,hact⟩:=ofE_get hop
  rw [hact] at ha
  exact touch_atOk (hd.acc e he) ha
 ·show w'.heap[M.Wg]?=_
  rw [hkeep _ h.sep.wlt fun q=>(h.sep.nw i _ hlt (.inl q)).1 rfl]
  exact h.wg
 ·exact hkeep _ h.sep.clt fun q=>(h.sep.nw i _ hlt (.inl q)).2 rfl
 ·refine hkeep b (Nat.lt_of_lt_of_le hb h.out.1) fun q=>?_
  have:=h.olt.2.2.2 i b hlt q
  omega
 ·rcases hb with hb | hb
  ·exact h.olt.2.2.2 i b hlt hb
  ·exact Nat.le_trans h.out.1 hb.1
 ·rw [hp] at hact;cases hact
end
end Go.Vk
end
section
namespace Go.Vk
open Go.Conc Go.Conc.Lib
open Go.ConcR (KK wgBlock WgAt stA smA rd wr mk)
open Go.ConcN (WgLive)
structure Calm (M:Mp) (w w':World):Prop where
 size:w'.heap.size=w.heap.size
 keep: ∀b:Nat,b≠M.Wg→w'.heap[b]?=w.heap[b]?
 os:w'.os=w.os
 output:w'.output=w.output
 tape:w'.tape=w.tape
theorem Calm.refl {M:Mp} {w:World}:Calm M w w:=⟨rfl,fun _ _=>rfl,rfl,rfl,rfl⟩
theorem calm_set {M:Mp} {w:World} {a:Addr} {v:Value} (ha:a.block=M.Wg):Calm M w (w.setCell a v):=by
 refine ⟨by simp [World.setCell],fun b hb=>?_,rfl,rfl,rfl⟩
 simp only [World.setCell]
 rw [Array.getElem?_modify,if_neg (by rw [ha];exact fun e=>hb e.symm)]
theorem wgAt_st {M:Mp} {w:World} {x sm y:Int} (h:WgAt M.L.tWg M.Wg w x sm):WgAt M.L.tWg M.Wg (w.setCell (stA M.Wg) (.int .u64 y)) y sm:=by
 unfold WgAt at h ⊢
 simp only [World.setCell,stA]
 rw [Array.getElem?_modify,if_pos rfl,h]
 simp [wgBlock]
theorem wgAt_sm {M:Mp} {w:World} {x sm y:Int} (h:WgAt M.L.tWg M.Wg w x sm):WgAt M.L.tWg M.Wg (w.setCell (smA M.Wg) (.int .u32 y)) x y:=by
 unfold WgAt at h ⊢
 simp only [World.setCell,smA]
 rw [Array.getElem?_modify,if_pos rfl,h]
 simp [wgBlock]
def AtWg (M:Mp) (e:Event):Prop:= ∀a,(MemAct.ofEvent e).touch?=some a→blk a.loc=some M.Wg∧a.kind= .atomic
theorem atWg_rd {M:Mp} {a:Addr} (h:a.block=M.Wg):AtWg M (rd a):=fun b hb=>by cases hb;exact ⟨by rw [←h];rfl,rfl⟩
theorem atWg_wr {M:Mp} {a:Addr} (h:a.block=M.Wg):AtWg M (wr a):=fun b hb=>by cases hb;exact ⟨by rw [←h];rfl,rfl⟩
section
variable {M : Mp} {W : World} {gs : Array Goroutine} {w w' : World} {X : Nat → GS} {ph : Nat → Ph} {x sm : Int} {cl : Bool} {r0 : Nat} {t : Trace}
theorem Inv.rlCalm (h:Inv M W gs w X ph x sm cl r0 t) (hc:Calm M w w') {k:Nat} (hk:k<gs.size):Rl (X k).γ w w':=
 ⟨Nat.le_of_eq hc.size.symm,fun b hb=>hc.keep b (h.sep.nw k b hk hb).1,hc.os,hc.output,hc.tape⟩
theorem Inv.live (h:Inv M W gs w X ph x sm cl r0 t):M.I w:=⟨_,_,h.wg⟩
theorem pre_same {i:Nat} {p':Ph} (hc:(code (ph i)=1∨code (ph i)=2)→(code p'=1∨code p'=2)) (h0:i=0→p'≠ .fin): ∀k,M.pre ph k→M.pre (upd ph i p') k:=fun k hk=>by
 rcases hk with ⟨h1,h2⟩ | ⟨h1,h2⟩
 ·refine .inl ⟨h1,?_⟩
  by_cases e:k=i
  ·subst e;rw [upd_self];exact hc h2
  ·rw [upd_ne e];exact h2
 ·refine .inr ⟨h1,?_⟩
  by_cases e:0=i
  ·rw [←e,upd_self];exact h0 e.symm
  ·rw [upd_ne e];exact h2
theorem Inv.sp (h:Inv M W gs w X ph x sm cl r0 t) (hw:M.Wf) {i:Nat} {g g':Goroutine} {es:Array Event} (hi:gs[i]?=some g) (hs:stepG M.P (i == 0) g w= .go g' w' es) (sl:Option (Nat×Nat))
  (hc:Calm M w w') (hes: ∀e∈es,∀a,(MemAct.ofEvent e).touch?=some a→TouchOk M gs.size w.heap.size w.heap.size (X i).γ i a) (p':Ph) (T':Tr) (x1 sm1:Int)
  (hg: ∃v',M.GOk i p' ⟨(X i).γ,T',deafBehind (X i).d es⟩ v' g' w') (hd:quits p'=false→deafBehind (X i).d es=dOf p')
  (hwg:WgAt M.L.tWg M.Wg w' x1 sm1) (hpr:Prot M.n gs.size (upd ph i p') x1 sm1 cl)
  (hrel:sm1=1→(sm=1∧(i=M.n+1→p'= .cs→g'.status= .running))∨(i≠M.n+1∧mayWake M.P g=true∧g'.status= .running))
  (hcnt:i≠0→M.pre ph i∨ ∀j,t.size≤j→ ¬(t++MemOp.ofEvents i g.frame.fn g.frame.place es).counts j) (hpm: ∀k,M.pre ph k→M.pre (upd ph i p') k)
  (hclo:cl=true→i=M.n+1→ ∀e∈es,(MemAct.ofEvent e).touch?=none)
  (hmu:stage M.n p'<stage M.n (ph i)∨(p'=ph i∧Tr.lt T' (X i).T)∨(p'=ph i∧T'=(X i).T∧i=M.n+1∧g.status= .running∧g'.status≠ .running)):M.Nx W gs w X ph t sl i:=by
 have hlt:i<gs.size:=lts hi
 have hgr:=h.ti.grow h.sep hlt (Nat.le_refl _) (u:=MemOp.ofEvents i g.frame.fn g.frame.place es) (fun op hop=>(ofE_get hop).1) (fun op hop a ha=>by
  obtain ⟨_,e,he,hact⟩:=ofE_get hop
  rw [hact] at ha
  exact hes e he a ha) (by rw [Deaf_own,h.ti.deaf i hlt]) hcnt
 rw [Gh.grow_self] at hgr
 refine h.go hw hi hs sl hg (fun k hk hne=>h.rlCalm hc hk) ?_ ?_ hd rfl hwg (hc.keep _ (fun e=>h.olt.2.2.1 e.symm)) (fun b hb=>hc.keep b fun e=>?_) (fun b hb=>h.olt.2.2.2 i b hlt hb) ⟨Nat.le_of_eq hc.size.symm,hc.os,hc.output,hc.tape⟩ hpr hrel hclo hmu
 ·rw [upd_gh,hc.size]
  have:=h.sep.grow (Nat.le_refl _) hlt
  rw [Gh.grow_self] at this
  exact this
 ·rw [upd_gh,upd_dd,hc.size]
  exact hgr.mono hpm
 ·have:=h.olt.1;omega
theorem Inv.wkr (h:Inv M W gs w X ph x sm cl r0 t) {i:Nat} (hlt:i<gs.size) (hp:3≤code (ph i)):1≤i∧i≤M.n:=by
 have hsz:=h.size
 have h0:i≠0:=fun e=>by
  subst e
  have:=code_roleM h.pr.main
  omega
 have h1:i≠M.n+1:=fun e=>by
  subst e
  have:=code_roleC (h.pr.clr hlt)
  omega
 omega
theorem Inv.quiet (h:Inv M W gs w X ph x sm cl r0 t) (hw:M.Wf) {i:Nat} {g:Goroutine} (hi:gs[i]?=some g) (sl:Option (Nat×Nat)) {S:Goroutine→Prop} (hq:M.Quiet S (X i) g) (h3:3≤code (ph i))
  (hgk: ∀x v g w,M.Quiet S x g→M.GOk i (ph i) x v g w) (hnq:quits (ph i)=false):M.Nx W gs w X ph t sl i∨S g:=by
 obtain ⟨q,hT,hQ⟩:=hq
 have hlt:=lts hi
 obtain ⟨h1,h2⟩:=h.wkr hlt h3
 cases q with
 | zero=>exact .inr hQ
 | succ q=>
  obtain ⟨hrun,g',hs,hQ'⟩:=hQ
  have hi0:(i == 0)=false:=by simp;omega
  refine .inl (h.sp hw hi (by rw [hi0];exact hs w h.live) sl .refl (fun e he=>by simp at he) (ph i) (Tr.ofNat q) x sm ⟨w,hgk _ _ _ _ ⟨q,rfl,hQ'⟩⟩ (fun _=>by rw [deafBehind_nil];exact h.dd i hlt hnq) h.wg (by rw [upd_id];exact h.pr) (fun e=>.inl ⟨e,fun q=>by omega⟩)
   (fun _=>.inr fun j hj hcn=>?_) (by rw [upd_id];exact fun _ q=>q) (fun _ q=>by omega) (.inr (.inl ⟨rfl,by rw [hT];exact Tr.ofNat_lt q⟩)))
  obtain ⟨y,hy,_⟩:=hcn
  rw [ofEvents_none,Array.append_empty] at hy
  have:=lt_of_act? (Option.bind_eq_some_iff.1 hy).choose_spec.1
  omega
theorem none_counts {i:Nat} {fn:FuncId} {pos:String} {es:Array Event} (he: ∀e∈es,(MemAct.ofEvent e).touch?=none) (j:Nat) (hj:t.size≤j): ¬(t++MemOp.ofEvents i fn pos es).counts j:=fun hc=>by
 have:=(counts_none (fun op hop=>by
  obtain ⟨_,e,h1,h2⟩:=ofE_get hop
  rw [h2];exact he e h1) hc).1
 omega
theorem Inv.worker (h:Inv M W gs w X ph x sm cl r0 t) (hw:M.Wf) {i:Nat} {g:Goroutine} (hi:gs[i]?=some g) (hrun:g.status= .running) (sl:Option (Nat×Nat)) (h3:3≤code (ph i)):M.Nx W gs w X ph t sl i:=by
 have hlt:=lts hi
 obtain ⟨h1,h2⟩:=h.wkr hlt h3
 have hi0:(i == 0)=false:=by simp;omega
 have hne:i≠0:=by omega
 have hnc:i≠M.n+1:=by omega
 have hJ:=h.live
 obtain ⟨v,hv⟩:=h.ok i g hi
 have rel0: ∀ {p':Ph} {g':Goroutine},sm=1→(sm=1∧(i=M.n+1→p'= .cs→g'.status= .running))∨(i≠M.n+1∧mayWake M.P g=true∧g'.status= .running):=fun e=>.inl ⟨e,fun q=>(hnc q).elim⟩
 have pm: ∀p',∀k,M.pre ph k→M.pre (upd ph i p') k:=fun p'=>pre_same (fun q=>by omega) fun q=>(hne q).elim
 have clo0: ∀ {es:Array Event},cl=true→i=M.n+1→ ∀e∈es,(MemAct.ofEvent e).touch?=none:=fun _ q=>(hnc q).elim
 have dD:quits (ph i)=false→Deaf t i=dOf (ph i):=fun q=>(h.ti.deaf i hlt).trans (h.dd i hlt q)
 have tk: ∀ {es:Array Event},(∀e∈es,AtWg M e)→ ∀e∈es,∀a,(MemAct.ofEvent e).touch?=some a→TouchOk M gs.size w.heap.size w.heap.size (X i).γ i a:=fun he e hm a ha=>.inr (.inr ⟨.inl (he e hm a ha).1,.inl (he e hm a ha).2⟩)
 cases hp:ph i<;>rw [hp] at h3 hv<;>first | (exfalso;revert h3;simp [code];done) | skip
 case w2=>
  rcases h.quiet hw hi sl hv (by rw [hp];exact h3) (by rw [hp];exact fun _ _ _ _ q=>q) (by rw [hp];rfl) with q | q
  ·exact q
  obtain ⟨_,g',hs,q',hK⟩:=q
  have hd:=h.dd i hlt (by rw [hp];rfl)
  rw [hp] at hd
  exact h.sp hw hi (by rw [hi0];exact hs w hJ) sl .refl (fun e he a ha=>by simp at he;subst he;cases ha) .w3 (Tr.ofNat q') x sm ⟨w,q',rfl,hK⟩ (fun _=>by rw [hd];rfl) h.wg (h.pr.w2 h1 h2 hlt hp) rel0
   (fun _=>.inr (none_counts fun e he=>by simp at he;subst he;rfl)) (pm _) clo0 (.inl (by rw [hp];simp [stage]))
 case w3=>
  rcases h.quiet hw hi sl hv (by rw [hp];exact h3) (by rw [hp];exact fun _ _ _ _ q=>q) (by rw [hp];rfl) with q | q
  ·exact q
  obtain ⟨_,g',hs,q',hK⟩:=q
  have hd:=h.dd i hlt (by rw [hp];rfl)
  rw [hp] at hd
  exact h.sp hw hi (by rw [hi0];exact hs w hJ) sl .refl (fun e he a ha=>by simp at he;subst he;cases ha) .w4 (Tr.ofNat q') x sm ⟨w,q',rfl,hK⟩ (fun _=>by rw [hd];rfl) h.wg (h.pr.w3 h1 h2 hlt hp) rel0
   (fun _=>.inr (none_counts fun e he=>by simp at he;subst he;rfl)) (pm _) clo0 (.inl (by rw [hp];simp [stage]))
 case w4=>
  rcases h.quiet hw hi sl hv (by rw [hp];exact h3) (by rw [hp];exact fun _ _ _ _ q=>q) (by rw [hp];rfl) with q | q
  ·exact q
  have hd:=h.dd i hlt (by rw [hp];rfl)
  have hD:=dD (by rw [hp];rfl)
  rw [hp] at hd hD
  obtain ⟨p1,p2,p3⟩:=h.pr.w4 h1 h2 hlt hp
  obtain ⟨_,hq⟩:=q
  obtain ⟨g',hs,hK⟩:=hq x p1
  have hs':stepG M.P (i == 0) g w= .go g' (w.setCell (stA M.Wg) (.int .u64 (x+ -KK))) #[rd (stA M.Wg),wr (stA M.Wg)]:=by rw [hi0];exact hs w sm hJ h.wg
  have cn:i≠0→M.pre ph i∨ ∀j,t.size≤j→ ¬(t++MemOp.ofEvents i g.frame.fn g.frame.place #[rd (stA M.Wg),wr (stA M.Wg)]).counts j:=fun _=>.inr (hush_counts (by rw [hD];decide) [rd (stA M.Wg),wr (stA M.Wg)] (.inl rfl) (fun e he=>by simp at he;rcases he with rfl | rfl<;>simp [rd,wr]) fun e he a ha=>by
   simp at he;rcases he with rfl | rfl<;>cases ha<;>rfl)
  have te: ∀e∈ #[rd (stA M.Wg),wr (stA M.Wg)],AtWg M e:=fun e he=>by simp at he;rcases he with rfl | rfl<;>first | exact atWg_rd rfl | exact atWg_wr rfl
  by_cases hy:x+ -KK=1
  ·obtain ⟨q',hK'⟩:=hK.1 hy
   exact h.sp hw hi hs' sl (calm_set rfl) (tk te) .w5 (Tr.ofNat q') (x+ -KK) sm ⟨w,q',rfl,hK'⟩ (fun _=>by rw [hd];rfl) (wgAt_st h.wg) (p2 hy) rel0 cn (pm _) clo0 (.inl (by rw [hp];simp [stage]))
  ·obtain ⟨q',hK'⟩:=hK.2 hy
   exact h.sp hw hi hs' sl (calm_set rfl) (tk te) .wq (Tr.ofNat q') (x+ -KK) sm ⟨w,q',rfl,by rw [hd];exact hK'⟩ (fun q=>by cases q) (wgAt_st h.wg) (p3 hy) rel0 cn (pm _) clo0 (.inl (by rw [hp];simp [stage]))
 case w5=>
  rcases h.quiet hw hi sl hv (by rw [hp];exact h3) (by rw [hp];exact fun _ _ _ _ q=>q) (by rw [hp];rfl) with q | q
  ·exact q
  have hd:=h.dd i hlt (by rw [hp];rfl)
  have hD:=dD (by rw [hp];rfl)
  rw [hp] at hd hD
  obtain ⟨p1,p2⟩:=h.pr.w5 h1 h2 hlt hp
  obtain ⟨_,hq⟩:=q
  obtain ⟨g',hs,q',hK⟩:=hq x p1
  exact h.sp hw hi (by rw [hi0];exact hs w sm hJ h.wg) sl .refl (tk fun e he=>by simp at he;subst he;exact atWg_rd rfl) .w6 (Tr.ofNat q') x sm ⟨w,q',rfl,hK⟩ (fun _=>by rw [hd];rfl) h.wg p2 rel0
   (fun _=>.inr (hush_counts (by rw [hD];decide) [rd (stA M.Wg)] (.inl rfl) (fun e he=>by simp at he;subst he;simp [rd]) fun e he a ha=>by simp at he;subst he;cases ha;rfl)) (pm _) clo0 (.inl (by rw [hp];simp [stage]))
 case w6=>
  rcases h.quiet hw hi sl hv (by rw [hp];exact h3) (by rw [hp];exact fun _ _ _ _ q=>q) (by rw [hp];rfl) with q | q
  ·exact q
  have hd:=h.dd i hlt (by rw [hp];rfl)
  have hD:=dD (by rw [hp];rfl)
  rw [hp] at hd hD
  obtain ⟨_,g',hs,q',hK⟩:=q
  exact h.sp hw hi (by rw [hi0];exact hs w x sm hJ h.wg) sl (calm_set rfl) (tk fun e he=>by simp at he;subst he;exact atWg_wr rfl) .w7 (Tr.ofNat q') 0 sm ⟨w,q',rfl,hK⟩ (fun _=>by rw [hd];rfl) (wgAt_st h.wg) (h.pr.w6 h1 h2 hlt hp) rel0
   (fun _=>.inr (hush_counts (by rw [hD];decide) [wr (stA M.Wg)] (.inl rfl) (fun e he=>by simp at he;subst he;simp [wr]) fun e he a ha=>by simp at he;subst he;cases ha;rfl)) (pm _) clo0 (.inl (by rw [hp];simp [stage]))
 case w7=>
  rcases h.quiet hw hi sl hv (by rw [hp];exact h3) (by rw [hp];exact fun _ _ _ _ q=>q) (by rw [hp];rfl) with q | q
  ·exact q
  have hd:=h.dd i hlt (by rw [hp];rfl)
  have hD:=dD (by rw [hp];rfl)
  rw [hp] at hd hD
  obtain ⟨p1,p2,_⟩:=h.pr.w7 h1 h2 hlt hp
  obtain ⟨_,hmw,g',hs,q',hK⟩:=q
  have hwg:=h.wg
  rw [p1] at hwg
  have hrun':g'.status= .running:=by
   cases q' with
   | zero=>have:=hK.2;cases this
   | succ q'=>exact hK.elim (fun h=>by cases h.2) fun h=>h.1
  exact h.sp hw hi (by rw [hi0];exact hs w x hJ hwg) sl (calm_set rfl) (tk fun e he=>by simp [semEvents] at he;rcases he with rfl | rfl | rfl | rfl<;>first | (intro a ha;cases ha;done) | exact atWg_rd rfl | exact atWg_wr rfl) .wq (Tr.ofNat q') x 1 ⟨w,q',rfl,by rw [hd];exact hK⟩ (fun q=>by cases q) (wgAt_sm h.wg) p2 (fun _=>.inr ⟨hnc,hmw,hrun'⟩)
   (fun _=>.inr (hush_counts (by rw [hD];decide) [⟨.mark .disable,false,true⟩,rd (smA M.Wg),wr (smA M.Wg)] (.inr rfl) (fun e he=>by simp at he;rcases he with rfl | rfl | rfl<;>simp [rd,wr]) fun e he a ha=>by simp at he;rcases he with rfl | rfl | rfl<;>cases ha<;>rfl)) (pm _) clo0 (.inl (by rw [hp];simp [stage]))
 case wq=>
  obtain ⟨q,hT,hQ⟩:=hv
  cases q with
  | zero=>rw [hQ.1] at hrun;cases hrun
  | succ q=>
   rcases hQ with ⟨e,_⟩ | ⟨_,g',es,hm,hs,hQ'⟩
   ·rw [e] at hrun;cases hrun
   ·exact h.sp hw hi (by rw [hi0];exact hs w) sl .refl (fun e he a ha=>by rw [touch_mute (hm e he)] at ha;cases ha) .wq (Tr.ofNat q) x sm ⟨w,q,rfl,hQ'⟩ (fun q=>by cases q) h.wg (by rw [←hp,upd_id];exact h.pr) rel0
     (fun _=>.inr (none_counts fun e he=>touch_mute (hm e he))) (pm _) clo0 (.inr (.inl ⟨hp.symm,by rw [hT];exact Tr.ofNat_lt q⟩))
end
end Go.Vk
end
section
namespace Go.Vk
open Go.Conc Go.Conc.Lib
open Go.ConcR (KK wgBlock WgAt stA smA rd wr mk)
open Go.ConcN (WgLive)
section
variable {M : Mp} {W : World} {gs : Array Goroutine} {w w' : World} {X : Nat → GS} {ph : Nat → Ph} {x sm : Int} {cl : Bool} {r0 : Nat} {t : Trace}
theorem Inv.act (h:Inv M W gs w X ph x sm cl r0 t) (hw:M.Wf) {i:Nat} {g:Goroutine} (hi:gs[i]?=some g) (sl:Option (Nat×Nat)) (ha:isAct (ph i)=true):
  M.Nx W gs w X ph t sl i∨ ∃v,Vt (X i).γ w v∧ ∀v₁,Itf v v₁→M.stop i (ph i) g v₁:=by
 obtain ⟨v,hv⟩:=h.ok i g hi
 have hv':=hv
 rw [gok_act ha] at hv'
 obtain ⟨h1,h2⟩:=hv'
 cases hT:(X i).T with
 | leaf=>rw [hT] at h1;exact .inr ⟨v,h2,h1⟩
 | mk f=>
  rw [hT] at h1
  obtain ⟨_,h1⟩:=h1
  obtain ⟨g',v',hs,hn⟩:=h1 v .refl
  obtain ⟨w',es,q1,q2,q3⟩:=hs.out h2 h.live
  exact .inl (h.priv hw hi q1 sl ha q3 (T':=f v) ⟨_,_,hT,rfl⟩ ⟨v',by rw [gok_act ha];exact ⟨hn,q2⟩⟩)
theorem mkAct {i:Nat} {p':Ph} {g':Goroutine} {v₁:World} {γ:Gh} {d:Nat} (ha:isAct p'=true) (hv:Vway M.P (M.cx i) (M.stop i p') g' v₁) (ht:Vt γ w' v₁): ∃T',∃v',M.GOk i p' ⟨γ,T',d⟩ v' g' w':=by
 obtain ⟨T,hT⟩:=hv.rank
 exact ⟨T,v₁,by rw [gok_act ha];exact ⟨hT,ht⟩⟩
theorem cx_cl:M.cx (M.n+1)=M.cw:=by simp [Mp.cx,Mp.cw]
theorem Inv.view (h:Inv M W gs w X ph x sm cl r0 t) {i:Nat} (hi:i<gs.size) {v:World} (hv:Vt (X i).γ w v) (hc:Calm M w w'): ∃v₁,Vt (X i).γ w' v₁∧Itf v v₁:=hv.rely (h.rlCalm hc hi)
theorem Inv.sem (h:Inv M W gs w X ph x sm cl r0 t) (hw:M.Wf) {g:Goroutine} (hi:gs[M.n+1]?=some g) (sl:Option (Nat×Nat)) (hp:ph (M.n+1)= .c5∨ph (M.n+1)= .cs) {v:World} (hv:Vt (X (M.n+1)).γ w v) (hC:M.C5 g v):M.Nx W gs w X ph t sl (M.n+1):=by
 have hlt:=lts hi
 have hJ:=h.live
 have ha:atSem (ph (M.n+1))=true:=by rcases hp with e | e<;>rw [e]<;>rfl
 have hd1:dOf (ph (M.n+1))=1:=by rcases hp with e | e<;>rw [e]<;>rfl
 have hd:=h.dd _ hlt (by rcases hp with e | e<;>rw [e]<;>rfl)
 rw [hd1] at hd
 have hcl:cl=true→M.n+1=M.n+1→False:=fun hc _=>by
  have:=(h.pr.shut.1 hc).2
  rcases hp with e | e<;>rw [e] at this<;>cases this
 have hfin:ph 0≠ .fin:=fun e=>hcl (h.pr.rX.fin e).2 rfl
 have hpre:M.n+1≠0→M.pre ph (M.n+1)∨_:=fun _=>Or.inl (b:= ∀j,t.size≤j→ ¬True) (.inr ⟨rfl,hfin⟩)
 obtain ⟨hrun,hoff,hb,g',ht,hK⟩:=id hC
 have pm: ∀p',roleC p'=true→ ∀k,M.pre ph k→M.pre (upd ph (M.n+1) p') k:=fun p' hr=>pre_same (fun q=>by rw [code_roleC (h.pr.clr hlt)] at q;omega) fun q=>by omega
 have hwg:=h.wg
 rcases h.pr.acq hlt ha with e | ⟨e,hpr⟩
 ·rw [e] at hwg
  refine h.sp hw hi (hb w x hJ hwg) sl .refl (fun e he=>by simp at he) .cs (X (M.n+1)).T x sm ⟨v,g,.inr rfl,hC,hv⟩ (fun _=>by rw [deafBehind_nil,hd];rfl) h.wg (h.pr.csem hlt ha rfl rfl) (fun q=>by omega) (fun _=>.inl (.inr ⟨rfl,hfin⟩)) (pm _ rfl) (fun a b=>(hcl a b).elim) ?_
  rcases hp with e' | e'
  ·exact .inl (by rw [e'];simp [stage])
  ·exact .inr (.inr ⟨e'.symm,rfl,rfl,hrun,by simp⟩)
 ·rw [e] at hwg
  obtain ⟨v₁,q1,q2⟩:=h.view hlt hv (w':=w.setCell (smA M.Wg) (.int .u32 0)) (calm_set rfl)
  obtain ⟨_,_,_,g'',ht',hK'⟩:=C5_mono hC q2
  obtain ⟨T',hg⟩:=mkAct (M:=M) (i:=M.n+1) (p':= .c6) (d:=deafBehind (X (M.n+1)).d (semEvents (smA M.Wg))) rfl (by rw [cx_cl];exact hK') q1
  refine h.sp hw hi (ht' w x hJ hwg) sl (calm_set rfl) (fun e he a ha=>?_) .c6 T' x 0 hg (fun _=>by rw [hd];rfl) (wgAt_sm h.wg) hpr (fun q=>by omega) (fun _=>.inl (.inr ⟨rfl,hfin⟩)) (pm _ rfl) (fun a b=>(hcl a b).elim) (.inl (by rcases hp with e | e<;>rw [e]<;>simp [stage]))
  simp [semEvents] at he
  rcases he with rfl | rfl | rfl | rfl<;>first | (cases ha;done) | (cases ha;exact .inr (.inr ⟨.inl rfl,.inl rfl⟩))
theorem Inv.closer (h:Inv M W gs w X ph x sm cl r0 t) (hw:M.Wf) {g:Goroutine} (hi:gs[M.n+1]?=some g) (hrun:g.status= .running) (sl:Option (Nat×Nat)) (hne:ph (M.n+1)≠ .c10):M.Nx W gs w X ph t sl (M.n+1):=by
 have hlt:=lts hi
 have hJ:=h.live
 have hi0:(M.n+1 == 0)=false:=by simp
 have hr:=h.pr.clr hlt
 have pm: ∀p',∀k,M.pre ph k→M.pre (upd ph (M.n+1) p') k:=fun p'=>pre_same (fun q=>by rw [code_roleC hr] at q;omega) fun q=>by omega
 have pre:isCq (ph (M.n+1))=false→ph 0≠ .fin:=fun q e=>by
  have:=(h.pr.shut.1 (h.pr.rX.fin e).2).2
  rw [q] at this;cases this
 have clo:isCq (ph (M.n+1))=false→ ∀ {es:Array Event},cl=true→M.n+1=M.n+1→ ∀e∈es,(MemAct.ofEvent e).touch?=none:=fun q _ hc _=>by
  have:=(h.pr.shut.1 hc).2
  rw [q] at this;cases this
 have rel0: ∀ {p':Ph} {g':Goroutine},p'≠ .cs→sm=1→(sm=1∧(M.n+1=M.n+1→p'= .cs→g'.status= .running))∨(M.n+1≠M.n+1∧mayWake M.P g=true∧g'.status= .running):=fun a e=>.inl ⟨e,fun _ q=>(a q).elim⟩
 have tk: ∀ {es:Array Event},(∀e∈es,AtWg M e)→ ∀e∈es,∀a,(MemAct.ofEvent e).touch?=some a→TouchOk M gs.size w.heap.size w.heap.size (X (M.n+1)).γ (M.n+1) a:=fun he e hm a ha=>.inr (.inr ⟨.inl (he e hm a ha).1,.inl (he e hm a ha).2⟩)
 obtain ⟨v0,hv0⟩:=h.ok _ g hi
 have act:=fun (ha:isAct (ph (M.n+1))=true)=>h.act hw hi sl ha
 have mark: ∀ {m:Mark} {p':Ph},isAct (ph (M.n+1))=true→isAct p'=true→isCq (ph (M.n+1))=false→p'≠ .cs→quits p'=false→(∀v,M.stop (M.n+1) (ph (M.n+1)) g v→MarkAt M.P false M.I m (fun g'=>Vway M.P M.cw (M.stop (M.n+1) p') g' v) g)→
   (∀a,(MemAct.ofEvent (Go.ConcR.mk m)).touch?=some a→TouchOk M gs.size w.heap.size w.heap.size (X (M.n+1)).γ (M.n+1) a)→deafBehind (dOf (ph (M.n+1))) #[Go.ConcR.mk m]=dOf p'→Prot M.n gs.size (upd ph (M.n+1) p') x sm cl→stage M.n p'<stage M.n (ph (M.n+1))→quits (ph (M.n+1))=false→M.Nx W gs w X ph t sl (M.n+1):=by
  intro m p' ha ha' hq hcs hqq hst hto hde hpr hmu hq0
  rcases act ha with q | ⟨v,hv,hL⟩
  ·exact q
  obtain ⟨_,g',hs,hK⟩:=hst v (hL v .refl)
  obtain ⟨T',hg⟩:=mkAct (M:=M) (i:=M.n+1) (p':=p') (d:=deafBehind (X (M.n+1)).d #[Go.ConcR.mk m]) ha' (by rw [cx_cl];exact hK) hv
  exact h.sp hw hi (by rw [hi0];exact hs w hJ) sl .refl (fun e he a ha=>by simp at he;subst he;exact hto a ha) p' T' x sm hg (fun _=>by rw [h.dd _ hlt hq0];exact hde) h.wg hpr (rel0 hcs) (fun _=>.inl (.inr ⟨rfl,pre hq⟩)) (pm _) (clo hq) (.inl hmu)
 cases hp:ph (M.n+1)<;>rw [hp] at hr hv0<;>first | (exfalso;revert hr;simp [roleC];done) | skip
 case c1=>
  exact mark (m:= .disable) (p':= .c2 M.n) (by rw [hp];rfl) rfl (by rw [hp];rfl) (by simp) rfl (fun v hs=>by rw [hp] at hs;exact hs) (fun a ha=>by cases ha) (by rw [hp];rfl) (h.pr.c1 hlt hp) (by rw [hp];simp [stage]) (by rw [hp];rfl)
 case c2 f=>
  rcases act (by rw [hp];rfl) with q | ⟨v,hv,hL⟩
  ·exact q
  have hst:=hL v .refl
  rw [hp] at hst
  obtain ⟨p1,p2,p3⟩:=h.pr.c2 hlt hp
  have hd:=h.dd _ hlt (by rw [hp];rfl)
  rw [hp] at hd
  change M.C2 f g v at hst
  rw [M.C2_eq f] at hst
  obtain ⟨_,hst⟩:=hst
  obtain ⟨g',hs,hK⟩:=hst x p1
  have te: ∀e∈ #[rd (stA M.Wg)],AtWg M e:=fun e he=>by simp at he;subst he;exact atWg_rd rfl
  by_cases hx:x=0
  ·obtain ⟨T',hg⟩:=mkAct (M:=M) (i:=M.n+1) (p':= .c7) (d:=deafBehind (X (M.n+1)).d #[rd (stA M.Wg)]) rfl (by rw [cx_cl];exact hK.1 hx) hv
   exact h.sp hw hi (by rw [hi0];exact hs w sm hJ h.wg) sl .refl (tk te) .c7 T' x sm hg (fun _=>by rw [hd];rfl) h.wg (p2 hx) (rel0 (by simp)) (fun _=>.inl (.inr ⟨rfl,pre (by rw [hp];rfl)⟩)) (pm _) (clo (by rw [hp];rfl)) (.inl (by rw [hp];simp [stage]<;>omega))
  ·obtain ⟨T',hg⟩:=mkAct (M:=M) (i:=M.n+1) (p':= .c3 f x) (d:=deafBehind (X (M.n+1)).d #[rd (stA M.Wg)]) rfl (by rw [cx_cl];exact hK.2 hx) hv
   exact h.sp hw hi (by rw [hi0];exact hs w sm hJ h.wg) sl .refl (tk te) (.c3 f x) T' x sm hg (fun _=>by rw [hd];rfl) h.wg (p3 hx) (rel0 (by simp)) (fun _=>.inl (.inr ⟨rfl,pre (by rw [hp];rfl)⟩)) (pm _) (clo (by rw [hp];rfl)) (.inl (by rw [hp];simp [stage]))
 case c3 f x0=>
  rcases act (by rw [hp];rfl) with q | ⟨v,hv,hL⟩
  ·exact q
  obtain ⟨p1,p2⟩:=h.pr.c3 hlt hp
  have hd:=h.dd _ hlt (by rw [hp];rfl)
  rw [hp] at hd
  by_cases hx:x=x0
  ·subst hx
   obtain ⟨v₁,q1,q2⟩:=h.view hlt hv (w':=w.setCell (stA M.Wg) (.int .u64 (x+1))) (calm_set rfl)
   have hst:=hL v₁ q2
   rw [hp] at hst
   obtain ⟨_,⟨g',hs,hK⟩,_⟩:=hst
   obtain ⟨T',hg⟩:=mkAct (M:=M) (i:=M.n+1) (p':= .c4) (d:=deafBehind (X (M.n+1)).d #[rd (stA M.Wg),wr (stA M.Wg)]) rfl (by rw [cx_cl];exact hK) q1
   exact h.sp hw hi (by rw [hi0];exact hs w sm hJ h.wg) sl (calm_set rfl) (tk fun e he=>by simp at he;rcases he with rfl | rfl<;>first | exact atWg_rd rfl | exact atWg_wr rfl) .c4 T' (x+1) sm hg (fun _=>by rw [hd];rfl) (wgAt_st h.wg) (p1 rfl) (rel0 (by simp)) (fun _=>.inl (.inr ⟨rfl,pre (by rw [hp];rfl)⟩)) (pm _) (clo (by rw [hp];rfl)) (.inl (by rw [hp];simp [stage]<;>omega))
  ·obtain ⟨f',rfl,hpr⟩:=p2 hx
   have hst:=hL v .refl
   rw [hp] at hst
   obtain ⟨_,_,⟨g',hs,hK⟩⟩:=hst
   obtain ⟨T',hg⟩:=mkAct (M:=M) (i:=M.n+1) (p':= .c2 f') (d:=deafBehind (X (M.n+1)).d #[rd (stA M.Wg)]) rfl (by rw [cx_cl];exact hK) hv
   exact h.sp hw hi (by rw [hi0];exact hs w x sm hJ hx h.wg) sl .refl (tk fun e he=>by simp at he;subst he;exact atWg_rd rfl) (.c2 f') T' x sm hg (fun _=>by rw [hd];rfl) h.wg hpr (rel0 (by simp)) (fun _=>.inl (.inr ⟨rfl,pre (by rw [hp];rfl)⟩)) (pm _) (clo (by rw [hp];rfl)) (.inl (by rw [hp];simp [stage]<;>omega))
 case c4=>
  exact mark (m:= .write (smA M.Wg)) (p':= .c5) (by rw [hp];rfl) rfl (by rw [hp];rfl) (by simp) rfl (fun v hs=>by rw [hp] at hs;exact hs) (fun a ha=>by cases ha;exact .inr (.inr ⟨.inl rfl,.inr (.inr ⟨rfl,rfl⟩)⟩)) (by rw [hp];rfl) (h.pr.csem hlt (by rw [hp];rfl) rfl rfl) (by rw [hp];simp [stage]) (by rw [hp];rfl)
 case c5=>
  rcases act (by rw [hp];rfl) with q | ⟨v,hv,hL⟩
  ·exact q
  have hst:=hL v .refl
  rw [hp] at hst
  exact h.sem hw hi sl (.inl hp) hv hst
 case cs=>
  obtain ⟨g0,c1,c2,c3⟩:=hv0
  rcases c1 with rfl | rfl
  ·exact h.sem hw hi sl (.inr hp) c3 c2
  ·cases hrun
 case c6=>
  rcases act (by rw [hp];rfl) with q | ⟨v,hv,hL⟩
  ·exact q
  have hst:=hL v .refl
  rw [hp] at hst
  have hd:=h.dd _ hlt (by rw [hp];rfl)
  rw [hp] at hd
  obtain ⟨z1,z2,z3,z4,z5⟩:=h.pr.zero hlt (by rw [hp];exact id) (by rw [hp];rfl)
  obtain ⟨_,hst⟩:=hst
  obtain ⟨g',hs,hK⟩:=hst x z1
  obtain ⟨T',hg⟩:=mkAct (M:=M) (i:=M.n+1) (p':= .c7) (d:=deafBehind (X (M.n+1)).d #[rd (stA M.Wg)]) rfl (by rw [cx_cl];exact hK) hv
  exact h.sp hw hi (by rw [hi0];exact hs w sm hJ h.wg) sl .refl (tk fun e he=>by simp at he;subst he;exact atWg_rd rfl) .c7 T' x sm hg (fun _=>by rw [hd];rfl) h.wg (z5 .c7 rfl (by rw [hp];simp [isCq]) rfl) (rel0 (by simp)) (fun _=>.inl (.inr ⟨rfl,pre (by rw [hp];rfl)⟩)) (pm _) (clo (by rw [hp];rfl)) (.inl (by rw [hp];simp [stage]))
 case c7=>
  obtain ⟨z1,z2,z3,z4,z5⟩:=h.pr.zero hlt (by rw [hp];exact id) (by rw [hp];rfl)
  exact mark (m:= .enable) (p':= .c9) (by rw [hp];rfl) rfl (by rw [hp];rfl) (by simp) rfl (fun v hs=>by rw [hp] at hs;exact hs) (fun a ha=>by cases ha) (by rw [hp];rfl) (z5 .c9 rfl (by rw [hp];simp [isCq]) rfl) (by rw [hp];simp [stage]) (by rw [hp];rfl)
 case c9=>
  obtain ⟨z1,z2,z3,z4,z5⟩:=h.pr.zero hlt (by rw [hp];exact id) (by rw [hp];rfl)
  exact mark (m:= .acquire (stA M.Wg)) (p':= .c10) (by rw [hp];rfl) rfl (by rw [hp];rfl) (by simp) rfl (fun v hs=>by rw [hp] at hs;exact hs) (fun a ha=>by cases ha) (by rw [hp];rfl) (z5 .c10 rfl (by rw [hp];simp [isCq]) rfl) (by rw [hp];simp [stage]) (by rw [hp];rfl)
 case c10=>exact (hne hp).elim
 case cq=>
  obtain ⟨q,hT,hQ⟩:=hv0
  cases q with
  | zero=>rw [hQ.1] at hrun;cases hrun
  | succ q=>
   rcases hQ with ⟨e,_⟩ | ⟨_,g',es,hm,hs,hQ'⟩
   ·rw [e] at hrun;cases hrun
   ·exact h.sp hw hi (by rw [hi0];exact hs w) sl .refl (fun e he a ha=>by rw [touch_mute (hm e he)] at ha;cases ha) .cq (Tr.ofNat q) x sm ⟨w,q,rfl,hQ'⟩ (fun q=>by cases q) h.wg (by rw [←hp,upd_id];exact h.pr) (rel0 (by simp))
     (fun _=>.inr (none_counts fun e he=>touch_mute (hm e he))) (pm _) (fun _ _ e he=>touch_mute (hm e he)) (.inr (.inl ⟨hp.symm,by rw [hT];exact Tr.ofNat_lt q⟩))
end
end Go.Vk
end
section
namespace Go.Vk
open Go.Conc Go.Conc.Lib
open Go.ConcR (KK wgBlock WgAt stA smA rd wr)
open Go.ConcN (WgLive)
section
variable {M : Mp} {W : World} {gs : Array Goroutine} {w w' : World} {X : Nat → GS} {ph : Nat → Ph} {x sm : Int} {cl : Bool} {r0 : Nat} {t : Trace}
theorem stages {n N i:Nat} {p':Ph} (hi:i<N):((List.range N).map fun k=>stage n (upd ph i p' k)).sum+stage n (ph i)=((List.range N).map fun k=>stage n (ph k)).sum+stage n p':=by
 have:=sum_upd (f:=fun k=>stage n (ph k)) (x:=stage n p') hi
 have e:(fun k=>if k=i then stage n p' else stage n (ph k))=fun k=>stage n (upd ph i p' k):=by
  funext k
  by_cases h:k=i
  ·subst h;rw [if_pos rfl,upd_self]
  ·rw [if_neg h,upd_ne h]
 rw [e] at this
 exact this
theorem setChan_get {w:World} {c:Nat} {o:Obj} {cap:Nat} {buf:Array Value} {b:Bool} {s r:Nat} {tm:Bool} (h:w.heap[c]?=some o):(w.setChan c cap buf b s r tm).heap[c]?=some (.chan cap buf b s r tm):=heap_put h
theorem setChan_ne {w:World} {c k:Nat} {cap:Nat} {buf:Array Value} {b:Bool} {s r:Nat} {tm:Bool} (h:k≠c):(w.setChan c cap buf b s r tm).heap[k]?=w.heap[k]?:=by
 show (w.heap.setIfInBounds c _)[k]?=_
 rw [Array.getElem?_setIfInBounds_ne (fun e=>h e.symm)]
theorem setChan_size {w:World} {c:Nat} {cap:Nat} {buf:Array Value} {b:Bool} {s r:Nat} {tm:Bool}:(w.setChan c cap buf b s r tm).heap.size=w.heap.size:=by
 show (w.heap.setIfInBounds c _).size=_
 simp
theorem Inv.rlChan (h:Inv M W gs w X ph x sm cl r0 t) {cap:Nat} {buf:Array Value} {b:Bool} {s r:Nat} {tm:Bool} {k:Nat} (hk:k<gs.size):Rl (X k).γ w (w.setChan M.c cap buf b s r tm):=
 ⟨Nat.le_of_eq setChan_size.symm,fun b hb=>setChan_ne (h.sep.nw k b hk hb).2,rfl,rfl,rfl⟩
theorem Inv.close (h:Inv M W gs w X ph x sm cl r0 t) (hw:M.Wf) {g:Goroutine} (hi:gs[M.n+1]?=some g) (sl:Option (Nat×Nat)) (hp:ph (M.n+1)= .c10):M.Nx W gs w X ph t sl (M.n+1):=by
 have hlt:=lts hi
 have hi0:(M.n+1 == 0)=false:=by simp
 rcases h.act hw hi sl (by rw [hp];rfl) with q | ⟨v,hv,hL⟩
 ·exact q
 have hst:=hL v .refl
 rw [hp] at hst
 obtain ⟨hrun,hmw,g',hs,q,hQ⟩:=hst
 obtain ⟨hcl,hA,hB⟩:=h.pr.close hlt hp
 obtain ⟨z1,z2,z3,z4,z5⟩:=h.pr.zero hlt (by rw [hp];exact id) (by rw [hp];rfl)
 have h2:num ph gs.size 2=0:=by unfold cnt at z3;omega
 have h1:num ph gs.size 1=0:=by unfold cnt at z3;omega
 subst hcl
 have hch:=h.ch
 have hst:=hs w r0 h.live hch
 generalize hw':w.setChan M.c 0 #[] true r0 r0 false=w' at hst
 generalize hes:(#[⟨.obj M.c,false,true⟩,⟨.obj M.c,true,true⟩]:Array Event)=es at hst
 have hsz':w'.heap.size=w.heap.size:=by rw [←hw'];exact setChan_size
 have hrl: ∀k,k<gs.size→Rl (X k).γ w w':=fun k hk=>by rw [←hw'];exact h.rlChan hk
 have hne: ∀b,b≠M.c→w'.heap[b]?=w.heap[b]?:=fun b hb=>by rw [←hw'];exact setChan_ne hb
 have hcc:w'.heap[M.c]?=some (.chan 0 #[] true r0 r0 false):=by rw [←hw'];exact setChan_get hch
 have hout:w'.os=w.os∧w'.output=w.output∧w'.tape=w.tape:=by rw [←hw'];exact ⟨rfl,rfl,rfl⟩
 have hd:=h.dd _ hlt (by rw [hp];rfl)
 rw [hp] at hd
 have hd0:(X (M.n+1)).d=0:=hd
 have hD0:Deaf t (M.n+1)=0:=(h.ti.deaf _ hlt).trans hd0
 have hst0:g'.status= .running∨g'.status= .finished:=hQ.status
 have hsz:((gs.map (woken M.P g g' w')).setIfInBounds (M.n+1) g').size=gs.size:=by simp
 have get: ∀k y,((gs.map (woken M.P g g' w')).setIfInBounds (M.n+1) g')[k]?=some y→(k=M.n+1∧y=g')∨(k≠M.n+1∧ ∃y0,gs[k]?=some y0∧y=y0.again w'):=fun k y hy=>by
  by_cases e:M.n+1=k
  ·subst e
   rw [Array.getElem?_setIfInBounds_self_of_lt (by simpa using hlt)] at hy
   exact .inl ⟨rfl,(Option.some.inj hy).symm⟩
  ·rw [Array.getElem?_setIfInBounds_ne e,Array.getElem?_map] at hy
   obtain ⟨y0,h1,h2⟩:=Option.map_eq_some_iff.1 hy
   refine .inr ⟨fun q=>e q.symm,y0,h1,?_⟩
   rw [←h2]
   unfold woken
   rw [hmw]
   rcases hst0 with e' | e'<;>rw [e']<;>rfl
 generalize hu:MemOp.ofEvents (M.n+1) g.frame.fn g.frame.place es=u
 have hug: ∀op∈u,op.g=M.n+1:=fun op hop=>by rw [←hu] at hop;exact (ofE_get hop).1
 have hue:u= #[{g:=M.n+1,fn:=g.frame.fn,pos:=g.frame.place,act:= .access ⟨.obj M.c,false,true⟩},{g:=M.n+1,fn:=g.frame.fn,pos:=g.frame.place,act:= .close M.c}]:=by
  rw [←hu,←hes,ofEvents_eq];simp [MemAct.ofEvent]
 have hdf:Deaf (t++u) (M.n+1)=0:=by
  rw [←hu,Deaf_own,hD0,←hes];rfl
 have hpre:M.pre ph (M.n+1):= .inr ⟨rfl,fun e=>by have:=(h.pr.rX.fin e).2;cases this⟩
 have hti:=h.ti.grow h.sep hlt (Nat.le_refl _) (u:=u) hug (fun op hop a ha=>by
  rw [hue] at hop;simp at hop
  rcases hop with rfl | rfl
  ·cases ha;exact .inr (.inr ⟨.inr rfl,.inl rfl⟩)
  ·cases ha) hdf (fun _=>.inl hpre)
 rw [Gh.grow_self,show (fun k=>if k=M.n+1 then (X (M.n+1)).γ else (X k).γ)=fun k=>(X k).γ from funext fun k=>by
  by_cases e:k=M.n+1
  ·subst e;rw [if_pos rfl]
  ·rw [if_neg e]] at hti
 have hclosed:ClosedAt M (t++u):=by
  have e0:(t++u)[t.size]?=some {g:=M.n+1,fn:=g.frame.fn,pos:=g.frame.place,act:= .access ⟨.obj M.c,false,true⟩}:=by rw [hue];exact last_get (i:=0) [_,_]
  have e1:(t++u)[t.size+1]?=some {g:=M.n+1,fn:=g.frame.fn,pos:=g.frame.place,act:= .close M.c}:=by rw [hue];exact last_get (i:=1) [_,_]
  refine ⟨t.size+1,_,e1,rfl,rfl,heard_at e1 rfl (by rw [deaf_succ e0,deaf_old (Nat.le_refl _)];exact hD0),fun i z hz hg hc=>?_⟩
  have hi:i<(t++u).size:=Go.Conc.lt_size_of_getElem? hz
  have hu2:u.size=2:=by rw [hue];rfl
  rw [Array.size_append,hu2] at hi
  rcases Nat.lt_or_ge i (t.size+1) with a | a
  ·exact a
  ·have:i=t.size+1:=by omega
   subst this
   obtain ⟨y,hy,_⟩:=hc
   have hy':touchAt (t++u) (t.size+1)=some y:=hy
   rw [touchAt_of e1] at hy'
   cases hy'
 have key: ∀ph':Nat→Ph,ph' (M.n+1)= .cq→(∀k,k≠0→k≠M.n+1→ph' k=ph k)→(ph' 0=ph 0∧(∀r Y,ph 0≠ .rp r Y))∨(ph' 0= .rw∧ ∃Y,ph 0= .rp 0 Y)→Prot M.n gs.size ph' x sm true→
   Inv M W ((gs.map (woken M.P g g' w')).setIfInBounds (M.n+1) g') w' (upd X (M.n+1) ⟨(X (M.n+1)).γ,Tr.ofNat q,0⟩) ph' x sm true r0 (t++u):=fun ph' k1 k2 k3 hpr=>by
  have hm0:roleM (ph 0)=true:=h.pr.main
  have ed:(upd X (M.n+1) ⟨(X (M.n+1)).γ,Tr.ofNat q,0⟩)=upd X (M.n+1) ⟨(X (M.n+1)).γ,Tr.ofNat q,0⟩:=rfl
  have eγ: ∀k,(upd X (M.n+1) ⟨(X (M.n+1)).γ,Tr.ofNat q,0⟩ k).γ=(X k).γ:=fun k=>by
   by_cases e:k=M.n+1
   ·subst e;rw [upd_self]
   ·rw [upd_ne e]
  have eγ':(fun k=>(upd X (M.n+1) ⟨(X (M.n+1)).γ,Tr.ofNat q,0⟩ k).γ)=fun k=>(X k).γ:=funext eγ
  refine ⟨fun k y hy=>?_,by rw [hsz,hsz',eγ'];exact h.sep,?_,fun k hk hq=>?_,fun k b hk hb=>?_,by unfold WgAt;rw [hne _ h.olt.2.2.1];exact h.wg,hcc,fun b hb=>(hne b (by have:=h.olt.2.1;omega)).trans (h.old b hb),⟨h.olt.1,h.olt.2.1,h.olt.2.2.1,fun k b hk hb=>?_⟩,⟨by rw [hsz'];exact h.out.1,hout.1.trans h.out.2.1,hout.2.1.trans h.out.2.2.1,hout.2.2.trans h.out.2.2.2⟩,by rw [hsz];exact hpr,fun e y hy hp'=>?_,fun _=>hclosed⟩
  ·rcases get k y hy with ⟨rfl,rfl⟩ | ⟨hk,y0,hy0,rfl⟩
   ·rw [upd_self,k1]
    exact ⟨w,q,rfl,hQ⟩
   ·rw [upd_ne hk]
    obtain ⟨v0,hv0⟩:=h.ok k y0 hy0
    have hk':=lts hy0
    by_cases e:k=0
    ·subst e
     rcases k3 with ⟨k3,k4⟩ | ⟨k3,Y,k4⟩
     ·rw [k3]
      refine Mp.others hw hv0 (hrl 0 hk') (fun hp0=>?_) (.inr rfl)
      rcases hp0 with e | ⟨r,Y,e⟩
      ·rw [e] at hm0;cases hm0
      ·exact (k4 r Y e).elim
     ·rw [k3]
      rw [k4] at hv0
      obtain ⟨g0,z,rfl,c2,c3,c4⟩:=hv0
      obtain ⟨v₁,q1,q2⟩:=c2.rely (hrl 0 hk')
      exact ⟨v₁,g0,z,Y,again_recv_closed hcc,q1,c3,RK_mono c4 q2⟩
    ·rw [k2 k e hk]
     refine Mp.others hw hv0 (hrl k hk') (fun hp0=>?_) (.inr rfl)
     exfalso
     have hn:=h.size
     have hc:=h.pr.wk k (by omega) (by omega) hk'
     rcases hp0 with e | ⟨r,Y,e⟩
     ·exact num_zero h2 hk' (by rw [e];rfl)
     ·rw [e] at hc;simp [code] at hc
  ·rw [hsz,hsz',eγ',upd_dd]
   refine hti.mono fun k hk=>?_
   rcases hk with ⟨a,b⟩ | ⟨a,b⟩
   ·exfalso
    by_cases hkl:k<gs.size
    ·rcases b with b | b
     ·exact num_zero h1 hkl b
     ·exact num_zero h2 hkl b
    ·omega
   ·refine .inr ⟨a,?_⟩
    rcases k3 with ⟨k3,_⟩ | ⟨k3,_⟩<;>rw [k3]
    ·exact b
    ·simp
  ·rw [hsz] at hk
   by_cases e:k=M.n+1
   ·subst e;rw [k1] at hq;cases hq
   ·rw [upd_ne e]
    by_cases e0:k=0
    ·subst e0
     rcases k3 with ⟨k3,_⟩ | ⟨k3,Y,k4⟩
     ·rw [k3] at hq ⊢;exact h.dd 0 hk hq
     ·rw [k3,h.dd 0 hk (by rw [k4];rfl),k4];rfl
    ·rw [k2 k e0 e] at hq ⊢
     exact h.dd k hk hq
  ·rw [eγ] at hb ⊢
   rw [hsz] at hk
   exact h.fzs k b hk hb
  ·rw [eγ] at hb
   rw [hsz] at hk
   exact h.olt.2.2.2 k b hk hb
  ·rw [k1] at hp';cases hp'
 have hrT:=runT_crowd_go (P:=M.P) (sl:=sl) hi (by rw [hi0];exact hst)
 rw [hu] at hrT
 have hmu0:=stages (n:=M.n) (ph:=ph) (p':= .cq) hlt
 rw [hp,show stage M.n .c10=14 from rfl,show stage M.n .cq=0 from rfl] at hmu0
 have hm0:roleM (ph 0)=true:=h.pr.main
 by_cases hrp: ∃r Y,ph 0= .rp r Y
 ·obtain ⟨r,Y,hY⟩:=hrp
  obtain ⟨rfl,hpr⟩:=hB r Y hY
  refine ⟨_,w',_,_,x,sm,true,r0,sl,u,hrT,key _ (by rw [upd_ne (by omega),upd_self]) (fun k a b=>by rw [upd_ne a,upd_ne b]) (.inr ⟨upd_self,Y,hY⟩) hpr,.inl ?_⟩
  have hmu1:=stages (n:=M.n) (ph:=upd ph (M.n+1) .cq) (p':= .rw) (i:=0) (N:=gs.size) (by omega)
  rw [upd_ne (by omega),hY,show stage M.n (.rp 0 Y)=4 from rfl,show stage M.n .rw=3 from rfl] at hmu1
  simp only [Mp.mu,hsz]
  omega
 ·refine ⟨_,w',_,_,x,sm,true,r0,sl,u,hrT,key _ upd_self (fun k a b=>upd_ne b) (.inl ⟨upd_ne (by omega),fun r Y e=>hrp ⟨r,Y,e⟩⟩) (hA fun r Y e=>hrp ⟨r,Y,e⟩),.inl ?_⟩
  simp only [Mp.mu,hsz]
  omega
end
end Go.Vk
end
section
namespace Go.Vk
open Go.Conc Go.Conc.Lib
open Go.ConcR (KK wgBlock WgAt stA smA rd wr)
open Go.ConcN (WgLive)
def frozenUp:Obj→Obj
 | .cells c e _=>.cells c e (0,c.size)
 | o=>o
open Classical in
noncomputable def viewOf (γ:Gh) (w:World):World:={w with heap:=w.heap.mapIdx fun b o=>if γ.ow b then o else if γ.fz b then frozenUp o else poison}
open Classical in
theorem viewOf_get {γ:Gh} {w:World} {b:Nat} {o:Obj} (h:w.heap[b]?=some o):(γ.ow b→(viewOf γ w).heap[b]?=some o)∧(¬γ.ow b→γ.fz b→(viewOf γ w).heap[b]?=some (frozenUp o))∧(¬γ.ow b→ ¬γ.fz b→(viewOf γ w).heap[b]?=some poison):=by
 have e:(viewOf γ w).heap[b]?=(w.heap[b]?).map fun o=>if γ.ow b then o else if γ.fz b then frozenUp o else poison:=by
  show (w.heap.mapIdx _)[b]?=_
  rw [Array.getElem?_mapIdx]
 rw [e,h]
 refine ⟨fun q=>by simp [q],fun q r=>by simp [q,r],fun q r=>by simp [q,r]⟩
theorem viewOf_vt {γ:Gh} {w:World} (ho: ∀b,γ.ow b→b<w.heap.size∧ ¬γ.fz b∧ ∀o,w.heap[b]?=some o→NoView o) (hf: ∀b,γ.fz b→ ∃c e fr,w.heap[b]?=some (.cells c e fr)):Vt γ w (viewOf γ w):=by
 have lt: ∀b,b<w.heap.size→ ∃o,w.heap[b]?=some o:=fun b hb=>⟨_,Array.getElem?_eq_getElem hb⟩
 refine ⟨by simp [viewOf],fun b hb=>?_,fun b hb=>?_,fun b h1 h2 h3=>?_,rfl,rfl,rfl,rfl⟩
 ·obtain ⟨a,c,d⟩:=ho b hb
  obtain ⟨o,h⟩:=lt b a
  exact ⟨a,c,by rw [(viewOf_get h).1 hb,h],d⟩
 ·obtain ⟨c,e,fr,h⟩:=hf b hb
  refine ⟨c,e,fr,h,(viewOf_get h).2.1 (fun q=>(ho b q).2.1 hb) hb⟩
 ·obtain ⟨o,h⟩:=lt b h1
  exact (viewOf_get h).2.2 h2 h3
theorem Vt.same {γ γ':Gh} {w v v':World} (h:Vt γ w v) (h':Vt γ' w v') {b:Nat} (ho:γ'.ow b↔γ.ow b) (hf:γ'.fz b↔γ.fz b):v'.heap[b]?=v.heap[b]?:=by
 rcases Nat.lt_or_ge b w.heap.size with q | q
 ·by_cases h1:γ.ow b
  ·rw [(h.own b h1).2.2.1,(h'.own b (ho.2 h1)).2.2.1]
  ·by_cases h2:γ.fz b
   ·obtain ⟨c,e,fr,a1,a2⟩:=h.shared b h2
    obtain ⟨c',e',fr',b1,b2⟩:=h'.shared b (hf.2 h2)
    rw [a1] at b1;cases b1
    rw [a2,b2]
   ·rw [h.other b q h1 h2,h'.other b q (fun a=>h1 (ho.1 a)) fun a=>h2 (hf.1 a)]
 ·rw [Array.getElem?_eq_none (xs:=v'.heap) (by rw [h'.size];exact q),Array.getElem?_eq_none (by rw [h.size];exact q)]
section
variable {M : Mp} {W : World} {gs gs' : Array Goroutine} {w w' : World} {X : Nat → GS} {ph : Nat → Ph} {x sm : Int} {cl : Bool} {r0 : Nat} {t : Trace}
theorem Inv.hand (h:Inv M W gs w X ph x sm cl r0 t) (hw:M.Wf) {j:Nat} (hj1:1≤j) (hjn:j≤M.n) (hjN:j<gs.size) (hpj:ph j= .w1∨ph j= .wp) {r:Nat} {Y:Nat→Prop} (hm:ph 0= .rv (r+1) Y∨ph 0= .rp (r+1) Y)
  {gm gw:Goroutine} {z val:Value} {vm vj:World} (hrk:M.RK (r+1) Y z gm vm) (hvm:Vt (X 0).γ w vm) (hok:M.Ok j val vj) (hvj:Vt (X j).γ w vj) (hqs:M.Qs M.W2 (Go.Conc.served gw undef))
  (hz:gs'.size=gs.size) (h0:gs'[0]?=some (Go.Conc.served gm (.tuple #[val,.bool true]))) (hj:gs'[j]?=some (Go.Conc.served gw undef)) (ho: ∀k y,k≠0→k≠j→gs'[k]?=some y→gs[k]?=some y) {d:Nat}
  (hw':w'=(w.at d).setChan M.c 0 #[] false (r0+1) (r0+1) false) {f1 f2:FuncId} {p1 p2:String}:
  ∃X' ph',Inv M W gs' w' X' ph' x sm cl (r0+1) (t++ #[{g:=j,fn:=f1,pos:=p1,act:= .send M.c r0},{g:=0,fn:=f2,pos:=p2,act:= .recv M.c r0 0},{g:=j,fn:=f1,pos:=p1,act:= .sendDone M.c r0},{g:=0,fn:=f2,pos:=p2,act:= .recvDone M.c r0}])∧Mu.lt (M.mu gs' X' ph') (M.mu gs X ph):=by
 have h00:0<gs.size:=by omega
 have hcj:code (ph j)=1∨code (ph j)=2:=hpj.imp (fun e=>by rw [e];rfl) fun e=>by rw [e];rfl
 have hcl:cl=false:=by
  cases hc:cl with
  | false=>rfl
  | true=>
   have:=(h.pr.shutNone hc).1
   rcases hcj with e | e<;>have:=num_ge hjN e<;>omega
 subst hcl
 obtain ⟨hpr,hnY⟩:=h.pr.hstep hj1 hjn hjN hpj hm
 have hsz:w'.heap.size=w.heap.size:=by rw [hw'];exact setChan_size
 have hne: ∀b,b≠M.c→w'.heap[b]?=w.heap[b]?:=fun b hb=>by rw [hw'];exact setChan_ne hb
 have hcc:w'.heap[M.c]?=some (.chan 0 #[] false (r0+1) (r0+1) false):=by rw [hw'];exact setChan_get h.ch
 have hout:w'.os=w.os∧w'.output=w.output∧w'.tape=w.tape:=by rw [hw'];exact ⟨rfl,rfl,rfl⟩
 have hrl: ∀k,k<gs.size→Rl (X k).γ w w':=fun k hk=>⟨Nat.le_of_eq hsz.symm,fun b hb=>hne b (h.sep.nw k b hk hb).2,hout.1,hout.2.1,hout.2.2⟩
 obtain ⟨v₁,a1,a2⟩:=hvm.rely (hrl 0 h00)
 obtain ⟨vk,b1,b2⟩:=hvj.rely (hrl j hjN)
 let γ':Gh:=⟨fun b=>(X 0).γ.ow b∨(X j).γ.ow b,(X 0).γ.fz⟩
 have hv':Vt γ' w' (viewOf γ' w'):=viewOf_vt (fun b hb=>by
  rcases hb with hb | hb
  ·obtain ⟨q1,q2,_,q4⟩:=a1.own b hb;exact ⟨q1,q2,q4⟩
  ·obtain ⟨q1,q2,_,q4⟩:=b1.own b hb
   exact ⟨q1,h.sep.apf j 0 b hjN h00 hb,q4⟩) fun b hb=>by
  obtain ⟨c,e,fr,q,_⟩:=a1.shared b hb
  exact ⟨c,e,fr,q⟩
 have hfree: ∀b,(X j).γ.ow b→v₁.heap[b]?=some poison:=fun b hb=>a1.other b (b1.own b hb).1 (h.sep.ap j 0 b hjN h00 (by omega) hb) (h.sep.apf j 0 b hjN h00 hb)
 have hunp:Unp v₁ (viewOf γ' w'):=by
  refine ⟨by rw [hv'.size,a1.size],fun b=>?_,by rw [hv'.os,a1.os],by rw [hv'.output,a1.output],by rw [hv'.tape,a1.tape]⟩
  by_cases e:(X j).γ.ow b
  ·exact .inr (hfree b e)
  ·exact .inl (a1.same hv' ⟨fun q=>q.elim id fun q=>(e q).elim,.inl⟩ Iff.rfl)
 have hgot:M.Got v₁ (viewOf γ' w') j val:=by
  refine ⟨vk,hw.okm _ _ _ _ b2 hok,by rw [b1.size,hv'.size],fun b o y hy=>?_⟩
  obtain ⟨c1,c2⟩:=b1.cell hy
  rcases c2 with c2 | c2
  ·refine ⟨?_,.inl (hfree b c2)⟩
   have:=(hv'.own b (.inr c2)).2.2.1
   unfold World.cell? at c1 ⊢
   simp only at c1 ⊢
   rw [this];exact c1
  ·have c3:=h.fzs j b hjN c2
   obtain ⟨c,e,fr,q1,q2⟩:=a1.shared b c3
   obtain ⟨c',e',fr',q3,q4⟩:=hv'.shared b c3
   rw [q1] at q3;cases q3
   refine ⟨?_,.inr ⟨c,e,q2⟩⟩
   unfold World.cell? at c1 ⊢
   simp only at c1 ⊢
   rw [q4]
   rw [q1] at c1
   exact c1
 have hway:=hrk v₁ a2 j hj1 hjn hnY _ val hunp hgot
 obtain ⟨Tm,hTm⟩:=hway.rank
 obtain ⟨q,hQ⟩:=hqs
 have hdj:=h.dd j hjN (by rcases hpj with e | e<;>rw [e]<;>rfl)
 have hd0:=h.dd 0 h00 (by rcases hm with e | e<;>rw [e]<;>rfl)
 have hdj0:(X j).d=0:=by rw [hdj];rcases hpj with e | e<;>rw [e]<;>rfl
 have hd00:(X 0).d=0:=by rw [hd0];rcases hm with e | e<;>rw [e]<;>rfl
 let X':Nat→GS:=upd (upd X j ⟨⟨fun _=>False,fun _=>False⟩,Tr.ofNat q,0⟩) 0 ⟨γ',Tm,0⟩
 have X0:X' 0=⟨γ',Tm,0⟩:=upd_self
 have Xj:X' j=⟨⟨fun _=>False,fun _=>False⟩,Tr.ofNat q,0⟩:=by show upd (upd X j _) 0 _ j=_;rw [upd_ne (by omega),upd_self]
 have Xk: ∀k,k≠0→k≠j→X' k=X k:=fun k a b=>by show upd (upd X j _) 0 _ k=_;rw [upd_ne a,upd_ne b]
 have eγ:(fun k=>(X' k).γ)=fun k=>if k=0 then γ' else if k=j then ⟨fun _=>False,fun _=>False⟩ else (X k).γ:=by
  funext k
  by_cases e:k=0
  ·subst e;rw [if_pos rfl,X0]
  ·rw [if_neg e]
   by_cases e':k=j
   ·subst e';rw [if_pos rfl,Xj]
   ·rw [if_neg e',Xk k e e']
 have ed:(fun k=>(X' k).d)=fun k=>(X k).d:=by
  funext k
  by_cases e:k=0
  ·subst e;rw [X0,hd00]
  ·by_cases e':k=j
   ·subst e';rw [Xj,hdj0]
   ·rw [Xk k e e']
 let ph':Nat→Ph:=upd (upd ph j .w2) 0 (.rv r fun i=>Y i∨i=j)
 have P0:ph' 0= .rv r fun i=>Y i∨i=j:=upd_self
 have Pj:ph' j= .w2:=by show upd (upd ph j _) 0 _ j=_;rw [upd_ne (by omega),upd_self]
 have Pk: ∀k,k≠0→k≠j→ph' k=ph k:=fun k a b=>by show upd (upd ph j _) 0 _ k=_;rw [upd_ne a,upd_ne b]
 have γow: ∀k b,k<gs.size→(X' k).γ.ow b→(X k).γ.ow b∨(k=0∧(X j).γ.ow b):=fun k b hk hb=>by
  by_cases e:k=0
  ·subst e;rw [X0] at hb;exact hb.imp id fun q=>⟨rfl,q⟩
  ·by_cases e':k=j
   ·subst e';rw [Xj] at hb;exact hb.elim
   ·rw [Xk k e e'] at hb;exact .inl hb
 have γfz: ∀k b,(X' k).γ.fz b→(X k).γ.fz b:=fun k b hb=>by
  by_cases e:k=0
  ·subst e;rw [X0] at hb;exact hb
  ·by_cases e':k=j
   ·subst e';rw [Xj] at hb;exact hb.elim
   ·rw [Xk k e e'] at hb;exact hb
 have hsep:Sep M gs.size w.heap.size (fun k=>(X' k).γ):=by
  refine ⟨fun k b hk hb=>?_,fun k b hk hb=>h.sep.flt k b hk (γfz k b hb),fun i k b hi hk hik hb hb'=>?_,fun i k b hi hk hb hf=>?_,fun k b hk hb=>?_,h.sep.wlt,h.sep.clt⟩
  ·rcases γow k b hk hb with q | ⟨_,q⟩
   ·exact h.sep.lt k b hk q
   ·exact h.sep.lt j b hjN q
  ·have nj: ∀k,(X' k).γ.ow b→k≠j:=fun k hb e=>by rw [e,Xj] at hb;exact hb
   rcases γow i b hi hb with q | ⟨q1,q⟩<;>rcases γow k b hk hb' with s | ⟨s1,s⟩
   ·exact h.sep.ap i k b hi hk hik q s
   ·exact h.sep.ap i j b hi hjN (nj i hb) q s
   ·exact h.sep.ap j k b hjN hk (fun e=>nj k hb' e.symm) q s
   ·exact hik (q1.trans s1.symm)
  ·rcases γow i b hi hb with q | ⟨q1,q⟩
   ·exact h.sep.apf i k b hi hk q (γfz k b hf)
   ·exact h.sep.apf j k b hjN hk q (γfz k b hf)
  ·rcases hb with hb | hb
   ·rcases γow k b hk hb with q | ⟨_,q⟩
    ·exact h.sep.nw k b hk (.inl q)
    ·exact h.sep.nw j b hjN (.inl q)
   ·exact h.sep.nw k b hk (.inr (γfz k b hb))
 refine ⟨X',ph',⟨fun k y hy=>?_,by rw [hz,hsz];exact hsep,?_,fun k hk hq=>?_,fun k b hk hb=>?_,by unfold WgAt;rw [hne _ h.olt.2.2.1];exact h.wg,hcc,fun b hb=>(hne b (by have:=h.olt.2.1;omega)).trans (h.old b hb),⟨h.olt.1,h.olt.2.1,h.olt.2.2.1,fun k b hk hb=>?_⟩,⟨by rw [hsz];exact h.out.1,hout.1.trans h.out.2.1,hout.2.1.trans h.out.2.2.1,hout.2.2.trans h.out.2.2.2⟩,by rw [hz];exact hpr,fun e y hy hp=>?_,fun q=>(by cases q)⟩,.inl ?_⟩
 ·by_cases e:k=0
  ·subst e
   rw [h0] at hy;cases hy
   rw [P0,X0]
   exact ⟨_,hTm,hv'⟩
  ·by_cases e':k=j
   ·subst e'
    rw [hj] at hy;cases hy
    rw [Pj,Xj]
    exact ⟨w,q,rfl,hQ⟩
   ·rw [Pk k e e',Xk k e e']
    have hy':=ho k y e e' hy
    obtain ⟨v,hv⟩:=h.ok k y hy'
    exact Mp.others hw hv (hrl k (lts hy')) (fun _=>⟨_,_,hcc⟩) (.inl rfl)
 ·rw [hz,hsz,eγ,ed]
  refine (h.ti.hand h00 hjN (by omega) hd00 hdj0).mono fun k ⟨hkj,hk⟩=>?_
  rcases hk with ⟨a,b⟩ | ⟨a,b⟩
  ·refine .inl ⟨a,?_⟩
   have:k≠0:=fun e=>by
    subst e
    rw [code_roleM h.pr.main] at b
    omega
   rw [Pk k this hkj];exact b
  ·exact .inr ⟨a,by rw [P0];simp⟩
 ·rw [hz] at hk
  by_cases e:k=0
  ·subst e;rw [X0,P0];rfl
  ·by_cases e':k=j
   ·subst e';rw [Xj,Pj];rfl
   ·rw [Xk k e e',Pk k e e']
    rw [Pk k e e'] at hq
    exact h.dd k hk hq
 ·rw [hz] at hk
  rw [X0]
  exact h.fzs k b hk (γfz k b hb)
 ·rw [hz] at hk
  rcases γow k b hk hb with q | ⟨_,q⟩
  ·exact h.olt.2.2.2 k b hk q
  ·exact h.olt.2.2.2 j b hjN q
 ·have hn0:M.n+1≠0:=by omega
  have hnj:M.n+1≠j:=by omega
  rw [Pk _ hn0 hnj] at hp
  exact h.rel e y (ho _ y hn0 hnj hy) hp
 ·have s1:=stages (n:=M.n) (ph:=ph) (p':= .w2) hjN
  have s2:=stages (n:=M.n) (ph:=upd ph j .w2) (p':= .rv r fun i=>Y i∨i=j) h00
  rw [upd_ne (by omega),show stage M.n (.rv r fun i=>Y i∨i=j)=3*r+5 from rfl] at s2
  rw [show stage M.n .w2=10 from rfl] at s1
  have e1:11≤stage M.n (ph j):=by rcases hpj with e | e<;>rw [e]<;>simp [stage]
  have e2:3*r+6≤stage M.n (ph 0):=by rcases hm with e | e<;>rw [e]<;>simp [stage]<;>omega
  simp only [Mp.mu,hz]
  show ((List.range gs.size).map fun k=>stage M.n (upd (upd ph j .w2) 0 (.rv r fun i=>Y i∨i=j) k)).sum<_
  omega
end
end Go.Vk
end
section
namespace Go.Vk
open Go.Conc Go.Conc.Lib
open Go.ConcR (KK wgBlock WgAt stA smA rd wr)
open Go.ConcN (WgLive)
theorem Vt.boxed {γ:Gh} {w v:World} (h:Vt γ w v) {b:Nat} (hb:Boxed v b):γ.ow b:=by
 obtain ⟨c,e,lo,h1,h2⟩:=hb
 have hlt:b<w.heap.size:=by rw [←h.size];exact lt_of_get h2
 by_cases q:γ.ow b
 ·exact q
 ·exfalso
  by_cases r:γ.fz b
  ·obtain ⟨c',e',fr,_,s⟩:=h.shared b r
   rw [h2] at s
   simp only [Option.some.injEq,Obj.cells.injEq,Prod.mk.injEq] at s
   obtain ⟨rfl,_,rfl,q⟩:=s
   omega
  ·have s:=h.other b hlt q r
   rw [h2] at s
   simp only [poison,Option.some.injEq,Obj.cells.injEq] at s
   obtain ⟨rfl,_⟩:=s
   simp at h1
theorem Vt.marked {γ:Gh} {w v:World} (h:Vt γ w v) {b:Nat} {c:Array Value} {e:TypeId} (hb:v.heap[b]?=some (.cells c e (0,c.size))) (hc:0<c.size):(γ.ow b∨γ.fz b)∧ ∃fr,w.heap[b]?=some (.cells c e fr):=by
 have hlt:b<w.heap.size:=by rw [←h.size];exact lt_of_get hb
 by_cases q:γ.ow b
 ·exact ⟨.inl q,_,by rw [←(h.own b q).2.2.1];exact hb⟩
 ·by_cases r:γ.fz b
  ·obtain ⟨c',e',fr,s1,s⟩:=h.shared b r
   rw [hb] at s;cases s
   exact ⟨.inr r,fr,s1⟩
  ·have s:=h.other b hlt q r
   rw [hb] at s
   simp only [poison,Option.some.injEq,Obj.cells.injEq] at s
   obtain ⟨rfl,_⟩:=s
   simp at hc
theorem Sep.spawn {M:Mp} {N sz:Nat} {γ γ':Nat→Gh} (h:Sep M N sz γ) (h0:0<N) {B:Nat→Prop} (hB: ∀b,B b→(γ 0).ow b) (e0:γ' 0=⟨fun b=>(γ 0).ow b∧ ¬B b,fun b=>(γ 0).fz b∨B b⟩)
  (eN:γ' N=⟨fun _=>False,fun b=>(γ 0).fz b∨B b⟩) (ek: ∀k,k≠0→k≠N→γ' k=γ k):Sep M (N+1) sz γ':=by
 have ow: ∀k b,k<N+1→(γ' k).ow b→k<N∧(γ k).ow b∧ ¬(k=0∧B b):=fun k b hk hb=>by
  by_cases a:k=0
  ·subst a;rw [e0] at hb;exact ⟨h0,hb.1,fun q=>hb.2 q.2⟩
  ·by_cases a':k=N
   ·subst a';rw [eN] at hb;exact hb.elim
   ·rw [ek k a a'] at hb;exact ⟨by omega,hb,fun q=>a q.1⟩
 have fz: ∀k b,k<N+1→(γ' k).fz b→(∃j,j<N∧(γ j).fz b)∨(B b∧(k=0∨k=N)):=fun k b hk hb=>by
  by_cases a:k=0
  ·subst a;rw [e0] at hb;exact hb.elim (fun q=>.inl ⟨0,h0,q⟩) fun q=>.inr ⟨q,.inl rfl⟩
  ·by_cases a':k=N
   ·subst a';rw [eN] at hb;exact hb.elim (fun q=>.inl ⟨0,h0,q⟩) fun q=>.inr ⟨q,.inr rfl⟩
   ·rw [ek k a a'] at hb;exact .inl ⟨k,by omega,hb⟩
 refine ⟨fun k b hk hb=>h.lt k b (ow k b hk hb).1 (ow k b hk hb).2.1,fun k b hk hb=>?_,fun i k b hi hk hne hb hb'=>h.ap i k b (ow i b hi hb).1 (ow k b hk hb').1 hne (ow i b hi hb).2.1 (ow k b hk hb').2.1,fun i k b hi hk hb hf=>?_,fun k b hk hb=>?_,h.wlt,h.clt⟩
 ·rcases fz k b hk hb with ⟨j,hj,q⟩ | ⟨q,_⟩
  ·exact h.flt j b hj q
  ·exact h.lt 0 b h0 (hB b q)
 ·obtain ⟨a1,a2,a3⟩:=ow i b hi hb
  rcases fz k b hk hf with ⟨j,hj,q⟩ | ⟨q,_⟩
  ·exact h.apf i j b a1 hj a2 q
  ·by_cases e:i=0
   ·exact a3 ⟨e,q⟩
   ·exact h.ap i 0 b a1 h0 e a2 (hB b q)
 ·rcases hb with hb | hb
  ·exact h.nw k b (ow k b hk hb).1 (.inl (ow k b hk hb).2.1)
  ·rcases fz k b hk hb with ⟨j,hj,q⟩ | ⟨q,_⟩
   ·exact h.nw j b hj (.inr q)
   ·exact h.nw 0 b h0 (.inl (hB b q))
section
variable {M : Mp} {W : World} {gs gs' : Array Goroutine} {w w' : World} {X : Nat → GS} {ph : Nat → Ph} {x sm : Int} {cl : Bool} {r0 : Nat} {t : Trace}
theorem Inv.spawn (h:Inv M W gs w X ph x sm cl r0 t) (hw:M.Wf) {g:Goroutine} (hi:gs[0]?=some g) (sl:Option (Nat×Nat)) {v:World} {pc pm:Ph} (hst:M.GoAt (M.stop gs.size pc) (M.stop 0 pm) g v) (hv:Vt (X 0).γ w v)
  (hpr:Prot M.n (gs.size+1) (upd (upd ph gs.size pc) 0 pm) x sm cl) (hac:isAct pc=true) (ham:isAct pm=true) (hdc:dOf pc=0) (hdm:dOf pm=0) (hfm:pm≠ .fin)
  (hpreN:gs.size≤M.n∧code pc=1∨gs.size=M.n+1) (hy:young (ph 0)=true) (hd0:(X 0).d=0) (hstage:stage M.n pm+stage M.n pc<stage M.n (ph 0)):M.Nx W gs w X ph t sl 0:=by
 have h00:0<gs.size:=lts hi
 obtain ⟨hrun,B0,g',ch,hB0,hs,hchr,hn,hc⟩:=hst
 let B:Nat→Prop:=fun b=>(X 0).γ.ow b∧(B0 b∨Marked v b)
 have hB: ∀b,B b→(X 0).γ.ow b:=fun b q=>q.1
 have hBc: ∀b,B b→ ∃c e fr,v.heap[b]?=some (.cells c e fr)∧(Marked v b∨B0 b):=fun b q=>by
  rcases q.2 with q | q
  ·obtain ⟨c,e,lo,_,r⟩:=hB0 b q;exact ⟨c,e,_,r,.inr q⟩
  ·obtain ⟨c,e,r⟩:=q;exact ⟨c,e,_,r,.inl ⟨c,e,r⟩⟩
 let γm:Gh:=⟨fun b=>(X 0).γ.ow b∧ ¬B b,fun b=>(X 0).γ.fz b∨B b⟩
 let γc:Gh:=⟨fun _=>False,fun b=>(X 0).γ.fz b∨B b⟩
 have hfz: ∀b,(X 0).γ.fz b∨B b→ ∃c e fr,w.heap[b]?=some (.cells c e fr):=fun b q=>by
  rcases q with q | q
  ·obtain ⟨c,e,fr,r,_⟩:=hv.shared b q;exact ⟨c,e,fr,r⟩
  ·obtain ⟨c,e,fr,r,_⟩:=hBc b q
   exact ⟨c,e,fr,by rw [←(hv.own b q.1).2.2.1];exact r⟩
 have hvm:Vt γm w (viewOf γm w):=viewOf_vt (fun b hb=>by
  obtain ⟨q1,q2,_,q4⟩:=hv.own b hb.1
  exact ⟨q1,fun q=>q.elim q2 hb.2,q4⟩) hfz
 have hvc:Vt γc w (viewOf γc w):=viewOf_vt (fun b hb=>hb.elim) hfz
 have hrm:Remark B0 v (viewOf γm w):=by
  refine ⟨by rw [hvm.size,hv.size],fun b hb=>?_,fun b hb=>?_,by rw [hvm.os,hv.os],by rw [hvm.output,hv.output],by rw [hvm.tape,hv.tape]⟩
  ·by_cases q:B b
   ·obtain ⟨c,e,r⟩:=q.2.elim (fun a=>(hb a).elim) id
    obtain ⟨c',e',fr',s1,s2⟩:=hvm.shared b (.inr q)
    rw [←(hv.own b q.1).2.2.1,r] at s1
    cases s1
    rw [s2,r]
   ·exact hv.same hvm ⟨fun a=>a.1,fun a=>⟨a,q⟩⟩ ⟨fun a=>a.elim id fun a=>(q a).elim,.inl⟩
  ·have hob:(X 0).γ.ow b:=hv.boxed (hB0 b hb)
   obtain ⟨c,e,lo,_,r⟩:=hB0 b hb
   refine ⟨c,e,_,r,?_⟩
   obtain ⟨c',e',fr',s1,s2⟩:=hvm.shared b (.inr ⟨hob,.inl hb⟩)
   rw [←(hv.own b hob).2.2.1,r] at s1
   cases s1
   exact s2
 have hcv:Childv B0 v (viewOf γc w):=by
  refine ⟨by rw [hvc.size,hv.size],fun b o y hb hy=>?_⟩
  have hf:(X 0).γ.fz b∨B b:=by
   rcases hb with hb | hb
   ·exact .inr ⟨hv.boxed (hB0 b hb),.inl hb⟩
   ·obtain ⟨c,e,r⟩:=id hb
    have hcs:0<c.size:=by
     unfold World.cell? at hy
     simp only [r] at hy
     simp at hy
     have:=(Array.getElem?_eq_some_iff.1 hy).1
     omega
    rcases (hv.marked r hcs).1 with q | q
    ·exact .inr ⟨q,.inr hb⟩
    ·exact .inl q
  obtain ⟨c,e,fr,s1,s2⟩:=hvc.shared b hf
  obtain ⟨h1,_⟩:=hv.cell hy
  unfold World.cell? at h1 ⊢
  simp only at h1 ⊢
  rw [s1] at h1
  rw [s2];exact h1
 obtain ⟨Tm,hTm⟩:=(hn _ hrm).rank
 obtain ⟨Tc,hTc⟩:=(hc _ hcv).rank
 have hsp:stepG M.P (0 == 0) g w= .spawn g' ch w #[]:=hs w h.live
 have hrT:=runT_crowd_spawn (P:=M.P) (sl:=sl) hi hsp
 let X':Nat→GS:=upd (upd X gs.size ⟨γc,Tc,0⟩) 0 ⟨γm,Tm,0⟩
 let ph':Nat→Ph:=upd (upd ph gs.size pc) 0 pm
 have X0:X' 0=⟨γm,Tm,0⟩:=upd_self
 have XN:X' gs.size=⟨γc,Tc,0⟩:=by show upd (upd X _ _) 0 _ _=_;rw [upd_ne (by omega),upd_self]
 have Xk: ∀k,k≠0→k≠gs.size→X' k=X k:=fun k a b=>by show upd (upd X _ _) 0 _ k=_;rw [upd_ne a,upd_ne b]
 have P0:ph' 0=pm:=upd_self
 have PN:ph' gs.size=pc:=by show upd (upd ph _ _) 0 _ _=_;rw [upd_ne (by omega),upd_self]
 have Pk: ∀k,k≠0→k≠gs.size→ph' k=ph k:=fun k a b=>by show upd (upd ph _ _) 0 _ k=_;rw [upd_ne a,upd_ne b]
 have hz:((gs.setIfInBounds 0 g').push ch).size=gs.size+1:=by simp
 have get: ∀k y,((gs.setIfInBounds 0 g').push ch)[k]?=some y→(k=0∧y=g')∨(k=gs.size∧y=ch)∨(k≠0∧k≠gs.size∧gs[k]?=some y):=fun k y hy=>by
  rw [Array.getElem?_push] at hy
  split at hy
  ·rename_i e;cases hy;exact .inr (.inl ⟨by simpa using e,rfl⟩)
  ·rename_i e
   by_cases a:0=k
   ·subst a
    rw [Array.getElem?_setIfInBounds_self_of_lt h00] at hy
    exact .inl ⟨rfl,(Option.some.inj hy).symm⟩
   ·rw [Array.getElem?_setIfInBounds_ne a] at hy
    exact .inr (.inr ⟨fun q=>a q.symm,by simpa using e,hy⟩)
 have eγ:(fun k=>(X' k).γ)=fun k=>if k=0 then γm else if k=gs.size then γc else (X k).γ:=by
  funext k
  by_cases a:k=0
  ·subst a;rw [if_pos rfl,X0]
  ·rw [if_neg a]
   by_cases a':k=gs.size
   ·rw [if_pos a',a',XN]
   ·rw [if_neg a',Xk k a a']
 have ed:(fun k=>(X' k).d)=fun k=>if k=gs.size then 0 else (X k).d:=by
  funext k
  by_cases a:k=0
  ·subst a;rw [X0,if_neg (by omega),hd0]
  ·by_cases a':k=gs.size
   ·rw [if_pos a',a',XN]
   ·rw [if_neg a',Xk k a a']
 obtain ⟨_,hsm,_⟩:=h.pr.ysit h00 hy
 obtain ⟨_,hcl,_⟩:=h.pr.rX.start hy
 have hu:((MemOp.ofEvents 0 g.frame.fn g.frame.place #[]).push {g:=0,fn:=g.frame.fn,pos:=g.frame.place,act:= .go gs.size}).push {g:=gs.size,fn:=ch.frame.fn,pos:=g.frame.place,act:= .start}=(#[{g:=0,fn:=g.frame.fn,pos:=g.frame.place,act:= .go gs.size},{g:=gs.size,fn:=ch.frame.fn,pos:=g.frame.place,act:= .start}]:Trace):=rfl
 rw [hu] at hrT
 refine ⟨_,w,X',ph',x,sm,cl,r0,sl,_,hrT,⟨fun k y hy=>?_,by rw [hz];exact h.sep.spawn h00 hB (by show (X' 0).γ=_;rw [X0]) (by show (X' gs.size).γ=_;rw [XN]) (fun k a b=>by show (X' k).γ=_;rw [Xk k a b]),?_,fun k hk hq=>?_,fun k b hk hb=>?_,h.wg,h.ch,h.old,⟨h.olt.1,h.olt.2.1,h.olt.2.2.1,fun k b hk hb=>?_⟩,h.out,by rw [hz];exact hpr,fun q=>by omega,fun q=>by rw [hcl] at q;cases q⟩,.inl ?_⟩
 ·rcases get k y hy with ⟨rfl,rfl⟩ | ⟨rfl,rfl⟩ | ⟨a,b,c⟩
  ·rw [P0,X0]
   exact ⟨_,by rw [gok_act ham];exact ⟨hTm,hvm⟩⟩
  ·rw [PN,XN]
   have:M.cx gs.size=M.cw:=by
    have:(gs.size == 0)=false:=beq_eq_false_iff_ne.2 (by omega)
    simp only [Mp.cx,Mp.cw,this]
   exact ⟨_,by rw [gok_act hac];exact ⟨by rw [this];exact hTc,hvc⟩⟩
  ·rw [Pk k a b,Xk k a b]
   exact h.ok k y c
 ·rw [hz,eγ,ed]
  refine (h.ti.spawn h00 hd0 hB).mono fun k hk=>?_
  rcases hk with rfl | ⟨a,b⟩ | ⟨a,b⟩
  ·rcases hpreN with ⟨a,b⟩ | a
   ·exact .inl ⟨a,.inl (by rw [PN];exact b)⟩
   ·exact .inr ⟨a,by rw [P0];exact hfm⟩
  ·by_cases e:k=0
   ·subst e
    rw [code_roleM h.pr.main] at b;omega
   ·by_cases e':k=gs.size
    ·subst e'
     rcases hpreN with ⟨c,d⟩ | c
     ·exact .inl ⟨a,.inl (by rw [PN];exact d)⟩
     ·omega
    ·exact .inl ⟨a,by rw [Pk k e e'];exact b⟩
  ·exact .inr ⟨a,by rw [P0];exact hfm⟩
 ·rw [hz] at hk
  by_cases e:k=0
  ·subst e;rw [X0,P0];exact hdm.symm
  ·by_cases e':k=gs.size
   ·subst e';rw [XN,PN];exact hdc.symm
   ·rw [Pk k e e'] at hq ⊢
    rw [Xk k e e']
    exact h.dd k (by omega) hq
 ·rw [hz] at hk
  rw [X0]
  by_cases e:k=0
  ·subst e;rw [X0] at hb;exact hb
  ·by_cases e':k=gs.size
   ·subst e';rw [XN] at hb;exact hb
   ·rw [Xk k e e'] at hb
    exact .inl (h.fzs k b (by omega) hb)
 ·rw [hz] at hk
  by_cases e:k=0
  ·subst e;rw [X0] at hb;exact h.olt.2.2.2 0 b h00 hb.1
  ·by_cases e':k=gs.size
   ·subst e';rw [XN] at hb;exact hb.elim
   ·rw [Xk k e e'] at hb
    exact h.olt.2.2.2 k b (by omega) hb
 ·have s2:=stages (n:=M.n) (ph:=upd ph gs.size pc) (p':=pm) (i:=0) (N:=gs.size+1) (by omega)
  have s1:=stages (n:=M.n) (ph:=ph) (p':=pc) (i:=gs.size) (N:=gs.size+1) (by omega)
  have s3:((List.range (gs.size+1)).map fun k=>stage M.n (ph k)).sum=((List.range gs.size).map fun k=>stage M.n (ph k)).sum+stage M.n (ph gs.size):=by
   rw [List.range_succ,List.map_append,List.sum_append];simp
  rw [upd_ne (by omega)] at s2
  simp only [Mp.mu,hz]
  show ((List.range (gs.size+1)).map fun k=>stage M.n (upd (upd ph gs.size pc) 0 pm k)).sum<_
  omega
end
end Go.Vk
end
section
namespace Go.Vk
open Go.Conc Go.Conc.Lib
open Go.ConcR (KK wgBlock WgAt stA smA rd wr)
open Go.ConcN (WgLive)
theorem code_wp {p:Ph} (h:code p=2):p= .wp:=by cases p<;>simp [code] at h ⊢
theorem parked_inj {g g0:Goroutine} {cs cs':Array CommCase} {sh sh':CommShape} (h:parked g cs sh=parked g0 cs' sh'):cs=cs'∧sh=sh'∧ ∀v,Go.Conc.served g v=Go.Conc.served g0 v:=by
 have ho:(parked g cs sh).offers=(parked g0 cs' sh').offers:=by rw [h]
 simp only [parked,Option.some.injEq,Prod.mk.injEq] at ho
 refine ⟨ho.1,ho.2,fun v=>?_⟩
 have:({parked g cs sh with frame:=g.frame.finish v,status:= .running,offers:=none}:Goroutine)={parked g0 cs' sh' with frame:=g0.frame.finish v,status:= .running,offers:=none}:=by
  have hf:g.frame=g0.frame:=by
   have:(parked g cs sh).frame=(parked g0 cs' sh').frame:=by rw [h]
   exact this
  rw [h,hf]
 exact this
section
variable {M : Mp} {W : World} {gs gs' : Array Goroutine} {w w' : World} {X : Nat → GS} {ph : Nat → Ph} {x sm : Int} {cl : Bool} {r0 : Nat} {t : Trace}
theorem Inv.sender (h:Inv M W gs w X ph x sm cl r0 t) {k:Nat} {y:Goroutine} (hk:gs[k]?=some y) (hne:offersAt y M.c true≠[]):
  ph k= .wp∧ ∃g0 val z v,y=parked g0 #[scase M.c val z] .send∧M.Ok k val v∧Vt (X k).γ w v∧M.Qs M.W2 (Go.Conc.served g0 undef):=by
 obtain ⟨v,hv⟩:=h.ok k y hk
 rcases gok_status hv with e | ⟨e,q⟩ | ⟨e,_⟩
 ·exact (hne (offersAt_of_not_blocked (by rw [e];simp) _ _)).elim
 ·rcases q with q | q | ⟨r,Y,q⟩<;>rw [q] at hv
  ·obtain ⟨g0,val,z,rfl,a,b,c⟩:=hv
   exact ⟨q,g0,val,z,v,rfl,a,b,c⟩
  ·obtain ⟨g0,c1,c2,_⟩:=hv
   exfalso
   rcases c1 with rfl | rfl
   ·have:=c2.1;rw [e] at this;cases this
   ·exact hne (by simp only [offersAt];rw [c2.2.1])
  ·obtain ⟨g0,z,rfl,_⟩:=hv
   exact (hne (offersAt_parked_recv' _ _ _ _ _)).elim
 ·exact (hne (offersAt_of_not_blocked (by rw [e];simp) _ _)).elim
theorem Inv.receiver (h:Inv M W gs w X ph x sm cl r0 t) {k:Nat} {y:Goroutine} (hk:gs[k]?=some y) (hne:offersAt y M.c false≠[]):
  ∃r Y,ph k= .rp r Y∧ ∃g0 z v,y=parked g0 #[rcase M.c z] (.recv true)∧Vt (X k).γ w v∧M.RecvAt z g0∧M.RK r Y z g0 v:=by
 obtain ⟨v,hv⟩:=h.ok k y hk
 rcases gok_status hv with e | ⟨e,q⟩ | ⟨e,_⟩
 ·exact (hne (offersAt_of_not_blocked (by rw [e];simp) _ _)).elim
 ·rcases q with q | q | ⟨r,Y,q⟩<;>rw [q] at hv
  ·obtain ⟨g0,val,z,rfl,a,b,c⟩:=hv
   exact (hne (offersAt_parked_send' _ _ _ _ _ _)).elim
  ·obtain ⟨g0,c1,c2,_⟩:=hv
   exfalso
   rcases c1 with rfl | rfl
   ·have:=c2.1;rw [e] at this;cases this
   ·exact hne (by simp only [offersAt];rw [c2.2.1])
  ·obtain ⟨g0,z,rfl,a,b,c⟩:=hv
   exact ⟨r,Y,q,g0,z,v,rfl,a,b,c⟩
 ·exact (hne (offersAt_of_not_blocked (by rw [e];simp) _ _)).elim
theorem Inv.swap (h:Inv M W gs w X ph x sm cl r0 t) {i:Nat} (hi:i<gs.size) {g':Goroutine} {p':Ph} {T':Tr} {t':Trace} (hg: ∃v,M.GOk i p' ⟨(X i).γ,T',(X i).d⟩ v g' w) (hd:quits p'=false→(X i).d=dOf p') (hpr:Prot M.n gs.size (upd ph i p') x sm cl)
  (hti:TI M gs.size w.heap.size (fun k=>(X k).γ) (fun k=>(X k).d) (M.pre (upd ph i p')) t') (hclo:cl=true→ClosedAt M t') (hcs:i=M.n+1→p'≠ .cs):Inv M W (gs.setIfInBounds i g') w (upd X i ⟨(X i).γ,T',(X i).d⟩) (upd ph i p') x sm cl r0 t':=by
 have hsz:(gs.setIfInBounds i g').size=gs.size:=by simp
 have get: ∀k y,(gs.setIfInBounds i g')[k]?=some y→(k=i∧y=g')∨(k≠i∧gs[k]?=some y):=fun k y hy=>by
  by_cases e:i=k
  ·subst e
   rw [Array.getElem?_setIfInBounds_self_of_lt hi] at hy
   exact .inl ⟨rfl,(Option.some.inj hy).symm⟩
  ·rw [Array.getElem?_setIfInBounds_ne e] at hy
   exact .inr ⟨fun q=>e q.symm,hy⟩
 have eγ: ∀k,(upd X i ⟨(X i).γ,T',(X i).d⟩ k).γ=(X k).γ:=fun k=>by
  by_cases e:k=i
  ·subst e;rw [upd_self]
  ·rw [upd_ne e]
 have eγ':(fun k=>(upd X i ⟨(X i).γ,T',(X i).d⟩ k).γ)=fun k=>(X k).γ:=funext eγ
 have ed:(fun k=>(upd X i ⟨(X i).γ,T',(X i).d⟩ k).d)=fun k=>(X k).d:=funext fun k=>by
  by_cases e:k=i
  ·subst e;rw [upd_self]
  ·rw [upd_ne e]
 refine ⟨fun k y hy=>?_,by rw [hsz,eγ'];exact h.sep,by rw [hsz,eγ',ed];exact hti,fun k hk hq=>?_,fun k b hk hb=>?_,h.wg,h.ch,h.old,⟨h.olt.1,h.olt.2.1,h.olt.2.2.1,fun k b hk hb=>?_⟩,h.out,by rw [hsz];exact hpr,fun e y hy hp=>?_,hclo⟩
 ·rcases get k y hy with ⟨rfl,rfl⟩ | ⟨a,b⟩
  ·rw [upd_self,upd_self];exact hg
  ·rw [upd_ne a,upd_ne a];exact h.ok k y b
 ·rw [hsz] at hk
  by_cases e:k=i
  ·subst e;rw [upd_self] at hq ⊢;rw [upd_self];exact hd hq
  ·rw [upd_ne e] at hq ⊢;rw [upd_ne e];exact h.dd k hk hq
 ·rw [hsz] at hk;rw [eγ] at hb ⊢;exact h.fzs k b hk hb
 ·rw [hsz] at hk;rw [eγ] at hb;exact h.olt.2.2.2 k b hk hb
 ·rcases get _ y hy with ⟨e1,rfl⟩ | ⟨a,b⟩
  ·rw [e1,upd_self] at hp;exact (hcs e1.symm hp).elim
  ·rw [upd_ne a] at hp;exact h.rel e y b hp
theorem Inv.noSend (h:Inv M W gs w X ph x sm cl r0 t) {i:Nat} (hn: ∀k,k<gs.size→ph k≠ .wp):partners (gs.setIfInBounds i Go.Conc.ph) M.c true=[]:=
 partners_nil fun k y hk=>by
  rcases getElem?_stand gs i k y hk with ⟨_,e⟩ | ⟨_,e⟩
  ·rw [e];exact offersAt_ph _ _
  ·cases q:offersAt y M.c true with
   | nil=>rfl
   | cons a l=>exact (hn k (lts e) (h.sender e (by rw [q];simp)).1).elim
theorem Inv.noRecv (h:Inv M W gs w X ph x sm cl r0 t) {i:Nat} (hn: ∀k r Y,k<gs.size→ph k≠ .rp r Y):partners (gs.setIfInBounds i Go.Conc.ph) M.c false=[]:=
 partners_nil fun k y hk=>by
  rcases getElem?_stand gs i k y hk with ⟨_,e⟩ | ⟨_,e⟩
  ·rw [e];exact offersAt_ph _ _
  ·cases q:offersAt y M.c false with
   | nil=>rfl
   | cons a l=>obtain ⟨r,Y,e',_⟩:=h.receiver e (by rw [q];simp);exact (hn k r Y (lts e) e').elim
theorem Inv.role (h:Inv M W gs w X ph x sm cl r0 t) {k:Nat} (hk:k<gs.size):(1≤code (ph k)→1≤k∧k≤M.n)∧(roleM (ph k)=true→k=0):=by
 have hn:=h.size
 refine ⟨fun q=>?_,fun q=>?_⟩
 ·have h0:k≠0:=fun e=>by subst e;rw [code_roleM h.pr.main] at q;omega
  have h1:k≠M.n+1:=fun e=>by subst e;rw [code_roleC (h.pr.clr hk)] at q;omega
  omega
 ·rcases Nat.eq_zero_or_pos k with e | e
  ·exact e
  ·rcases Nat.lt_or_ge M.n k with a | a
   ·have:k=M.n+1:=by omega
    subst this
    have:=h.pr.clr hk
    revert this q
    cases ph (M.n+1)<;>simp [roleM,roleC]
   ·have:=h.pr.wk k e a hk
    rw [code_roleM q] at this;omega
theorem Inv.heard (h:Inv M W gs w X ph x sm cl r0 t) (hw:M.Wf) {g g0:Goroutine} (hi:gs[0]?=some g) (sl:Option (Nat×Nat)) {z:Value} {Y:Nat→Prop} {v:World} (hs:stepG M.P (0 == 0) g w= .comm g0 #[rcase M.c z] true (.recv true) w #[]) (hv:Vt (X 0).γ w v)
  (hrk:M.RK 0 Y z g0 v) (hcl:cl=true) (hp:ph 0= .rv 0 Y∨ph 0= .rw):M.Nx W gs w X ph t sl 0:=by
 have h00:=lts hi
 subst hcl
 obtain ⟨n12,_,_,hN⟩:=h.pr.shutNone rfl
 have hnp:partners (gs.setIfInBounds 0 Go.Conc.ph) M.c true=[]:=h.noSend fun k hk e=>num_zero (ph:=ph) (N:=gs.size) (p:=2) (by omega) hk (by rw [e];rfl)
 have hr:=crowd_recv_closed (P:=M.P) (sl:=sl) hi hs h.ch hnp
 rw [ofEvents_none,Array.empty_append] at hr
 obtain ⟨T,hT⟩:=(hrk v .refl).rank
 have hd0:(X 0).d=0:=by
  rw [h.dd 0 h00 (by rcases hp with e | e<;>rw [e]<;>rfl)]
  rcases hp with e | e<;>rw [e]<;>rfl
 have hpr:Prot M.n gs.size (upd ph 0 .fin) x sm true:=h.pr.late h00 (by rcases hp with e | e<;>rw [e]<;>rfl) rfl rfl ⟨fun e=>(by cases e),fun r X e=>(by cases e),fun r X e=>(by cases e),fun e=>(by cases e),fun _=>⟨n12,rfl⟩⟩
 have hclo:=h.clo rfl
 have hti:=(h.ti.shut h00 hd0 hclo (fn:=g0.frame.fn) (pos:=g0.frame.place)).mono (pre':=M.pre (upd ph 0 .fin)) fun k ⟨a,b⟩=>by
  rcases b with ⟨b,c⟩ | ⟨b,_⟩
  ·refine .inl ⟨b,?_⟩
   have:k≠0:=fun e=>by subst e;rw [code_roleM h.pr.main] at c;omega
   rw [upd_ne this];exact c
  ·exact (a b).elim
 refine ⟨_,_,_,_,_,_,_,_,_,_,hr,h.swap h00 (p':= .fin) (T':=T) ⟨v,hT,hv⟩ (fun _=>hd0) hpr hti (fun _=>hclo.app fun j zz hz hj hg hc=>?_) (fun e=>by omega),mu_stage h00 (by simp) ?_⟩
 ·rcases get_app hz with ⟨q,_⟩ | ⟨_,q⟩
  ·omega
  ·simp at q;rw [q] at hg;simp at hg
 ·rcases hp with e | e<;>rw [e]<;>simp [stage]
theorem Inv.recv (h:Inv M W gs w X ph x sm cl r0 t) (hw:M.Wf) {g:Goroutine} (hi:gs[0]?=some g) (sl:Option (Nat×Nat)) {r:Nat} {Y:Nat→Prop} (hp:ph 0= .rv r Y):M.Nx W gs w X ph t sl 0:=by
 have h00:=lts hi
 rcases h.act hw hi sl (by rw [hp];rfl) with q | ⟨v,hv,hL⟩
 ·exact q
 have hst:=hL v .refl
 rw [hp] at hst
 obtain ⟨z,⟨hrun,hoff,hs⟩,hrk⟩:=M.R_iff.1 hst
 have hs':stepG M.P (0 == 0) g w= .comm g #[rcase M.c z] true (.recv true) w #[]:=hs w h.live
 obtain ⟨hr1,hr2⟩:=h.pr.rX.rv r Y hp
 have hfin:ph 0≠ .fin:=by rw [hp];simp
 by_cases hwp: ∃k,k<gs.size∧ph k= .wp
 ·obtain ⟨k,hk,hkp⟩:=hwp
  have hne:partners (gs.setIfInBounds 0 Go.Conc.ph) M.c true≠[]:=fun e=>by
   obtain ⟨y,hy⟩: ∃y,gs[k]?=some y:=⟨_,Array.getElem?_eq_getElem hk⟩
   obtain ⟨v',hv'⟩:=h.ok k y hy
   rw [hkp] at hv'
   obtain ⟨g0,val,z',rfl,_⟩:=hv'
   have hk0:k≠0:=fun e=>by subst e;rw [hp] at hkp;cases hkp
   have:(k,0)∈partners (gs.setIfInBounds 0 Go.Conc.ph) M.c true:=mem_partners.2 ⟨_,stand_get hk0 hy,by rw [offersAt_parked_send,if_pos rfl];simp⟩
   rw [e] at this;cases this
  obtain ⟨j,gj,vj,zj,shj,d,hj0,hgj,hrT⟩:=crowd_recv_meets_some (P:=M.P) (sl:=sl) hi hs' h.ch hne (fun j k hjk=>by
   obtain ⟨y,hy,hky⟩:=mem_partners.1 hjk
   rcases getElem?_stand gs 0 j y hy with ⟨_,e⟩ | ⟨hj,e⟩
   ·rw [e,offersAt_ph] at hky;cases hky
   ·obtain ⟨_,g0,val,z',v',rfl,_⟩:=h.sender e (fun q=>by rw [q] at hky;cases hky)
    rw [offersAt_parked_send,if_pos rfl] at hky
    exact ⟨by simpa using hky,hj,g0,val,z',_,e⟩)
  have hjN:=lts hgj
  obtain ⟨hjp,g0,val,z',vk,e,hok,hvk,hqs⟩:=h.sender hgj (by rw [offersAt_parked_send,if_pos rfl];simp)
  obtain ⟨e1,e2,e3⟩:=parked_inj e
  have e4:vj=val:=by
   have:(#[scase M.c vj zj]:Array CommCase)[0]?=(#[scase M.c val z']:Array CommCase)[0]?:=by rw [e1]
   simp [scase] at this
   exact this.1
  subst e4
  subst e2
  obtain ⟨hj1,hjn⟩:=(h.role hjN).1 (by rw [hjp];decide)
  have hn2:1≤num ph gs.size 2:=num_ge hjN (by rw [hjp];rfl)
  cases r with
  | zero=>omega
  | succ r=>
   rw [ofEvents_none,Array.empty_append,finishComm_send,finishComm_recv,e3] at hrT
   have hcl:cl=false:=h.open hjN (.inl hjp)
   subst hcl
   obtain ⟨X',ph',hI,hmu⟩:=h.hand hw (f1:=gj.frame.fn) (p1:=gj.frame.place) (f2:=g.frame.fn) (p2:=g.frame.place) (gs':=((gs.setIfInBounds j (Go.Conc.served g0 undef)).setIfInBounds 0 (Go.Conc.served g (recvd true vj true)))) hj1 hjn hjN (.inr hjp) (.inl hp) hrk hv hok hvk hqs (by simp) (by rw [Array.getElem?_setIfInBounds_self_of_lt (by simpa using h00)];rfl)
    (by rw [Array.getElem?_setIfInBounds_ne (by omega),Array.getElem?_setIfInBounds_self_of_lt hjN]) (fun k y a b hy=>by rwa [Array.getElem?_setIfInBounds_ne (fun q=>a q.symm),Array.getElem?_setIfInBounds_ne (fun q=>b q.symm)] at hy) (d:=d)
    (w':=(w.at d).setChan M.c 0 #[] false (r0+1) (r0+1) false) rfl
   exact ⟨_,_,X',ph',x,sm,false,_,_,_,hrT,hI,hmu⟩
 ·have hnw: ∀k,k<gs.size→ph k≠ .wp:=fun k hk e=>hwp ⟨k,hk,e⟩
  have hn2:num ph gs.size 2=0:=Nat.eq_zero_of_not_pos fun q=>by
   obtain ⟨k,hk,e⟩:=num_pos q
   exact hnw k hk (code_wp e)
  cases hcl:cl with
  | true=>
   obtain ⟨n12,_⟩:=h.pr.shutNone hcl
   have:r=0:=by omega
   subst this
   exact h.heard hw hi sl hs' hv hrk hcl (.inl hp)
  | false=>
   subst hcl
   have hnp:=h.noSend (i:=0) hnw
   have hrT:=crowd_waits (P:=M.P) (sl:=sl) hi hs' (fun cc hcc=>by simp at hcc;subst hcc;exact ways_recv_none h.ch hnp)
   rw [ofEvents_none] at hrT
   have hpr:Prot M.n gs.size (upd ph 0 (.rp r Y)) x sm false:=h.pr.late h00 (by rw [hp];rfl) rfl rfl ⟨fun e=>(by cases e),fun r X e=>(by cases e),fun r' X e=>(by cases e;exact ⟨hr1,hn2,rfl,hr2⟩),fun e=>(by cases e),fun e=>(by cases e)⟩
   refine ⟨_,_,_,_,_,_,_,_,_,_,hrT,h.swap h00 (p':= .rp r Y) (T':= .leaf) ⟨v,g,z,rfl,hv,⟨hrun,hoff,hs⟩,hrk⟩ (fun _=>by rw [h.dd 0 h00 (by rw [hp];rfl),hp];rfl) hpr (by rw [Array.append_empty];exact h.ti.mono (pre_same (fun q=>by rw [hp] at q;simp [code] at q) fun _=>by simp)) (fun q=>by cases q) (fun e=>by omega),mu_stage h00 (by simp) (by rw [hp];simp [stage])⟩
theorem Inv.send (h:Inv M W gs w X ph x sm cl r0 t) (hw:M.Wf) {j:Nat} {g:Goroutine} (hi:gs[j]?=some g) (sl:Option (Nat×Nat)) (hp:ph j= .w1):M.Nx W gs w X ph t sl j:=by
 have hjN:=lts hi
 have h00:0<gs.size:=by omega
 obtain ⟨hj1,hjn⟩:=(h.role hjN).1 (by rw [hp];decide)
 have hj0:(j == 0)=false:=beq_eq_false_iff_ne.2 (by omega)
 rcases h.act hw hi sl (by rw [hp];rfl) with q | ⟨v,hv,hL⟩
 ·exact q
 have hst:=hL v .refl
 rw [hp] at hst
 obtain ⟨hrun,hoff,val,z,hok,hs,hqs⟩:=hst
 have hs':stepG M.P (j == 0) g w= .comm g #[scase M.c val z] true .send w #[]:=by rw [hj0];exact hs w h.live
 have hn1:1≤num ph gs.size 1:=num_ge hjN (by rw [hp];rfl)
 have hcl:cl=false:=by
  cases hc:cl with
  | false=>rfl
  | true=>have:=(h.pr.shutNone hc).1;omega
 subst hcl
 by_cases hrp: ∃r Y,ph 0= .rp r Y
 ·obtain ⟨r,Y,hr⟩:=hrp
  obtain ⟨y,hy⟩: ∃y,gs[0]?=some y:=⟨_,Array.getElem?_eq_getElem h00⟩
  obtain ⟨v0,hv0⟩:=h.ok 0 y hy
  rw [hr] at hv0
  obtain ⟨g0,z0,rfl,a1,a2,a3⟩:=hv0
  have hne:partners (gs.setIfInBounds j Go.Conc.ph) M.c false≠[]:=fun e=>by
   have:(0,0)∈partners (gs.setIfInBounds j Go.Conc.ph) M.c false:=mem_partners.2 ⟨_,stand_get (by omega) hy,by rw [offersAt_parked_recv,if_pos rfl];simp⟩
   rw [e] at this;cases this
  obtain ⟨i,gi,zi,shi,d,hij,hgi,hrT⟩:=crowd_send_meets_some (P:=M.P) (sl:=sl) hi hs' h.ch hne (fun i k hik=>by
   obtain ⟨y',hy',hky⟩:=mem_partners.1 hik
   rcases getElem?_stand gs j i y' hy' with ⟨_,e⟩ | ⟨hj,e⟩
   ·rw [e,offersAt_ph] at hky;cases hky
   ·obtain ⟨_,_,_,g1,z1,v1,rfl,_⟩:=h.receiver e (fun q=>by rw [q] at hky;cases hky)
    rw [offersAt_parked_recv,if_pos rfl] at hky
    exact ⟨by simpa using hky,hj,g1,z1,_,e⟩)
  have hi0:i=0:=by
   obtain ⟨r',Y',e,_⟩:=h.receiver hgi (by rw [offersAt_parked_recv,if_pos rfl];simp)
   exact (h.role (lts hgi)).2 (by rw [e];rfl)
  subst hi0
  rw [hy] at hgi
  obtain ⟨e1,e2,e3⟩:=parked_inj (Option.some.inj hgi)
  subst e2
  obtain ⟨r1,r2,_⟩:=h.pr.rX.rp r Y hr
  cases r with
  | zero=>omega
  | succ r=>
   rw [ofEvents_none,Array.empty_append,finishComm_send,finishComm_recv,←e3] at hrT
   have comm:(gs.setIfInBounds 0 (Go.Conc.served g0 (recvd true val true))).setIfInBounds j (Go.Conc.served g undef)=(gs.setIfInBounds j (Go.Conc.served g undef)).setIfInBounds 0 (Go.Conc.served g0 (recvd true val true)):=by
    apply Array.ext_getElem?
    intro k
    by_cases a:0=k
    ·subst a
     rw [Array.getElem?_setIfInBounds_ne (by omega),Array.getElem?_setIfInBounds_self_of_lt h00,Array.getElem?_setIfInBounds_self_of_lt (by simpa using h00)]
    ·by_cases b:j=k
     ·subst b
      rw [Array.getElem?_setIfInBounds_self_of_lt (by simpa using hjN),Array.getElem?_setIfInBounds_ne a,Array.getElem?_setIfInBounds_self_of_lt hjN]
     ·rw [Array.getElem?_setIfInBounds_ne b,Array.getElem?_setIfInBounds_ne a,Array.getElem?_setIfInBounds_ne a,Array.getElem?_setIfInBounds_ne b]
   rw [comm] at hrT
   obtain ⟨X',ph',hI,hmu⟩:=h.hand hw (f1:=g.frame.fn) (p1:=g.frame.place) (f2:=gi.frame.fn) (p2:=gi.frame.place) (gs':=((gs.setIfInBounds j (Go.Conc.served g undef)).setIfInBounds 0 (Go.Conc.served g0 (recvd true val true)))) hj1 hjn hjN (.inl hp) (.inr hr) a3 a1 hok hv hqs (by simp) (by rw [Array.getElem?_setIfInBounds_self_of_lt (by simpa using h00)];rfl)
    (by rw [Array.getElem?_setIfInBounds_ne (by omega),Array.getElem?_setIfInBounds_self_of_lt hjN]) (fun k y a b hy=>by rwa [Array.getElem?_setIfInBounds_ne (fun q=>a q.symm),Array.getElem?_setIfInBounds_ne (fun q=>b q.symm)] at hy) (d:=d)
    (w':=(w.at d).setChan M.c 0 #[] false (r0+1) (r0+1) false) rfl
   exact ⟨_,_,X',ph',x,sm,false,_,_,_,hrT,hI,hmu⟩
 ·have hnp:=h.noRecv (i:=j) fun k r Y hk e=>hrp ⟨r,Y,by
   have:=(h.role hk).2 (by rw [e];rfl)
   rw [←this];exact e⟩
  have hrT:=crowd_waits (P:=M.P) (sl:=sl) hi hs' (fun cc hcc=>by simp at hcc;subst hcc;exact ways_send_none h.ch (Nat.le_refl _) hnp)
  rw [ofEvents_none] at hrT
  refine ⟨_,_,_,_,_,_,_,_,_,_,hrT,h.swap hjN (p':= .wp) (T':= .leaf) ⟨v,g,val,z,rfl,hok,hv,hqs⟩ (fun _=>by rw [h.dd j hjN (by rw [hp];rfl),hp];rfl) (h.pr.wpark hj1 hjn hjN hp fun r Y e=>hrp ⟨r,Y,e⟩) (by rw [Array.append_empty];exact h.ti.mono (pre_same (fun _=>.inr rfl) fun e=>by omega)) (fun q=>by cases q) (fun e=>by omega),mu_stage hjN (by simp) (by rw [hp];simp [stage])⟩
end
end Go.Vk
end
section
namespace Go.Vk
open Go.Conc Go.Conc.Lib
open Go.ConcR (KK wgBlock WgAt stA smA rd wr)
open Go.ConcN (WgLive)
section
variable {M : Mp} {W : World} {gs gs' : Array Goroutine} {w w' : World} {X : Nat → GS} {ph : Nat → Ph} {x sm : Int} {cl : Bool} {r0 : Nat} {t : Trace}
theorem Inv.main (h:Inv M W gs w X ph x sm cl r0 t) (hw:M.Wf) {g:Goroutine} (hi:gs[0]?=some g) (hrun:g.status= .running) (sl:Option (Nat×Nat)) (hne:ph 0≠ .fin):M.Nx W gs w X ph t sl 0:=by
 have hlt:=lts hi
 have hJ:=h.live
 have hr:=h.pr.main
 have pm: ∀p',p'≠ .fin→ ∀k,M.pre ph k→M.pre (upd ph 0 p') k:=fun p' hf=>pre_same (fun q=>by rw [code_roleM hr] at q;omega) fun _=>hf
 have rel0: ∀ {p':Ph} {g':Goroutine},sm=1→(sm=1∧(0=M.n+1→p'= .cs→g'.status= .running))∨(0≠M.n+1∧mayWake M.P g=true∧g'.status= .running):=fun e=>.inl ⟨e,fun q=>by omega⟩
 have act:=fun (ha:isAct (ph 0)=true)=>h.act hw hi sl ha
 obtain ⟨v0,hv0⟩:=h.ok _ g hi
 have mark: ∀ {m:Mark} {p':Ph},isAct (ph 0)=true→isAct p'=true→p'≠ .fin→quits (ph 0)=false→(∀v,M.stop 0 (ph 0) g v→MarkAt M.P true M.I m (fun g'=>Vway M.P M.cm (M.stop 0 p') g' v) g)→
   (∀a,(MemAct.ofEvent (Go.ConcR.mk m)).touch?=some a→TouchOk M gs.size w.heap.size w.heap.size (X 0).γ 0 a)→deafBehind (dOf (ph 0)) #[Go.ConcR.mk m]=dOf p'→Prot M.n gs.size (upd ph 0 p') x sm cl→stage M.n p'<stage M.n (ph 0)→M.Nx W gs w X ph t sl 0:=by
  intro m p' ha ha' hf hq0 hst hto hde hpr hmu
  rcases act ha with q | ⟨v,hv,hL⟩
  ·exact q
  obtain ⟨_,g',hs,hK⟩:=hst v (hL v .refl)
  obtain ⟨T',hg⟩:=mkAct (M:=M) (i:=0) (p':=p') (d:=deafBehind (X 0).d #[Go.ConcR.mk m]) ha' hK hv
  exact h.sp hw hi (hs w hJ) sl .refl (fun e he a ha=>by simp at he;subst he;exact hto a ha) p' T' x sm hg (fun _=>by rw [h.dd _ hlt hq0];exact hde) h.wg hpr rel0 (fun q=>(q rfl).elim) (pm _ hf) (fun _ q=>by omega) (.inl hmu)
 cases hp:ph 0<;>rw [hp] at hr hv0<;>first | (exfalso;revert hr;simp [roleM];done) | skip
 case ms r=>
  cases r with
  | zero=>
   rcases act (by rw [hp];rfl) with q | ⟨v,hv,hL⟩
   ·exact q
   have hst:=hL v .refl
   rw [hp] at hst
   obtain ⟨hpr,hN⟩:=h.pr.cspawn hp
   exact h.spawn hw hi sl (pc:= .c1) (pm:= .rv M.n fun _=>False) hst hv hpr rfl rfl rfl rfl (by simp) (.inr hN) (by rw [hp];rfl) (by rw [h.dd 0 hlt (by rw [hp];rfl),hp];rfl) (by rw [hp];simp [stage]<;>omega)
  | succ r=>
   exact mark (m:= .disable) (p':= .ma r) (by rw [hp];rfl) rfl (by simp) (by rw [hp];rfl) (fun v hs=>by rw [hp] at hs;exact hs) (fun a ha=>by cases ha) (by rw [hp];rfl) (h.pr.ms hlt hp) (by rw [hp];simp [stage]<;>omega)
 case ma r=>
  rcases act (by rw [hp];rfl) with q | ⟨v,hv,hL⟩
  ·exact q
  obtain ⟨p1,p2,p3⟩:=h.pr.ma hlt hp
  have hd:=h.dd _ hlt (by rw [hp];rfl)
  rw [hp] at hd
  obtain ⟨v₁,q1,q2⟩:=h.view hlt hv (w':=w.setCell (stA M.Wg) (.int .u64 (x+KK))) (calm_set rfl)
  have hst:=hL v₁ q2
  rw [hp] at hst
  obtain ⟨_,hst⟩:=hst
  obtain ⟨g',hs,hK⟩:=hst x p1
  have te: ∀e∈ #[rd (stA M.Wg),wr (stA M.Wg)],∀a,(MemAct.ofEvent e).touch?=some a→TouchOk M gs.size w.heap.size w.heap.size (X 0).γ 0 a:=fun e he a ha=>by
   simp at he
   rcases he with rfl | rfl
   ·exact .inr (.inr ⟨.inl (atWg_rd rfl a ha).1,.inl (atWg_rd (M:=M) rfl a ha).2⟩)
   ·exact .inr (.inr ⟨.inl (atWg_wr rfl a ha).1,.inl (atWg_wr (M:=M) rfl a ha).2⟩)
  by_cases hy:x+KK=KK
  ·obtain ⟨T',hg⟩:=mkAct (M:=M) (i:=0) (p':= .mr r) (d:=deafBehind (X 0).d #[rd (stA M.Wg),wr (stA M.Wg)]) rfl (hK.1 hy) q1
   exact h.sp hw hi (hs w sm hJ h.wg) sl (calm_set rfl) te (.mr r) T' (x+KK) sm hg (fun _=>by rw [hd];rfl) (wgAt_st h.wg) p2 rel0 (fun q=>(q rfl).elim) (pm _ (by simp)) (fun _ q=>by omega) (.inl (by rw [hp];simp [stage]))
  ·obtain ⟨T',hg⟩:=mkAct (M:=M) (i:=0) (p':= .me r) (d:=deafBehind (X 0).d #[rd (stA M.Wg),wr (stA M.Wg)]) rfl (hK.2 hy) q1
   exact h.sp hw hi (hs w sm hJ h.wg) sl (calm_set rfl) te (.me r) T' (x+KK) sm hg (fun _=>by rw [hd];rfl) (wgAt_st h.wg) p3 rel0 (fun q=>(q rfl).elim) (pm _ (by simp)) (fun _ q=>by omega) (.inl (by rw [hp];simp [stage]))
 case mr r=>
  exact mark (m:= .read (smA M.Wg)) (p':= .me r) (by rw [hp];rfl) rfl (by simp) (by rw [hp];rfl) (fun v hs=>by rw [hp] at hs;exact hs) (fun a ha=>by
   cases ha
   have hs:=h.pr.sz
   rw [hp] at hs
   obtain ⟨s1,s2⟩:=hs
   exact .inr (.inr ⟨.inl rfl,.inr (.inl ⟨rfl,rfl,rfl,by omega⟩)⟩)) (by rw [hp];rfl) (h.pr.mr hlt hp) (by rw [hp];simp [stage])
 case me r=>
  exact mark (m:= .enable) (p':= .mg r) (by rw [hp];rfl) rfl (by simp) (by rw [hp];rfl) (fun v hs=>by rw [hp] at hs;exact hs) (fun a ha=>by cases ha) (by rw [hp];rfl) (h.pr.me hlt hp) (by rw [hp];simp [stage])
 case mg r=>
  rcases act (by rw [hp];rfl) with q | ⟨v,hv,hL⟩
  ·exact q
  have hst:=hL v .refl
  rw [hp] at hst
  obtain ⟨hpr,hN,hrn⟩:=h.pr.wspawn hp
  have hst':M.GoAt (M.stop gs.size .w1) (M.stop 0 (.ms r)) g v:=by
   show M.GoAt (M.W1 gs.size) (M.S r) g v
   rw [hN];exact hst
  exact h.spawn hw hi sl (pc:= .w1) (pm:= .ms r) hst' hv hpr rfl rfl rfl rfl (by simp) (.inl ⟨by omega,rfl⟩) (by rw [hp];rfl) (by rw [h.dd 0 hlt (by rw [hp];rfl),hp];rfl) (by rw [hp];simp [stage]<;>omega)
 case rv r Y=>exact h.recv hw hi sl hp
 case rp r Y=>
  obtain ⟨g0,z,rfl,_⟩:=hv0
  cases hrun
 case rw=>
  obtain ⟨g0,z,Y,rfl,c2,c3,c4⟩:=hv0
  obtain ⟨hr0,ho0,hs⟩:=c3
  have hcl:=(h.pr.rX.rw hp).2
  refine h.heard hw hi sl (g0:=g0) ?_ c2 c4 hcl (.inr hp)
  show stepG M.P true _ w=_
  rw [stepG_tries]
  have:({g0 with status:= .running}:Goroutine)=g0:=by cases g0;simp only at hr0;rw [hr0]
  rw [this]
  exact hs w hJ
 case fin=>exact (hne hp).elim
def Mp.Ends (M:Mp) (W:World) (v:Value) (w':World):Prop:=M.Fin v∧W.heap.size≤w'.heap.size∧(∀b,b<W.heap.size→w'.heap[b]?=W.heap[b]?)∧w'.os=W.os∧w'.output=W.output∧w'.tape=W.tape
theorem Inv.over (h:Inv M W gs w X ph x sm cl r0 t) (hp:ph 0= .fin) {k:Nat} {g:Goroutine} (hk:gs[k]?=some g) (hk0:k≠0): ∃q,QuitsD M.P q (Deaf t k) g:=by
 have hlt:=lts hk
 obtain ⟨n12,hcl⟩:=h.pr.rX.fin hp
 obtain ⟨_,z3,z4,hN⟩:=h.pr.shutNone hcl
 obtain ⟨v,hv⟩:=h.ok k g hk
 have hn:=h.size
 have key:ph k= .wq∨ph k= .cq:=by
  rcases Nat.lt_or_ge M.n k with a | a
  ·have:k=M.n+1:=by omega
   subst this
   have:=(h.pr.shut.1 hcl).2
   revert this
   cases ph (M.n+1)<;>simp [isCq]
  ·have hc:=h.pr.wk k (by omega) a hlt
   unfold cnt at z3
   unfold lw at z4
   have n1:=num_zero (ph:=ph) (N:=gs.size) (p:=1) (by omega) hlt
   have n2:=num_zero (ph:=ph) (N:=gs.size) (p:=2) (by omega) hlt
   have n3:=num_zero (ph:=ph) (N:=gs.size) (p:=3) (by omega) hlt
   have n4:=num_zero (ph:=ph) (N:=gs.size) (p:=4) (by omega) hlt
   have n5:=num_zero (ph:=ph) (N:=gs.size) (p:=5) (by omega) hlt
   have n6:=num_zero (ph:=ph) (N:=gs.size) (p:=6) (by omega) hlt
   have n7:=num_zero (ph:=ph) (N:=gs.size) (p:=7) (by omega) hlt
   have n8:=num_zero (ph:=ph) (N:=gs.size) (p:=8) (by omega) hlt
   revert hc n1 n2 n3 n4 n5 n6 n7 n8
   cases ph k<;>simp [code]
 have:M.Quit (X k) g:=by rcases key with e | e<;>rw [e] at hv<;>exact hv
 obtain ⟨q,_,hq⟩:=this
 exact ⟨q,by rw [h.ti.deaf k hlt];exact hq⟩
theorem Inv.final (h:Inv M W gs w X ph x sm cl r0 t) (hw:M.Wf) {g:Goroutine} (hi:gs[0]?=some g) (sl:Option (Nat×Nat)) (hp:ph 0= .fin):
  M.Nx W gs w X ph t sl 0∨ ∃val w' u,runT M.P (crowd gs w sl) 0=(.ended (.done val) w',u)∧M.Ends W val w'∧(∀said,¬Race said (t++u))∧(t++u).HandedOver∧ ∀(k:Nat) g,gs[k]?=some g→k≠0→ ∃q,QuitsD M.P q (Deaf (t++u) k) g:=by
 have hlt:=lts hi
 rcases h.act hw hi sl (by rw [hp];rfl) with q | ⟨v,hv,hL⟩
 ·exact .inl q
 have hst:=hL v .refl
 rw [hp] at hst
 obtain ⟨_,val,hF,hs⟩:=hst
 obtain ⟨w',es,hst,hd⟩:=hs hv
 have hrT:=runT_many_ended (P:=M.P) (sl:=sl) hi (show stepG M.P (0 == 0) g w=_ from hst)
 obtain ⟨n12,hcl⟩:=h.pr.rX.fin hp
 have hti:=h.ti.grow h.sep hlt hd.size (u:=MemOp.ofEvents 0 g.frame.fn g.frame.place es) (fun op hop=>(ofE_get hop).1) (fun op hop a ha=>by
  obtain ⟨_,e,he,hact⟩:=ofE_get hop
  rw [hact] at ha
  exact touch_atOk (hd.acc e he) ha) rfl (fun q=>(q rfl).elim)
 have hpre: ∀j,j<gs.size→j≠0→ ¬M.pre ph j:=fun j hj hj0 hpr=>by
  rcases hpr with ⟨a,b⟩ | ⟨a,b⟩
  ·rcases b with b | b
   ·exact num_zero (ph:=ph) (N:=gs.size) (p:=1) (by omega) hj b
   ·exact num_zero (ph:=ph) (N:=gs.size) (p:=2) (by omega) hj b
  ·exact b hp
 refine .inr ⟨val,w',_,hrT,⟨hF,Nat.le_trans h.out.1 hd.size,fun b hb=>?_,hd.os.trans h.out.2.1,hd.output.trans h.out.2.2.1,hd.tape.trans h.out.2.2.2⟩,hti.race,hti.handedOver hpre,fun k gk hk hk0=>?_⟩
 ·rw [hd.keep b (Nat.lt_of_lt_of_le hb h.out.1) fun q=>by have:=h.olt.2.2.2 0 b hlt q;omega]
  exact h.old b hb
 ·obtain ⟨q,hq⟩:=h.over hp hk hk0
  rw [Deaf_other t (g:=k) (g':=0) (fun e=>hk0 e.symm) _ (fun op hop=>(ofE_get hop).1)]
  exact ⟨q,hq⟩
theorem Inv.somebody (h:Inv M W gs w X ph x sm cl r0 t) (h00:0<gs.size): ∃(i:Nat) (g:Goroutine),gs[i]?=some g∧g.status= .running:=by
 apply Classical.byContradiction
 intro hno
 have nr: ∀(k:Nat) (g:Goroutine),gs[k]?=some g→g.status≠ .running:=fun k g hk e=>hno ⟨k,g,hk,e⟩
 have ph_of: ∀k,k<gs.size→ph k= .wp∨ph k= .cs∨(∃r X,ph k= .rp r X)∨ph k= .wq∨ph k= .cq:=fun k hk=>by
  have hy:gs[k]?=some gs[k]:=Array.getElem?_eq_getElem hk
  obtain ⟨v,hv⟩:=h.ok k _ hy
  rcases gok_status hv with e | ⟨_,e⟩ | ⟨_,e⟩
  ·exact (nr k _ hy e).elim
  ·rcases e with e | e | e
   ·exact .inl e
   ·exact .inr (.inl e)
   ·exact .inr (.inr (.inl e))
  ·rcases e with e | e
   ·exact .inr (.inr (.inr (.inl e)))
   ·exact .inr (.inr (.inr (.inr e)))
 have hm:=h.pr.main
 obtain ⟨r,Y,hr⟩: ∃r Y,ph 0= .rp r Y:=by
  rcases ph_of 0 h00 with e | e | e | e | e
  ·rw [e] at hm;cases hm
  ·rw [e] at hm;cases hm
  ·exact e
  ·rw [e] at hm;cases hm
  ·rw [e] at hm;cases hm
 obtain ⟨a1,a2,a3,_⟩:=h.pr.rX.rp r Y hr
 have hsz:=h.pr.sz
 rw [hr] at hsz
 have hN:gs.size=M.n+2:=hsz
 have zero: ∀p,p≠0→p≠2→p≠9→num ph gs.size p=0:=fun p hp0 hp2 hp9=>Nat.eq_zero_of_not_pos fun q=>by
  obtain ⟨k,hk,e⟩:=num_pos q
  rcases ph_of k hk with e' | e' | ⟨_,_,e'⟩ | e' | e'<;>rw [e'] at e<;>simp [code] at e<;>omega
 have hcnt:cnt ph gs.size=0:=by
  unfold cnt
  rw [zero 1 (by decide) (by decide) (by decide),a2,zero 3 (by decide) (by decide) (by decide),zero 4 (by decide) (by decide) (by decide),zero 5 (by decide) (by decide) (by decide),hr]
  rfl
 have hlw:lw ph gs.size=0:=by
  unfold lw
  rw [zero 6 (by decide) (by decide) (by decide),zero 7 (by decide) (by decide) (by decide),zero 8 (by decide) (by decide) (by decide)]
 have hc:=h.pr.clr (by omega)
 have hcn:M.n+1<gs.size:=by omega
 rcases ph_of (M.n+1) hcn with e | e | ⟨_,_,e⟩ | e | e
 ·rw [e] at hc;cases hc
 ·have hs:=h.pr.sit
  rw [e,hcnt,hlw] at hs
  rcases hs with ⟨_,_,_,d⟩ | ⟨_,_,d,_⟩ | ⟨_,_,_,d,_⟩ | ⟨_,_,_,d,_⟩ | ⟨_,d,_⟩
  ·exact d hcn
  ·omega
  ·omega
  ·omega
  ·have hy:gs[M.n+1]?=some gs[M.n+1]:=Array.getElem?_eq_getElem hcn
   exact nr _ _ hy (h.rel d _ hy e)
 ·rw [e] at hc;cases hc
 ·rw [e] at hc;cases hc
 ·have:=h.pr.shut.2 ⟨hcn,by rw [e];rfl⟩
  rw [a3] at this;cases this
theorem Inv.step (h:Inv M W gs w X ph x sm cl r0 t) (hw:M.Wf) (h00:0<gs.size) (sl:Option (Nat×Nat)):
  (∃o w' u,stepT M.P (crowd gs w sl)=(.ended o w',u)∧Go.Conc.Good M.P (M.Ends W) (crowd gs w sl) o w' (t++u))∨
  ∃gs' w' X' ph' x' sm' cl' r' sl' u,stepT M.P (crowd gs w sl)=(.next (crowd gs' w' sl'),u)∧Inv M W gs' w' X' ph' x' sm' cl' r' (t++u)∧Mu.lt (M.mu gs' X' ph') (M.mu gs X ph):=by
 have haw: ∀g∈gs,awake g:=fun g hg s e=>by
  obtain ⟨k,hk,rfl⟩:=Array.mem_iff_getElem.1 hg
  obtain ⟨v,hv⟩:=h.ok k _ (Array.getElem?_eq_getElem hk)
  rcases gok_status hv with q | ⟨q,_⟩ | ⟨q,_⟩<;>rw [e] at q<;>cases q
 obtain ⟨i,g,d,sl',hi,hrun,hst⟩:=crowd_pick (P:=M.P) (w:=w) (sl:=sl) haw (h.somebody h00)
 have h':=h.at hw d
 have hlt:=lts hi
 have done:M.Nx W gs (w.at d) X ph t sl' i→ ∃gs' w' X' ph' x' sm' cl' r' sl' u,stepT M.P (crowd gs w sl)=(.next (crowd gs' w' sl'),u)∧Inv M W gs' w' X' ph' x' sm' cl' r' (t++u)∧Mu.lt (M.mu gs' X' ph') (M.mu gs X ph):=fun ⟨gs',w',X',ph',x',sm',cl',r',sl'',u,q1,q2,q3⟩=>
  ⟨gs',w',X',ph',x',sm',cl',r',sl'',u,hst.trans q1,q2,q3⟩
 have hn:=h.size
 by_cases e0:i=0
 ·subst e0
  by_cases hf:ph 0= .fin
  ·rcases h'.final hw hi sl' hf with q | ⟨val,w',u,q1,q2,q3,q4,q5⟩
   ·exact .inr (done q)
   ·refine .inl ⟨_,w',u,hst.trans q1,val,rfl,q2,q3,q4,⟨fun y hy=>?_,rfl⟩,fun j y hy hj=>?_⟩
    ·obtain ⟨j,hj⟩:=List.mem_iff_getElem?.1 hy
     rw [List.getElem?_drop] at hj
     obtain ⟨q,hq⟩:=q5 (1+j) y (by simpa [crowd] using hj) (by omega)
     exact ⟨_,hq.leaves⟩
    ·obtain ⟨q,hq⟩:=q5 j y hy hj
     exact ⟨q,hq.hears _⟩
  ·exact .inr <| done (h'.main hw hi hrun sl' hf)
 ·by_cases e1:i=M.n+1
  ·subst e1
   by_cases hc:ph (M.n+1)= .c10
   ·exact .inr <| done (h'.close hw hi sl' hc)
   ·exact .inr <| done (h'.closer hw hi hrun sl' hc)
  ·have hc:=h.pr.wk i (by omega) (by omega) hlt
   by_cases h3:3≤code (ph i)
   ·exact .inr <| done (h'.worker hw hi hrun sl' h3)
   ·by_cases hp:ph i= .w1
    ·exact .inr <| done (h'.send hw hi sl' hp)
    ·exfalso
     have:ph i= .wp:=by
      revert hc h3 hp
      cases ph i<;>simp [code]
     obtain ⟨v,hv⟩:=h.ok i g hi
     rw [this] at hv
     obtain ⟨g0,val,z,rfl,_⟩:=hv
     cases hrun
theorem Inv.runs (hw:M.Wf) (h:Inv M W gs w X ph x sm cl r0 t) (h00:0<gs.size) (sl:Option (Nat×Nat)):
  ∃n last o w' t',runNT M.P (n+1) (crowd gs w sl) t=(.ended o w',t')∧runN M.P n (crowd gs w sl)= .next last∧Go.step M.P last= .ended o w'∧Go.Conc.Good M.P (M.Ends W) last o w' t':=by
 refine run_of_inv Mu.wf (fun μ m t=> ∃gs w X ph x sm cl r0 sl,m=crowd gs w sl∧0<gs.size∧Inv M W gs w X ph x sm cl r0 t∧μ=M.mu gs X ph) (Go.Conc.Good M.P (M.Ends W)) ?_ (M.mu gs X ph) _ _ ⟨gs,w,X,ph,x,sm,cl,r0,sl,rfl,h00,h,rfl⟩
 rintro μ m t ⟨gs,w,X,ph,x,sm,cl,r0,sl,rfl,h00,h,rfl⟩
 rcases h.step hw h00 sl with q | ⟨gs',w',X',ph',x',sm',cl',r',sl',u,q1,q2,q3⟩
 ·exact .inl q
 ·refine .inr ⟨_,u,_,q1,q3,gs',w',X',ph',x',sm',cl',r',sl',rfl,?_,q2,rfl⟩
  have:=q2.pr.sz
  revert this
  cases ph' 0<;>simp only [SzOk]<;>omega
end
end Go.Vk
end
section
namespace Go.Vk
open Go.Conc Go.Conc.Lib
open Go.ConcR (KK wgBlock WgAt stA smA rd wr)
open Go.ConcN (WgLive)
def alone:Cx:=⟨true,fun _=>True⟩
def EndAt (P:Program) (Fin:Value→Prop) (g:Goroutine) (v:World):Prop:=
 g.status= .running∧ ∃val,Fin val∧ ∀ {γ:Gh} {w:World},Vt γ w v→ ∃w' es,stepG P true g w= .ended (.done val) w' es∧Dg γ w w' es
def CrewAt (P:Program) (Fin:Value→Prop) (g:Goroutine) (v:World):Prop:=
 ∃M:Mp,M.P=P∧M.Fin=Fin∧M.Wf∧M.n<2147483000∧v.heap[M.Wg]?=some (wgBlock M.L.tWg 0 0)∧v.heap[M.c]?=some (.chan 0 #[] false 0 0 false)∧ ∀v',Hide M.Wg M.c v v'→Vway M.P M.cm (M.S M.n) g v'
def SoloStop (P:Program) (Fin:Value→Prop) (g:Goroutine) (v:World):Prop:=(∀v₁,Itf v v₁→EndAt P Fin g v₁)∨CrewAt P Fin g v
def Ends (Fin:Value→Prop) (W:World) (v:Value) (w':World):Prop:=Fin v∧W.heap.size≤w'.heap.size∧(∀b,b<W.heap.size→w'.heap[b]?=W.heap[b]?)∧w'.os=W.os∧w'.output=W.output∧w'.tape=W.tape
structure Solo (W:World) (w:World) (γ:Gh) (t:Trace):Prop where
 g0: ∀(i:Nat) op,t[i]?=some op→op.g=0
 low: ∀i a b,touchAt t i=some a→blk a.loc=some b→b<w.heap.size
 deaf:Deaf t 0=0
 old: ∀b,b<W.heap.size→w.heap[b]?=W.heap[b]?
 own: ∀b,γ.ow b→W.heap.size≤b
 out:W.heap.size≤w.heap.size∧w.os=W.os∧w.output=W.output∧w.tape=W.tape
theorem solo_race {t:Trace} (h: ∀(i:Nat) op,t[i]?=some op→op.g=0): ∀said,¬Race said t:=by
 rintro said ⟨i,j,hij,⟨a,b,ha,hb,_⟩,n1,_⟩
 obtain ⟨x,hx,_⟩:=touch_of ha
 obtain ⟨y,hy,_⟩:=touch_of hb
 exact n1 (hb_po hij hx hy ((h i x hx).trans (h j y hy).symm))
theorem Solo.step {W w w':World} {γ:Gh} {t:Trace} {es:Array Event} {fn:FuncId} {pos:String} (h:Solo W w γ t) (hd:Dg γ w w' es) (hlt: ∀b,γ.ow b∨γ.fz b→b<w.heap.size):Solo W w' (γ.grow w.heap.size w'.heap.size) (t++MemOp.ofEvents 0 fn pos es) where
 g0 i op ho:=by
  rcases get_app ho with ⟨_,q⟩ | ⟨_,q⟩
  ·exact h.g0 i op q
  ·exact (ofE_get q).1
 low i a b ha hb:=by
  rcases touch_app ha with ⟨_,q⟩ | ⟨_,op,hop,_,hoa⟩
  ·exact Nat.lt_of_lt_of_le (h.low i a b q hb) hd.size
  ·obtain ⟨_,e,he,hact⟩:=ofE_get hop
   rw [hact] at hoa
   have:=hd.acc e he
   obtain ⟨l,wr,s⟩:=e
   cases l with
   | cell ad=>
    have e1:a=⟨.cell ad,wr,if s then .atomic else .plain⟩:=by cases wr<;>cases s<;>(cases hoa;rfl)
    subst e1
    cases hb
    rcases this with q | q | ⟨_,q⟩
    ·exact Nat.lt_of_lt_of_le (hlt _ (.inl q)) hd.size
    ·exact q.2
    ·exact Nat.lt_of_lt_of_le (hlt _ (.inr q)) hd.size
   | obj r=>
    have e1:a=⟨.obj r,wr,if s then .atomic else .plain⟩:=by cases wr<;>cases s<;>first | (cases hoa;rfl) | (cases hoa)
    subst e1
    cases hb
    rcases this with q | q
    ·exact Nat.lt_of_lt_of_le (hlt _ (.inl q)) hd.size
    ·exact q.2
   | mark m=>rcases this with q | ⟨f,q⟩<;>subst q<;>cases hoa
   | _=>exact this.elim
 deaf:=by rw [Deaf_own,deafBehind_still (fun e he=>still_atOk (hd.acc e he))];exact h.deaf
 old b hb:=by
  rw [hd.keep b (Nat.lt_of_lt_of_le hb h.out.1) fun q=>by have:=h.own b q;omega]
  exact h.old b hb
 own b hb:=hb.elim (h.own b) fun q=>Nat.le_trans h.out.1 q.1
 out:=⟨Nat.le_trans h.out.1 hd.size,hd.os.trans h.out.2.1,hd.output.trans h.out.2.2.1,hd.tape.trans h.out.2.2.2⟩
theorem Vt.lt {γ:Gh} {w v:World} (h:Vt γ w v) (b:Nat) (hb:γ.ow b∨γ.fz b):b<w.heap.size:=by
 rcases hb with hb | hb
 ·exact (h.own b hb).1
 ·obtain ⟨c,e,fr,q,_⟩:=h.shared b hb
  exact lt_of_get q
theorem Solo.crew {W w v:World} {γ:Gh} {t:Trace} {g:Goroutine} (h:Solo W w γ t) (hv:Vt γ w v) (M:Mp) (hn:M.n<2147483000) (hwg:v.heap[M.Wg]?=some (wgBlock M.L.tWg 0 0)) (hch:v.heap[M.c]?=some (.chan 0 #[] false 0 0 false))
  (hway: ∀v',Hide M.Wg M.c v v'→Vway M.P M.cm (M.S M.n) g v'): ∃X ph,Inv M W #[g] w X ph 0 0 false 0 t:=by
 have oWg:γ.ow M.Wg:=by
  have hlt:M.Wg<w.heap.size:=by rw [←hv.size];exact lt_of_get hwg
  by_cases q:γ.ow M.Wg
  ·exact q
  ·exfalso
   by_cases r:γ.fz M.Wg
   ·obtain ⟨c,e,fr,_,s⟩:=hv.shared _ r
    rw [hwg] at s
    simp only [wgBlock,Option.some.injEq,Obj.cells.injEq,Prod.mk.injEq] at s
    obtain ⟨rfl,_,_,s⟩:=s
    simp at s
   ·have s:=hv.other _ hlt q r
    rw [hwg] at s
    simp [wgBlock,poison] at s
 have oc:γ.ow M.c:=(hv.obj hch fun _ _ _ e=>by cases e).1
 have wWg:w.heap[M.Wg]?=some (wgBlock M.L.tWg 0 0):=by rw [←(hv.own _ oWg).2.2.1];exact hwg
 have wc:w.heap[M.c]?=some (.chan 0 #[] false 0 0 false):=by rw [←(hv.own _ oc).2.2.1];exact hch
 have hne:M.Wg≠M.c:=fun e=>by rw [e,hch] at hwg;cases hwg
 let γ':Gh:=⟨fun b=>γ.ow b∧b≠M.Wg∧b≠M.c,γ.fz⟩
 have hv':Vt γ' w (viewOf γ' w):=viewOf_vt (fun b hb=>by
  obtain ⟨q1,q2,_,q4⟩:=hv.own b hb.1
  exact ⟨q1,q2,q4⟩) fun b hb=>by
  obtain ⟨c,e,fr,q,_⟩:=hv.shared b hb;exact ⟨c,e,fr,q⟩
 have hide:Hide M.Wg M.c v (viewOf γ' w):=⟨by rw [hv'.size,hv.size],fun b h1 h2=>hv.same hv' ⟨fun q=>q.1,fun q=>⟨q,h1,h2⟩⟩ Iff.rfl,by rw [hv'.os,hv.os],by rw [hv'.output,hv.output],by rw [hv'.tape,hv.tape]⟩
 obtain ⟨T,hT⟩:=(hway _ hide).rank
 have nz: ∀p,1≤p→num (fun _=>Ph.ms M.n) 1 p=0:=fun p hp=>by
  simp only [num,List.range_one,List.map_cons,List.map_nil,List.sum_cons,List.sum_nil,Nat.add_zero]
  rw [if_neg]
  show ¬(0=p)
  omega
 have hc:cnt (fun _=>Ph.ms M.n) 1=0:=by
  unfold cnt
  rw [nz 1 (by decide),nz 2 (by decide),nz 3 (by decide),nz 4 (by decide),nz 5 (by decide)]
  rfl
 have hl:lw (fun _=>Ph.ms M.n) 1=0:=by
  unfold lw
  rw [nz 6 (by decide),nz 7 (by decide),nz 8 (by decide)]
 have one: ∀k,k<1→k=0:=fun k hk=>by omega
 have kn: ∀i a,touchAt t i=some a→Knows t 0 i:=fun i a ha=>by
  obtain ⟨x,hx,_⟩:=touch_of ha
  have:=knows_own hx
  rw [h.g0 i x hx] at this;exact this
 refine ⟨fun _=>⟨γ',T,0⟩,fun _=>.ms M.n,⟨fun k y hk=>?_,⟨fun j b hj hb=>hv'.lt b (.inl hb),fun j b hj hb=>hv'.lt b (.inr hb),fun j k b hj hk hjk=>?_,fun j k b hj hk ho hf=>(hv'.own b ho).2.1 hf,fun j b hj hb=>?_,(hv.own _ oWg).1,(hv.own _ oc).1⟩,⟨solo_race h.g0,fun i a b ha hb=>h.low i a b ha hb,fun i op ho=>by rw [h.g0 i op ho];simp,fun j b hj ho i a ha hb=>?_,fun j b hj hf i a ha hb hw=>?_,fun i a ha hb=>.inl fun j hj=>?_,fun j hj=>?_,fun i z hz hg hcn=>?_⟩,fun k hk hq=>rfl,fun k b hk hb=>hb,wWg,wc,h.old,⟨h.own _ oWg,h.own _ oc,hne,fun k b hk hb=>h.own b hb.1⟩,h.out,⟨hn,rfl,fun k h1 h2 h3=>?_,fun q=>?_,⟨Nat.le_refl _,by simp⟩,?_,?_,?_,?_⟩,fun q=>by omega,fun q=>by cases q⟩⟩
 ·have hk0:k=0:=one k (lts hk)
  subst hk0
  simp at hk
  subst hk
  exact ⟨_,hT,hv'⟩
 ·exact (hjk ((one j hj).trans (one k hk).symm)).elim
 ·rcases hb with hb | hb
  ·exact hb.2
  ·exact ⟨fun e=>(hv.own _ oWg).2.1 (by rw [←e];exact hb),fun e=>(hv.own _ oc).2.1 (by rw [←e];exact hb)⟩
 ·rw [one j hj];exact kn i a ha
 ·rw [one j hj];exact kn i a ha
 ·rw [one j hj];exact kn i a ha
 ·rw [one j hj];exact h.deaf
 ·exact (hg (h.g0 i z hz)).elim
 ·have:=one k h3;omega
 ·have:M.n+1<1:=q;omega
 ·show CapOk M.n (cnt (fun _=>Ph.ms M.n) 1) (.ms M.n)
  rw [hc];simp [CapOk]
 ·show Sit (M.n+1<1) _ (cnt (fun _=>Ph.ms M.n) 1) (lw (fun _=>Ph.ms M.n) 1) _ 0 0
  rw [hc,hl]
  exact .inl ⟨by simp,rfl,rfl,fun q=>by omega⟩
 ·refine ⟨fun _=>⟨?_,rfl,fun k h1 h2=>?_⟩,fun r X e=>(by cases e),fun r X e=>(by cases e),fun e=>(by cases e),fun e=>(by cases e)⟩
  ·show num (fun _=>Ph.ms M.n) 1 1+num (fun _=>Ph.ms M.n) 1 2+1=1
   rw [nz 1 (by decide),nz 2 (by decide)]
  ·have:=one k h2;omega
 ·refine ⟨fun q=>(by cases q),fun q=>?_⟩
  have:M.n+1<1:=q.1
  omega
theorem solo_runs {P:Program} {Fin:Value→Prop} {W:World}: ∀(T:Tr) {g:Goroutine} {w v:World} {γ:Gh} {t:Trace} (sl:Option (Nat×Nat)),VwT P alone (SoloStop P Fin) T g v→Vt γ w v→Solo W w γ t→
  ∃n last o w' t',runNT P (n+1) (crowd #[g] w sl) t=(.ended o w',t')∧runN P n (crowd #[g] w sl)= .next last∧Go.step P last= .ended o w'∧Go.Conc.Good P (Ends Fin W) last o w' t':=by
 intro T
 induction T.acc with
 | intro T _ ih=>
  intro g w v γ t sl hT hv hS
  have atd: ∀d,∃v₁,Vt γ (w.at d) v₁∧Itf v v₁:=fun d=>hv.rely ⟨Nat.le_refl _,fun _ _=>rfl,rfl,rfl,rfl⟩
  have crew:CrewAt P Fin g v→ ∃n last o w' t',runNT P (n+1) (crowd #[g] w sl) t=(.ended o w',t')∧runN P n (crowd #[g] w sl)= .next last∧Go.step P last= .ended o w'∧Go.Conc.Good P (Ends Fin W) last o w' t':=by
   rintro ⟨M,rfl,rfl,hw,hn,hwg,hch,q⟩
   obtain ⟨X,ph,hI⟩:=hS.crew hv M hn hwg hch q
   exact hI.runs hw (by simp) sl
  have pick:g.status= .running→ ∃d sl',stepT P (crowd #[g] w sl)=runT P (crowd #[g] (w.at d) sl') 0:=fun hrun=>by
   obtain ⟨i,y,d,sl',hi,_,hst⟩:=crowd_pick (P:=P) (gs:= #[g]) (w:=w) (sl:=sl) (fun x hx s e=>by simp at hx;subst hx;rw [hrun] at e;cases e) ⟨0,g,by simp,hrun⟩
   have hi0:i=0:=by have:=lts hi;simp at this;exact this
   subst hi0
   exact ⟨d,sl',hst⟩
  cases T with
  | leaf=>
   rcases hT v .refl with q | q
   ·obtain ⟨d,sl',hst⟩:=pick (q v .refl).1
    obtain ⟨v₁,hv₁,hr⟩:=atd d
    obtain ⟨_,val,hF,hs⟩:=q v₁ hr
    obtain ⟨w',es,hs,hd⟩:=hs hv₁
    have hrT:=runT_many_ended (P:=P) (gs:= #[g]) (sl:=sl') (i:=0) (g:=g) (by simp) (show stepG P (0 == 0) g (w.at d)=_ from hs)
    have hS':=Solo.step (w:=w.at d) (fn:=g.frame.fn) (pos:=g.frame.place) ⟨hS.g0,hS.low,hS.deaf,hS.old,hS.own,hS.out⟩ hd fun b hb=>hv₁.lt b hb
    refine ⟨0,_,_,_,_,by simp [runNT,hst.trans hrT],rfl,by simp [Go.step,hst.trans hrT],val,rfl,⟨hF,hS'.out.1,hS'.old,hS'.out.2.1,hS'.out.2.2.1,hS'.out.2.2.2⟩,solo_race hS'.g0,fun i g' hg hne _=>?_,⟨fun x hx=>by simp [crowd] at hx,rfl⟩,fun j x hx hj=>?_⟩
    ·obtain ⟨z,hz,hzg⟩:=Option.map_eq_some_iff.1 hg
     rw [hS'.g0 i z hz] at hzg
     exact (hne hzg.symm).elim
    ·have:=lts hx
     simp [crowd] at this
     omega
   ·exact crew q
  | mk f=>
   obtain ⟨hrun,hstep⟩:=hT
   obtain ⟨d,sl',hst⟩:=pick hrun
   obtain ⟨v₁,hv₁,hr⟩:=atd d
   obtain ⟨g',v',hs,hn⟩:=hstep v₁ hr
   obtain ⟨w',es,q1,q2,q3⟩:=hs.out hv₁ trivial
   have hrT:=runT_crowd_go (P:=P) (gs:= #[g]) (sl:=sl') (i:=0) (g:=g) (by simp) (show stepG P (0 == 0) g (w.at d)=_ from q1)
   have hS':=Solo.step (w:=w.at d) (fn:=g.frame.fn) (pos:=g.frame.place) ⟨hS.g0,hS.low,hS.deaf,hS.old,hS.own,hS.out⟩ q3 fun b hb=>hv₁.lt b hb
   have hgs:((#[g]:Array Goroutine).map (woken P g g' w')).setIfInBounds 0 g'= #[g']:=by
    apply Array.ext_getElem?
    intro k
    cases k with
    | zero=>simp
    | succ k=>simp
   rw [hgs] at hrT
   obtain ⟨n,last,o,w'',t',h1,h2,h3,h4⟩:=ih (f v₁) ⟨f,v₁,rfl,rfl⟩ sl' hn q2 hS'
   exact ⟨n+1,last,o,w'',t',by rw [runNT_succ_next (hst.trans hrT)];exact h1,by rw [runN_succ_next (hst.trans hrT)];exact h2,h3,h4⟩
end Go.Vk
end
section
namespace Go.Vk
open Go.Conc Go.Conc.Lib
def oldG (W:World):Gh:=⟨fun _=>False,fun b=> ∃c e fr,W.heap[b]?=some (.cells c e fr)⟩
theorem oldG_vt {W:World}:Vt (oldG W) W (viewOf (oldG W) W):=viewOf_vt (fun b hb=>hb.elim) fun b hb=>hb
theorem oldG_cell {W:World} {a:Addr} {x:Value} (h:W.cell? a=some x):(viewOf (oldG W) W).cell? a=some x:=by
 cases hg:W.heap[a.block]? with
 | none=>unfold World.cell? at h;rw [hg] at h;cases h
 | some o=>
  have ho: ∃c e fr,o= .cells c e fr:=by
   unfold World.cell? at h
   rw [hg] at h
   cases o<;>first | exact ⟨_,_,_,rfl⟩ | cases h
  obtain ⟨c,e,fr,rfl⟩:=ho
  have:=(viewOf_get (γ:=oldG W) hg).2.1 (fun q=>q) ⟨c,e,fr,hg⟩
  unfold World.cell? at h ⊢
  rw [hg] at h
  rw [this]
  exact h
theorem oldG_size {W:World}:(viewOf (oldG W) W).heap.size=W.heap.size:=oldG_vt.size
theorem crew_good {P:Program} {Fin:Value→Prop} {W:World} {g:Goroutine} (h:Vway P alone (SoloStop P Fin) g (viewOf (oldG W) W)):
  ∃N last o w' t',runNT P (N+1) (solo g W) #[]=(.ended o w',t')∧runN P N (solo g W)= .next last∧Go.step P last= .ended o w'∧Go.Conc.Good P (Ends Fin W) last o w' t':=by
 obtain ⟨T,hT⟩:=h.rank
 rw [solo_eq_crowd]
 exact solo_runs T none hT oldG_vt ⟨fun i op ho=>by simp at ho,fun i a b ha hb=>by simp [touchAt,Trace.act?] at ha,rfl,fun _ _=>rfl,fun b hb=>hb.elim,Nat.le_refl _,rfl,rfl,rfl⟩
end Go.Vk
end
section
namespace Go.Vk
structure OpArr (x:Array Oper) where
 v:Array Oper
 eq:v=x
def cL:Code→Code
 | .seq a _=>a
 | .cond _ a _=>a
 | .block _ a=>a
 | .loop a=>a
 | c=>c
def cR:Code→Code
 | .seq _ b=>b
 | .cond _ _ b=>b
 | c=>c
def regOf:Code→Array Oper
 | .region _ ops _=>ops
 | _=> #[]
def bodyOf (f:Func):Code:=match f.body with | some c=>c | none=>.skip
end Go.Vk
end
section
namespace Go.Proofs
abbrev Try.link:Go.Conc.Lib.WgLink:={add:=29,done:=31,wait:=33,relMerge:=47,disable:=48,enable:=49,inBubble:=50,associate:=51,fatal:=52,uOr:=53,uAdd:=54,raceRead:=55,uLoad:=56,uStore:=57,disassociate:=58,semrelease:=59,acquire:=60,isAssociated:=61,uCas:=62,raceWrite:=63,semacquire:=64,orU64:=72,addU64:=73,loadU64:=74,storeU64:=75,casU64:=76,tWgP:=86,tUP:=88,tAssoc:=90,tWg:=69,tAU:=66,tU64:=64,tUint:=94,tU32:=67,tPU32:=95,tPAU:=107,tPU64:=109,tNoCopy:=61,tANoCopy:=62,tAlign64:=63}
theorem Try.wgLib:Go.Conc.Lib.WgLib Try.prog Try.link:=
 ⟨Try.func29,Try.func31,Try.func33,Try.func47,Try.func48,Try.func49,Try.func50,Try.func51,Try.func52,Try.func53,Try.func54,Try.func55,Try.func56,Try.func57,Try.func58,Try.func59,Try.func60,Try.func61,Try.func62,Try.func63,Try.func64,Try.func72,Try.func73,Try.func74,Try.func75,Try.func76,Try.underlying86,Try.runUnderlying86,Try.sizeOf86,Try.isAgg86,Try.zeroValue86,Try.underlying88,Try.runUnderlying88,Try.sizeOf88,Try.isAgg88,Try.zeroValue88,Try.underlying90,Try.runUnderlying90,Try.sizeOf90,Try.isAgg90,Try.zeroValue90,Try.underlying69,Try.runUnderlying69,Try.sizeOf69,Try.isAgg69,Try.zeroValue69,Try.underlying66,Try.runUnderlying66,Try.sizeOf66,Try.isAgg66,Try.zeroValue66,Try.underlying64,Try.runUnderlying64,Try.sizeOf64,Try.isAgg64,Try.zeroValue64,Try.underlying94,Try.runUnderlying94,Try.sizeOf94,Try.isAgg94,Try.zeroValue94,Try.underlying67,Try.runUnderlying67,Try.sizeOf67,Try.isAgg67,Try.zeroValue67,Try.underlying95,Try.runUnderlying95,Try.sizeOf95,Try.isAgg95,Try.zeroValue95,Try.underlying107,Try.runUnderlying107,Try.sizeOf107,Try.isAgg107,Try.zeroValue107,Try.underlying109,Try.runUnderlying109,Try.sizeOf109,Try.isAgg109,Try.zeroValue109,Try.underlying0,Try.runUnderlying0,Try.sizeOf0,Try.isAgg0,Try.zeroValue0,Try.underlying3,Try.runUnderlying3,Try.sizeOf3,Try.isAgg3,Try.zeroValue3,Try.underlying4,Try.runUnderlying4,Try.sizeOf4,Try.isAgg4,Try.zeroValue4,Try.underlying9,Try.runUnderlying9,Try.sizeOf9,Try.isAgg9,Try.zeroValue9,Try.underlying20,Try.runUnderlying20,Try.sizeOf20,Try.isAgg20,Try.zeroValue20,Try.underlying21,Try.runUnderlying21,Try.sizeOf21,Try.isAgg21,Try.zeroValue21,(by kernel_rfl),(by kernel_rfl)⟩
end Go.Proofs
end
