/- Part of the proof of crewFars_holds: the whole is true of every input. Conditions: none. -/
import Derived.Test.YtpbbahplbgmbcaaQ1
set_option linter.all false
section
set_option maxRecDepth 100000
namespace Go.Proofs.Ytpbbahplbgmbcaa
open Go.Vc
abbrev f_law_sameRows:Nat:=8
abbrev f_ref_CrewFars:Nat:=10
abbrev f_law_sameInts:Nat:=17
abbrev f_crew_Fars_1:Nat:=18
abbrev f_fuzzy_Far:Nat:=19
abbrev f_ref_FuzzyFar:Nat:=20
abbrev f_fuzzy_long:Nat:=38
abbrev f_fuzzy_far:Nat:=39
abbrev f_ref_farOf:Nat:=40
abbrev f_slices_ContainsFunc___string_string_:Nat:=66
abbrev f_fuzzy_long_1:Nat:=67
abbrev f_slices_IndexFunc___string_string_:Nat:=77
def law_sameInts_c:SCode:=
 (.seq (.ops [⟨(some 4),.mov (.c (.bool false)),none,false,[]⟩] none [0,1])
 (.seq (.seq (.ops [⟨(some 6),.mov (.t 0),none,false,[]⟩,
  ⟨(some 7),.len false (.t 6),none,false,[]⟩,
  ⟨(some 8),.mov (.t 1),none,false,[]⟩,
  ⟨(some 9),.len false (.t 8),none,false,[]⟩,
  ⟨(some 10),.bin .none .neq (.t 7) (.t 9),none,false,[]⟩] none [0,1,10])
 (.cond (.t 10)
  (.seq (.ops [⟨(some 4),.mov (.c (.bool false)),none,false,[]⟩] none [4])
  .ret)
  .skip))
 (.seq (.seq (.ops [⟨(some 5),.mov (.c (.int .i64 0)),none,false,[]⟩] none [0,1,5])
 (.block 0 (.loop [0,1] [5] 0
  (.seq (.seq (.ops [⟨(some 11),.mov (.t 5),none,false,[]⟩,
   ⟨(some 12),.mov (.t 0),none,false,[]⟩,
   ⟨(some 13),.len false (.t 12),none,false,[]⟩,
   ⟨(some 14),.bin .none .lss (.t 11) (.t 13),none,false,[]⟩] none [0,1,5,14])
  (.cond (.t 14)
   .skip
   (.exit 0)))
  (.seq (.block 1 (.seq (.ops [⟨(some 17),.mov (.t 0),none,false,[]⟩,
   ⟨(some 18),.mov (.t 5),none,false,[]⟩,
   ⟨(some 19),.iaddr 1 none (.t 17) (.t 18),none,false,[]⟩,
   ⟨(some 20),.load 1 false (.t 19),none,false,[]⟩,
   ⟨(some 21),.mov (.t 1),none,false,[]⟩,
   ⟨(some 22),.mov (.t 5),none,false,[]⟩,
   ⟨(some 23),.iaddr 1 none (.t 21) (.t 22),none,false,[]⟩,
   ⟨(some 24),.load 1 false (.t 23),none,false,[]⟩,
   ⟨(some 25),.bin .none .neq (.t 20) (.t 24),none,false,[]⟩] (some (0,0,[0,1,2,3,4,5,6,7,8])) [0,1,5,25])
  (.cond (.t 25)
   (.seq (.ops [⟨(some 4),.mov (.c (.bool false)),none,false,[]⟩] none [4])
   .ret)
   .skip)))
  (.ops [⟨(some 15),.mov (.t 5),none,false,[]⟩,
   ⟨(some 16),.bin .none .add (.t 15) (.c (.int .i64 1)),none,false,[]⟩,
   ⟨(some 5),.mov (.t 16),none,false,[]⟩] none [0,1,5]))))))
 (.seq (.ops [⟨(some 4),.mov (.c (.bool true)),none,false,[]⟩] none [4])
 .ret))))
def law_sameInts_r:List RRes:=[.tmp 4]
def law_sameInts_hi:Hi:=⟨[],[(0, "a"),(1, "b"),(2, "a"),(3, "b"),(5, "i")]⟩
def law_sameInts_an:An:=(.seq .d (.seq .d (.seq (.seq .d (.loop [] [] [] .d)) .d)))
def law_sameInts_fi:Fi:=⟨26,law_sameInts_c,law_sameInts_r,law_sameInts_an,law_sameInts_hi,none⟩
theorem law_sameInts_ok:FiOk Try.prog f_law_sameInts law_sameInts_fi:=
 ⟨fun _=>by kernel_rfl,fun _ h hlen=>fun_sound (by kernel_rfl) (fn:=Try.f17) (draw_sound _ _) Try.func17 rfl (by kernel_rfl:comp Try.prog 26 _ law_sameInts_c=some law_sameInts_c) (by kernel_rfl:cRes Try.prog Try.f17.results.toList=some law_sameInts_r) hlen h,fun _ h=>nomatch h⟩
def fuzzy_long_c:SCode:=
 (.seq (.ops [⟨(some 2),.mov (.c (.bool false)),none,false,[]⟩] none [0])
 (.seq (.ops [⟨(some 3),.mov (.t 0),none,false,[]⟩,
  ⟨(some 4),.call f_slices_ContainsFunc___string_string_ [(.t 3),(.c (.fn (.func f_fuzzy_long_1) [] []))],none,false,[]⟩,
  ⟨(some 2),.mov (.t 4),none,false,[]⟩] none [2])
 .ret))
def fuzzy_long_r:List RRes:=[.tmp 2]
def fuzzy_long_hi:Hi:=⟨[],[(0, "words"),(1, "words")]⟩
def fuzzy_long_an:An:= .d
def fuzzy_long_fi:Fi:=⟨5,fuzzy_long_c,fuzzy_long_r,fuzzy_long_an,fuzzy_long_hi,none⟩
theorem fuzzy_long_ok:FiOk Try.prog f_fuzzy_long fuzzy_long_fi:=
 ⟨fun _=>by kernel_rfl,fun _ h hlen=>fun_sound (by kernel_rfl) (fn:=Try.f38) (draw_sound _ _) Try.func38 rfl (by kernel_rfl:comp Try.prog 5 _ fuzzy_long_c=some fuzzy_long_c) (by kernel_rfl:cRes Try.prog Try.f38.results.toList=some fuzzy_long_r) hlen h,fun _ h=>nomatch h⟩
def fuzzy_far_c:SCode:=
 (.seq (.ops [⟨(some 4),.mov (.c (.int .i64 0)),none,false,[]⟩] none [0,1])
 (.seq (.ops [⟨(some 11),.mov (.t 1),none,false,[]⟩,
  ⟨(some 12),.len true (.t 11),none,false,[]⟩,
  ⟨(some 13),.bin .none .add (.t 12) (.c (.int .i64 1)),none,false,[]⟩,
  ⟨(some 14),.mkslice 1 8 [(.int .i64 0)] (.t 13) (.t 13),none,false,[]⟩,
  ⟨(some 5),.mov (.t 14),none,false,[]⟩] none [0,1,5])
 (.seq (.seq (.ops [⟨(some 15),.mov (.t 5),none,false,[]⟩,
  ⟨(some 16),.len false (.t 15),none,false,[]⟩,
  ⟨(some 17),.mov (.c (.int .i64 0)),none,false,[]⟩] none [0,1,5,16,17])
 (.block 0 (.loop [0,1,5,16] [17] 1
  (.seq (.ops [⟨(some 18),.bin .none .lss (.t 17) (.t 16),none,false,[]⟩] none [0,1,5,16,17,18])
  (.seq (.cond (.t 18)
   .skip
   (.exit 0))
  (.seq (.block 1 (.seq (.ops [⟨(some 19),.mov (.t 17),none,false,[]⟩,
   ⟨(some 6),.mov (.t 19),none,false,[]⟩] none [0,1,5,6,16,17])
  (.ops [⟨(some 20),.mov (.t 5),none,false,[]⟩,
   ⟨(some 21),.mov (.t 6),none,false,[]⟩,
   ⟨(some 22),.mov (.t 6),none,false,[]⟩,
   ⟨(some 23),.iaddr 1 none (.t 20) (.t 21),none,false,[]⟩,
   ⟨none,.store 1 (.t 23) (.t 22),none,false,[]⟩] none [0,1,5,16,17])))
  (.ops [⟨(some 24),.bin .none .add (.t 17) (.c (.int .i64 1)),none,false,[]⟩,
   ⟨(some 17),.mov (.t 24),none,false,[]⟩] none [0,1,5,16,17])))))))
 (.seq (.seq (.ops [⟨(some 25),.mov (.t 0),none,false,[]⟩,
  ⟨(some 26),.len true (.t 25),none,false,[]⟩,
  ⟨(some 27),.mov (.c (.int .i64 0)),none,false,[]⟩] none [0,1,5,26,27])
 (.block 2 (.loop [0,1,5,26] [27] 1
  (.seq (.ops [⟨(some 28),.bin .none .lss (.t 27) (.t 26),none,false,[]⟩] none [0,1,5,26,27,28])
  (.seq (.cond (.t 28)
   .skip
   (.exit 2))
  (.seq (.block 3 (.seq (.ops [⟨(some 29),.mov (.t 27),none,false,[]⟩,
   ⟨(some 7),.mov (.t 29),none,false,[]⟩] none [0,1,5,7,26,27])
  (.seq (.ops [⟨(some 30),.mov (.t 5),none,false,[]⟩,
   ⟨(some 31),.iaddr 1 none (.t 30) (.c (.int .i64 0)),none,false,[]⟩,
   ⟨(some 32),.load 1 false (.t 31),none,false,[]⟩,
   ⟨(some 8),.mov (.t 32),none,false,[]⟩] none [0,1,5,7,8,26,27])
  (.seq (.ops [⟨(some 33),.mov (.t 5),none,false,[]⟩,
   ⟨(some 34),.mov (.t 7),none,false,[]⟩,
   ⟨(some 35),.bin .none .add (.t 34) (.c (.int .i64 1)),none,false,[]⟩,
   ⟨(some 36),.iaddr 1 none (.t 33) (.c (.int .i64 0)),none,false,[]⟩,
   ⟨none,.store 1 (.t 36) (.t 35),none,false,[]⟩] none [0,1,5,7,8,26,27])
  (.seq (.ops [⟨(some 37),.mov (.t 1),none,false,[]⟩,
   ⟨(some 38),.len true (.t 37),none,false,[]⟩,
   ⟨(some 39),.mov (.c (.int .i64 0)),none,false,[]⟩] none [0,1,5,7,8,26,27,38,39])
  (.block 4 (.loop [0,1,5,7,26,27,38] [8,39] 1
   (.seq (.ops [⟨(some 40),.bin .none .lss (.t 39) (.t 38),none,false,[]⟩] none [0,1,5,7,8,26,27,38,39,40])
   (.seq (.cond (.t 40)
    .skip
    (.exit 4))
   (.seq (.block 5 (.seq (.ops [⟨(some 41),.mov (.t 39),none,false,[]⟩,
    ⟨(some 9),.mov (.t 41),none,false,[]⟩] none [0,1,5,7,8,9,26,27,38,39])
   (.seq (.ops [⟨(some 42),.mov (.t 8),none,false,[]⟩,
    ⟨(some 10),.mov (.t 42),none,false,[]⟩] none [0,1,5,7,9,10,26,27,38,39])
   (.join [0,1,5,7,9,26,27,38,39] [10] 1 (.seq (.ops [⟨(some 43),.mov (.t 0),none,false,[]⟩,
     ⟨(some 44),.mov (.t 7),none,false,[]⟩,
     ⟨(some 45),.index 1 none false (.t 43) (.t 44),none,false,[]⟩,
     ⟨(some 46),.mov (.t 1),none,false,[]⟩,
     ⟨(some 47),.mov (.t 9),none,false,[]⟩,
     ⟨(some 48),.index 1 none false (.t 46) (.t 47),none,false,[]⟩,
     ⟨(some 49),.bin .none .neq (.t 45) (.t 48),none,false,[]⟩] (some (0,0,[0,1,2,3,4,5,6])) [0,1,5,7,9,10,26,27,38,39,49])
    (.cond (.t 49)
     (.ops [⟨(some 50),.mov (.t 10),none,false,[]⟩,
      ⟨(some 51),.bin .none .add (.t 50) (.c (.int .i64 1)),none,false,[]⟩,
      ⟨(some 10),.mov (.t 51),none,false,[]⟩] none [0,1,5,7,9,10,26,27,38,39])
     .skip))
   (.seq (.ops [⟨(some 52),.mov (.t 5),none,false,[]⟩,
    ⟨(some 53),.mov (.t 9),none,false,[]⟩,
    ⟨(some 54),.bin .none .add (.t 53) (.c (.int .i64 1)),none,false,[]⟩,
    ⟨(some 55),.iaddr 1 none (.t 52) (.t 54),none,false,[]⟩,
    ⟨(some 56),.load 1 false (.t 55),none,false,[]⟩,
    ⟨(some 8),.mov (.t 56),none,false,[]⟩] none [0,1,5,7,8,9,10,26,27,38,39])
   (.ops [⟨(some 57),.mov (.t 5),none,false,[]⟩,
    ⟨(some 58),.mov (.t 9),none,false,[]⟩,
    ⟨(some 59),.bin .none .add (.t 58) (.c (.int .i64 1)),none,false,[]⟩,
    ⟨(some 60),.mov (.t 10),none,false,[]⟩,
    ⟨(some 61),.mov (.t 5),none,false,[]⟩,
    ⟨(some 62),.mov (.t 9),none,false,[]⟩,
    ⟨(some 63),.iaddr 1 none (.t 61) (.t 62),none,false,[]⟩,
    ⟨(some 64),.load 1 false (.t 63),none,false,[]⟩,
    ⟨(some 65),.bin .none .add (.t 64) (.c (.int .i64 1)),none,false,[]⟩,
    ⟨(some 66),.mov (.t 5),none,false,[]⟩,
    ⟨(some 67),.mov (.t 9),none,false,[]⟩,
    ⟨(some 68),.bin .none .add (.t 67) (.c (.int .i64 1)),none,false,[]⟩,
    ⟨(some 69),.iaddr 1 none (.t 66) (.t 68),none,false,[]⟩,
    ⟨(some 70),.load 1 false (.t 69),none,false,[]⟩,
    ⟨(some 71),.bin .none .add (.t 70) (.c (.int .i64 1)),none,false,[]⟩,
    ⟨(some 72),.min [(.t 60),(.t 65),(.t 71)],none,false,[]⟩,
    ⟨(some 73),.iaddr 1 none (.t 57) (.t 59),none,false,[]⟩,
    ⟨none,.store 1 (.t 73) (.t 72),none,false,[]⟩] (some (0,0,[0,1,2,3,4,5,6,7,8,9,10,11,12,13,14,15,16,17])) [0,1,5,7,8,26,27,38,39]))))))
   (.ops [⟨(some 74),.bin .none .add (.t 39) (.c (.int .i64 1)),none,false,[]⟩,
    ⟨(some 39),.mov (.t 74),none,false,[]⟩] none [0,1,5,7,8,26,27,38,39])))))))))))
  (.ops [⟨(some 75),.bin .none .add (.t 27) (.c (.int .i64 1)),none,false,[]⟩,
   ⟨(some 27),.mov (.t 75),none,false,[]⟩] none [0,1,5,26,27])))))))
 (.seq (.ops [⟨(some 76),.mov (.t 5),none,false,[]⟩,
  ⟨(some 77),.mov (.t 1),none,false,[]⟩,
  ⟨(some 78),.len true (.t 77),none,false,[]⟩,
  ⟨(some 79),.iaddr 1 none (.t 76) (.t 78),none,false,[]⟩,
  ⟨(some 80),.load 1 false (.t 79),none,false,[]⟩,
  ⟨(some 4),.mov (.t 80),none,false,[]⟩] none [4])
 .ret)))))
def fuzzy_far_r:List RRes:=[.tmp 4]
def fuzzy_far_hi:Hi:=⟨[(14,(.int .i64))],[(0, "a"),(1, "b"),(2, "a"),(3, "b"),(5, "row"),(6, "k"),(7, "i"),(8, "corner"),(9, "k"),(10, "change")]⟩
def fuzzy_far_an:An:=(.seq .d (.seq .d (.seq (.seq .d (.loop [5] [] [] .d)) (.seq (.seq .d (.loop [5] [] [] (.seq .d (.seq .d (.seq (.seq .d (.seq .d (.seq .d (.seq .d (.loop [5] [] [] .d))))) .d))))) .d))))
def fuzzy_far_fi:Fi:=⟨81,fuzzy_far_c,fuzzy_far_r,fuzzy_far_an,fuzzy_far_hi,none⟩
theorem fuzzy_far_ok:FiOk Try.prog f_fuzzy_far fuzzy_far_fi:=
 ⟨fun _=>by kernel_rfl,fun _ h hlen=>fun_sound (by kernel_rfl) (fn:=Try.f39) (draw_sound _ _) Try.func39 rfl (by kernel_rfl:comp Try.prog 81 _ fuzzy_far_c=some fuzzy_far_c) (by kernel_rfl:cRes Try.prog Try.f39.results.toList=some fuzzy_far_r) hlen h,fun _ h=>nomatch h⟩
def fuzzy_Far_c:SCode:=
 (.seq (.ops [⟨(some 4),.mov (.c (.int .i64 0)),none,false,[]⟩,
  ⟨(some 5),.mov (.c (.int .i64 0)),none,false,[]⟩] none [0,1])
 (.seq (.seq (.ops [⟨(some 6),.mov (.t 0),none,false,[]⟩,
  ⟨(some 7),.mov (.t 1),none,false,[]⟩,
  ⟨(some 8),.bslice true 2 1 [(.str []),(.str [])] [(0,1,(.t 6)),(1,1,(.t 7))],none,false,[]⟩,
  ⟨(some 9),.call f_fuzzy_long [(.t 8)],none,false,[]⟩] none [0,1,9])
 (.cond (.t 9)
  (.seq (.ops [⟨(some 4),.mov (.c (.int .i64 0)),none,false,[]⟩,
   ⟨(some 5),.mov (.c (.int .i64 1)),none,false,[]⟩] none [4,5])
  .ret)
  .skip))
 (.seq (.ops [⟨(some 10),.mov (.t 0),none,false,[]⟩,
  ⟨(some 11),.mov (.t 1),none,false,[]⟩,
  ⟨(some 12),.call f_fuzzy_far [(.t 10),(.t 11)],none,false,[]⟩,
  ⟨(some 4),.mov (.t 12),none,false,[]⟩,
  ⟨(some 5),.mov (.c (.int .i64 0)),none,false,[]⟩] none [4,5])
 .ret)))
def fuzzy_Far_r:List RRes:=[.tmp 4,.tmp 5]
def fuzzy_Far_hi:Hi:=⟨[(8,.str)],[(0, "a"),(1, "b"),(2, "a"),(3, "b")]⟩
def fuzzy_Far_an:An:= .d
def fuzzy_Far_fi:Fi:=⟨13,fuzzy_Far_c,fuzzy_Far_r,fuzzy_Far_an,fuzzy_Far_hi,none⟩
theorem fuzzy_Far_ok:FiOk Try.prog f_fuzzy_Far fuzzy_Far_fi:=
 ⟨fun _=>by kernel_rfl,fun _ h hlen=>fun_sound (by kernel_rfl) (fn:=Try.f19) (draw_sound _ _) Try.func19 rfl (by kernel_rfl:comp Try.prog 13 _ fuzzy_Far_c=some fuzzy_Far_c) (by kernel_rfl:cRes Try.prog Try.f19.results.toList=some fuzzy_Far_r) hlen h,fun _ h=>nomatch h⟩
def ref_farOf_c:SCode:=
 (.seq (.ops [⟨(some 4),.mov (.c (.int .i64 0)),none,false,[]⟩] none [0,1])
 (.seq (.ops [⟨(some 8),.mov (.t 0),none,false,[]⟩,
  ⟨(some 9),.len true (.t 8),none,false,[]⟩,
  ⟨(some 10),.bin .none .add (.t 9) (.c (.int .i64 1)),none,false,[]⟩,
  ⟨(some 11),.mkslice 1 24 [.nils] (.t 10) (.t 10),none,false,[]⟩,
  ⟨(some 5),.mov (.t 11),none,false,[]⟩] none [0,1,5])
 (.seq (.seq (.ops [⟨(some 12),.mov (.t 5),none,false,[]⟩,
  ⟨(some 13),.len false (.t 12),none,false,[]⟩,
  ⟨(some 14),.mov (.c (.int .i64 0)),none,false,[]⟩] none [0,1,5,13,14])
 (.block 0 (.loop [0,1,5,13] [14] 1
  (.seq (.ops [⟨(some 15),.bin .none .lss (.t 14) (.t 13),none,false,[]⟩] none [0,1,5,13,14,15])
  (.seq (.cond (.t 15)
   .skip
   (.exit 0))
  (.seq (.block 1 (.seq (.ops [⟨(some 16),.mov (.t 14),none,false,[]⟩,
   ⟨(some 6),.mov (.t 16),none,false,[]⟩] none [0,1,5,6,13,14])
  (.seq (.ops [⟨(some 17),.mov (.t 5),none,false,[]⟩,
   ⟨(some 18),.mov (.t 6),none,false,[]⟩,
   ⟨(some 19),.mov (.t 1),none,false,[]⟩,
   ⟨(some 20),.len true (.t 19),none,false,[]⟩,
   ⟨(some 21),.bin .none .add (.t 20) (.c (.int .i64 1)),none,false,[]⟩,
   ⟨(some 22),.mkslice 1 8 [(.int .i64 0)] (.t 21) (.t 21),none,false,[]⟩,
   ⟨(some 23),.iaddr 1 none (.t 17) (.t 18),none,false,[]⟩,
   ⟨none,.store 1 (.t 23) (.t 22),none,false,[]⟩] none [0,1,5,6,13,14])
  (.seq (.ops [⟨(some 24),.mov (.t 5),none,false,[]⟩,
   ⟨(some 25),.mov (.t 6),none,false,[]⟩,
   ⟨(some 26),.iaddr 1 none (.t 24) (.t 25),none,false,[]⟩,
   ⟨(some 27),.load 1 false (.t 26),none,false,[]⟩,
   ⟨(some 28),.len false (.t 27),none,false,[]⟩,
   ⟨(some 29),.mov (.c (.int .i64 0)),none,false,[]⟩] none [0,1,5,6,13,14,28,29])
  (.block 2 (.loop [0,1,5,6,13,14,28] [29] 2
   (.seq (.ops [⟨(some 30),.bin .none .lss (.t 29) (.t 28),none,false,[]⟩] none [0,1,5,6,13,14,28,29,30])
   (.seq (.cond (.t 30)
    .skip
    (.exit 2))
   (.join [0,1,5,6,13,14,28,29] [] 2 (.block 3 (.seq (.ops [⟨(some 31),.mov (.t 29),none,false,[]⟩,
     ⟨(some 7),.mov (.t 31),none,false,[]⟩] none [0,1,5,6,7,13,14,28,29])
    (.block 4 (.seq (.ops [⟨(some 66),.mov (.t 6),none,false,[]⟩,
     ⟨(some 67),.bin .none .eql (.t 66) (.c (.int .i64 0)),none,false,[]⟩,
     ⟨(some 65),.mov (.t 67),none,false,[]⟩] none [0,1,5,6,7,13,14,28,29,65])
    (.cond (.t 65)
     (.ops [⟨(some 68),.mov (.t 5),none,false,[]⟩,
      ⟨(some 69),.mov (.t 6),none,false,[]⟩,
      ⟨(some 70),.iaddr 1 none (.t 68) (.t 69),none,false,[]⟩,
      ⟨(some 71),.load 1 false (.t 70),none,false,[]⟩,
      ⟨(some 72),.mov (.t 7),none,false,[]⟩,
      ⟨(some 73),.mov (.t 7),none,false,[]⟩,
      ⟨(some 74),.iaddr 1 none (.t 71) (.t 72),none,false,[]⟩,
      ⟨none,.store 1 (.t 74) (.t 73),none,false,[]⟩] none [0,1,5,6,13,14,28,29])
     (.seq (.ops [⟨(some 76),.mov (.t 7),none,false,[]⟩,
      ⟨(some 77),.bin .none .eql (.t 76) (.c (.int .i64 0)),none,false,[]⟩,
      ⟨(some 75),.mov (.t 77),none,false,[]⟩] none [0,1,5,6,7,13,14,28,29,75])
     (.cond (.t 75)
      (.ops [⟨(some 78),.mov (.t 5),none,false,[]⟩,
       ⟨(some 79),.mov (.t 6),none,false,[]⟩,
       ⟨(some 80),.iaddr 1 none (.t 78) (.t 79),none,false,[]⟩,
       ⟨(some 81),.load 1 false (.t 80),none,false,[]⟩,
       ⟨(some 82),.mov (.t 7),none,false,[]⟩,
       ⟨(some 83),.mov (.t 6),none,false,[]⟩,
       ⟨(some 84),.iaddr 1 none (.t 81) (.t 82),none,false,[]⟩,
       ⟨none,.store 1 (.t 84) (.t 83),none,false,[]⟩] none [0,1,5,6,13,14,28,29])
      (.seq (.ops [⟨(some 86),.mov (.t 0),none,false,[]⟩,
       ⟨(some 87),.mov (.t 6),none,false,[]⟩,
       ⟨(some 88),.bin .none .sub (.t 87) (.c (.int .i64 1)),none,false,[]⟩,
       ⟨(some 89),.index 1 none false (.t 86) (.t 88),none,false,[]⟩,
       ⟨(some 90),.mov (.t 1),none,false,[]⟩,
       ⟨(some 91),.mov (.t 7),none,false,[]⟩,
       ⟨(some 92),.bin .none .sub (.t 91) (.c (.int .i64 1)),none,false,[]⟩,
       ⟨(some 93),.index 1 none false (.t 90) (.t 92),none,false,[]⟩,
       ⟨(some 94),.bin .none .eql (.t 89) (.t 93),none,false,[]⟩,
       ⟨(some 85),.mov (.t 94),none,false,[]⟩] (some (0,0,[0,1,2,3,4,5,6,7,8,9])) [0,1,5,6,7,13,14,28,29,85])
      (.cond (.t 85)
       (.ops [⟨(some 95),.mov (.t 5),none,false,[]⟩,
        ⟨(some 96),.mov (.t 6),none,false,[]⟩,
        ⟨(some 97),.iaddr 1 none (.t 95) (.t 96),none,false,[]⟩,
        ⟨(some 98),.load 1 false (.t 97),none,false,[]⟩,
        ⟨(some 99),.mov (.t 7),none,false,[]⟩,
        ⟨(some 100),.mov (.t 5),none,false,[]⟩,
        ⟨(some 101),.mov (.t 6),none,false,[]⟩,
        ⟨(some 102),.bin .none .sub (.t 101) (.c (.int .i64 1)),none,false,[]⟩,
        ⟨(some 103),.iaddr 1 none (.t 100) (.t 102),none,false,[]⟩,
        ⟨(some 104),.load 1 false (.t 103),none,false,[]⟩,
        ⟨(some 105),.mov (.t 7),none,false,[]⟩,
        ⟨(some 106),.bin .none .sub (.t 105) (.c (.int .i64 1)),none,false,[]⟩,
        ⟨(some 107),.iaddr 1 none (.t 104) (.t 106),none,false,[]⟩,
        ⟨(some 108),.load 1 false (.t 107),none,false,[]⟩,
        ⟨(some 109),.iaddr 1 none (.t 98) (.t 99),none,false,[]⟩,
        ⟨none,.store 1 (.t 109) (.t 108),none,false,[]⟩] (some (0,0,[0,1,2,3,4,5,6,7,8,9,10,11,12,13,14,15])) [0,1,5,6,13,14,28,29])
       (.ops [⟨(some 32),.mov (.t 5),none,false,[]⟩,
        ⟨(some 33),.mov (.t 6),none,false,[]⟩,
        ⟨(some 34),.iaddr 1 none (.t 32) (.t 33),none,false,[]⟩,
        ⟨(some 35),.load 1 false (.t 34),none,false,[]⟩,
        ⟨(some 36),.mov (.t 7),none,false,[]⟩,
        ⟨(some 37),.mov (.t 5),none,false,[]⟩,
        ⟨(some 38),.mov (.t 6),none,false,[]⟩,
        ⟨(some 39),.bin .none .sub (.t 38) (.c (.int .i64 1)),none,false,[]⟩,
        ⟨(some 40),.iaddr 1 none (.t 37) (.t 39),none,false,[]⟩,
        ⟨(some 41),.load 1 false (.t 40),none,false,[]⟩,
        ⟨(some 42),.mov (.t 7),none,false,[]⟩,
        ⟨(some 43),.bin .none .sub (.t 42) (.c (.int .i64 1)),none,false,[]⟩,
        ⟨(some 44),.iaddr 1 none (.t 41) (.t 43),none,false,[]⟩,
        ⟨(some 45),.load 1 false (.t 44),none,false,[]⟩,
        ⟨(some 46),.mov (.t 5),none,false,[]⟩,
        ⟨(some 47),.mov (.t 6),none,false,[]⟩,
        ⟨(some 48),.bin .none .sub (.t 47) (.c (.int .i64 1)),none,false,[]⟩,
        ⟨(some 49),.iaddr 1 none (.t 46) (.t 48),none,false,[]⟩,
        ⟨(some 50),.load 1 false (.t 49),none,false,[]⟩,
        ⟨(some 51),.mov (.t 7),none,false,[]⟩,
        ⟨(some 52),.iaddr 1 none (.t 50) (.t 51),none,false,[]⟩,
        ⟨(some 53),.load 1 false (.t 52),none,false,[]⟩,
        ⟨(some 54),.mov (.t 5),none,false,[]⟩,
        ⟨(some 55),.mov (.t 6),none,false,[]⟩,
        ⟨(some 56),.iaddr 1 none (.t 54) (.t 55),none,false,[]⟩,
        ⟨(some 57),.load 1 false (.t 56),none,false,[]⟩,
        ⟨(some 58),.mov (.t 7),none,false,[]⟩,
        ⟨(some 59),.bin .none .sub (.t 58) (.c (.int .i64 1)),none,false,[]⟩,
        ⟨(some 60),.iaddr 1 none (.t 57) (.t 59),none,false,[]⟩,
        ⟨(some 61),.load 1 false (.t 60),none,false,[]⟩,
        ⟨(some 62),.min [(.t 45),(.t 53),(.t 61)],none,false,[]⟩,
        ⟨(some 63),.bin .none .add (.c (.int .i64 1)) (.t 62),none,false,[]⟩,
        ⟨(some 64),.iaddr 1 none (.t 35) (.t 36),none,false,[]⟩,
        ⟨none,.store 1 (.t 64) (.t 63),none,false,[]⟩] (some (0,0,[0,1,2,3,4,5,6,7,8,9,10,11,12,13,14,15,16,17,18,19,20,21,22,23,24,25,26,27,28,29,30,31,32,33])) [0,1,5,6,13,14,28,29]))))))))))
   (.ops [⟨(some 110),.bin .none .add (.t 29) (.c (.int .i64 1)),none,false,[]⟩,
    ⟨(some 29),.mov (.t 110),none,false,[]⟩] none [0,1,5,6,13,14,28,29]))))))))))
  (.ops [⟨(some 111),.bin .none .add (.t 14) (.c (.int .i64 1)),none,false,[]⟩,
   ⟨(some 14),.mov (.t 111),none,false,[]⟩] none [0,1,5,13,14])))))))
 (.seq (.ops [⟨(some 112),.mov (.t 5),none,false,[]⟩,
  ⟨(some 113),.mov (.t 0),none,false,[]⟩,
  ⟨(some 114),.len true (.t 113),none,false,[]⟩,
  ⟨(some 115),.iaddr 1 none (.t 112) (.t 114),none,false,[]⟩,
  ⟨(some 116),.load 1 false (.t 115),none,false,[]⟩,
  ⟨(some 117),.mov (.t 1),none,false,[]⟩,
  ⟨(some 118),.len true (.t 117),none,false,[]⟩,
  ⟨(some 119),.iaddr 1 none (.t 116) (.t 118),none,false,[]⟩,
  ⟨(some 120),.load 1 false (.t 119),none,false,[]⟩,
  ⟨(some 4),.mov (.t 120),none,false,[]⟩] none [4])
 .ret))))
def ref_farOf_r:List RRes:=[.tmp 4]
def ref_farOf_hi:Hi:=⟨[(11,(.sl (.int .i64))),(22,(.int .i64))],[(0, "a"),(1, "b"),(2, "a"),(3, "b"),(5, "t"),(6, "i"),(7, "k")]⟩
def ref_farOf_an:An:=(.seq .d (.seq .d (.seq (.seq .d (.loop [5] [] [] (.seq .d (.seq .d (.seq (.seq .d (.seq .d (.seq .d (.loop [5] [] [] .d)))) .d))))) .d)))
def ref_farOf_fi:Fi:=⟨121,ref_farOf_c,ref_farOf_r,ref_farOf_an,ref_farOf_hi,none⟩
theorem ref_farOf_ok:FiOk Try.prog f_ref_farOf ref_farOf_fi:=
 ⟨fun _=>by kernel_rfl,fun _ h hlen=>fun_sound (by kernel_rfl) (fn:=Try.f40) (draw_sound _ _) Try.func40 rfl (by kernel_rfl:comp Try.prog 121 _ ref_farOf_c=some ref_farOf_c) (by kernel_rfl:cRes Try.prog Try.f40.results.toList=some ref_farOf_r) hlen h,fun _ h=>nomatch h⟩
def ref_FuzzyFar_c:SCode:=
 (.seq (.ops [⟨(some 4),.mov (.c (.int .i64 0)),none,false,[]⟩,
  ⟨(some 5),.mov (.c (.int .i64 0)),none,false,[]⟩] none [0,1])
 (.seq (.seq (.ops [⟨(some 6),.mov (.t 0),none,false,[]⟩,
  ⟨(some 7),.len true (.t 6),none,false,[]⟩,
  ⟨(some 8),.bin .none .gtr (.t 7) (.c (.int .i64 20)),none,false,[]⟩,
  ⟨(some 9),.mov (.t 8),none,true,[]⟩,
  ⟨(some 10),.mov (.t 1),(some (9,false)),false,[]⟩,
  ⟨(some 11),.len true (.t 10),(some (9,false)),false,[]⟩,
  ⟨(some 12),.bin .none .gtr (.t 11) (.c (.int .i64 20)),(some (9,false)),false,[]⟩,
  ⟨(some 13),.pick (.t 9) (.c (.bool true)) (.t 12),none,false,[]⟩] none [0,1,13])
 (.cond (.t 13)
  (.seq (.ops [⟨(some 4),.mov (.c (.int .i64 0)),none,false,[]⟩,
   ⟨(some 5),.mov (.c (.int .i64 1)),none,false,[]⟩] none [4,5])
  .ret)
  .skip))
 (.seq (.ops [⟨(some 14),.mov (.t 0),none,false,[]⟩,
  ⟨(some 15),.mov (.t 1),none,false,[]⟩,
  ⟨(some 16),.call f_ref_farOf [(.t 14),(.t 15)],none,false,[]⟩,
  ⟨(some 4),.mov (.t 16),none,false,[]⟩,
  ⟨(some 5),.mov (.c (.int .i64 0)),none,false,[]⟩] none [4,5])
 .ret)))
def ref_FuzzyFar_r:List RRes:=[.tmp 4,.tmp 5]
def ref_FuzzyFar_hi:Hi:=⟨[],[(0, "a"),(1, "b"),(2, "a"),(3, "b")]⟩
def ref_FuzzyFar_an:An:= .d
def ref_FuzzyFar_fi:Fi:=⟨17,ref_FuzzyFar_c,ref_FuzzyFar_r,ref_FuzzyFar_an,ref_FuzzyFar_hi,none⟩
theorem ref_FuzzyFar_ok:FiOk Try.prog f_ref_FuzzyFar ref_FuzzyFar_fi:=
 ⟨fun _=>by kernel_rfl,fun _ h hlen=>fun_sound (by kernel_rfl) (fn:=Try.f20) (draw_sound _ _) Try.func20 rfl (by kernel_rfl:comp Try.prog 17 _ ref_FuzzyFar_c=some ref_FuzzyFar_c) (by kernel_rfl:cRes Try.prog Try.f20.results.toList=some ref_FuzzyFar_r) hlen h,fun _ h=>nomatch h⟩
def slices_ContainsFunc___string_string__c:SCode:=
 (.seq (.ops [⟨(some 4),.mov (.c (.bool false)),none,false,[]⟩] none [0,1])
 (.seq (.ops [⟨(some 5),.mov (.t 0),none,false,[]⟩,
  ⟨(some 6),.mov (.t 1),none,false,[]⟩,
  ⟨(some 7),.call f_slices_IndexFunc___string_string_ [(.t 5),(.t 6)],none,false,[]⟩,
  ⟨(some 8),.bin .none .geq (.t 7) (.c (.int .i64 0)),none,false,[]⟩,
  ⟨(some 4),.mov (.t 8),none,false,[]⟩] none [4])
 .ret))
def slices_ContainsFunc___string_string__r:List RRes:=[.tmp 4]
def slices_ContainsFunc___string_string__hi:Hi:=⟨[],[(0, "s"),(1, "f"),(2, "s"),(3, "f")]⟩
def slices_ContainsFunc___string_string__an:An:= .d
def slices_ContainsFunc___string_string__fi:Fi:=⟨9,slices_ContainsFunc___string_string__c,slices_ContainsFunc___string_string__r,slices_ContainsFunc___string_string__an,slices_ContainsFunc___string_string__hi,none⟩
theorem slices_ContainsFunc___string_string__ok:FiOk Try.prog f_slices_ContainsFunc___string_string_ slices_ContainsFunc___string_string__fi:=
 ⟨fun _=>by kernel_rfl,fun _ h hlen=>fun_sound (by kernel_rfl) (fn:=Try.f66) (draw_sound _ _) Try.func66 rfl (by kernel_rfl:comp Try.prog 9 _ slices_ContainsFunc___string_string__c=some slices_ContainsFunc___string_string__c) (by kernel_rfl:cRes Try.prog Try.f66.results.toList=some slices_ContainsFunc___string_string__r) hlen h,fun _ h=>nomatch h⟩
def slices_IndexFunc___string_string__c:SCode:=
 (.seq (.ops [⟨(some 4),.mov (.c (.int .i64 0)),none,false,[]⟩] none [0,1])
 (.seq (.seq (.ops [⟨(some 6),.mov (.t 0),none,false,[]⟩,
  ⟨(some 7),.len false (.t 6),none,false,[]⟩,
  ⟨(some 8),.mov (.c (.int .i64 0)),none,false,[]⟩] none [0,1,7,8])
 (.block 0 (.loop [0,1,7] [8] 0
  (.seq (.ops [⟨(some 9),.bin .none .lss (.t 8) (.t 7),none,false,[]⟩] none [0,1,7,8,9])
  (.seq (.cond (.t 9)
   .skip
   (.exit 0))
  (.seq (.block 1 (.seq (.ops [⟨(some 10),.mov (.t 8),none,false,[]⟩,
   ⟨(some 5),.mov (.t 10),none,false,[]⟩] none [0,1,5,7,8])
  (.seq (.ops [⟨(some 11),.mov (.t 1),none,false,[]⟩,
   ⟨(some 12),.mov (.t 0),none,false,[]⟩,
   ⟨(some 13),.mov (.t 5),none,false,[]⟩,
   ⟨(some 14),.iaddr 1 none (.t 12) (.t 13),none,false,[]⟩,
   ⟨(some 15),.load 1 false (.t 14),none,false,[]⟩,
   ⟨(some 16),.callv (.t 11) [(.t 15)],none,false,[]⟩] none [0,1,5,7,8,16])
  (.cond (.t 16)
   (.seq (.ops [⟨(some 17),.mov (.t 5),none,false,[]⟩,
    ⟨(some 4),.mov (.t 17),none,false,[]⟩] none [4])
   .ret)
   .skip))))
  (.ops [⟨(some 18),.bin .none .add (.t 8) (.c (.int .i64 1)),none,false,[]⟩,
   ⟨(some 8),.mov (.t 18),none,false,[]⟩] none [0,1,7,8])))))))
 (.seq (.ops [⟨(some 4),.mov (.c (.int .i64 (-1))),none,false,[]⟩] none [4])
 .ret)))
def slices_IndexFunc___string_string__r:List RRes:=[.tmp 4]
def slices_IndexFunc___string_string__hi:Hi:=⟨[],[(0, "s"),(1, "f"),(2, "s"),(3, "f"),(5, "i")]⟩
def slices_IndexFunc___string_string__an:An:=(.seq .d (.seq (.seq .d (.loop [1] [] [] .d)) .d))
def slices_IndexFunc___string_string__fi:Fi:=⟨19,slices_IndexFunc___string_string__c,slices_IndexFunc___string_string__r,slices_IndexFunc___string_string__an,slices_IndexFunc___string_string__hi,none⟩
theorem slices_IndexFunc___string_string__ok:FiOk Try.prog f_slices_IndexFunc___string_string_ slices_IndexFunc___string_string__fi:=
 ⟨fun _=>by kernel_rfl,fun _ h hlen=>fun_sound (by kernel_rfl) (fn:=Try.f77) (draw_sound _ _) Try.func77 rfl (by kernel_rfl:comp Try.prog 19 _ slices_IndexFunc___string_string__c=some slices_IndexFunc___string_string__c) (by kernel_rfl:cRes Try.prog Try.f77.results.toList=some slices_IndexFunc___string_string__r) hlen h,fun _ h=>nomatch h⟩
def fuzzy_long_1_c:SCode:=
 (.seq (.ops [⟨(some 2),.mov (.c (.bool false)),none,false,[]⟩] none [0])
 (.seq (.ops [⟨(some 3),.mov (.t 0),none,false,[]⟩,
  ⟨(some 4),.len true (.t 3),none,false,[]⟩,
  ⟨(some 5),.bin .none .gtr (.t 4) (.c (.int .i64 20)),none,false,[]⟩,
  ⟨(some 2),.mov (.t 5),none,false,[]⟩] none [2])
 .ret))
def fuzzy_long_1_r:List RRes:=[.tmp 2]
def fuzzy_long_1_hi:Hi:=⟨[],[(0, "s"),(1, "s")]⟩
def fuzzy_long_1_an:An:= .d
def fuzzy_long_1_fi:Fi:=⟨6,fuzzy_long_1_c,fuzzy_long_1_r,fuzzy_long_1_an,fuzzy_long_1_hi,none⟩
theorem fuzzy_long_1_ok:FiOk Try.prog f_fuzzy_long_1 fuzzy_long_1_fi:=
 ⟨fun _=>by kernel_rfl,fun _ h hlen=>fun_sound (by kernel_rfl) (fn:=Try.f67) (draw_sound _ _) Try.func67 rfl (by kernel_rfl:comp Try.prog 6 _ fuzzy_long_1_c=some fuzzy_long_1_c) (by kernel_rfl:cRes Try.prog Try.f67.results.toList=some fuzzy_long_1_r) hlen h,fun _ h=>nomatch h⟩
end Go.Proofs.Ytpbbahplbgmbcaa
end
section
set_option maxRecDepth 100000
namespace Go.Proofs.Ytpbbahplbgmbcaa
open Go.Vc Go.Fu
theorem law_sameInts_vc (hC:Cons Try.prog [])
 (H: ∀(a:List Int) (b:List Int),(fitL a∧fitL b)→
 ((↑a.length:Int)≠(↑b.length:Int)→false=bo (a=b))∧
 (¬(↑a.length:Int)≠(↑b.length:Int)→
 ∃(I:Int→Prop),
 ∃(m:Int→Nat),
 I 0∧
 ∀(i:Int),
 I i→
 (i<(↑a.length:Int)→
 0≤i∧
 i<(↑a.length:Int)∧
 0≤i∧
 i<(↑b.length:Int)∧
 (gt a i≠gt b i→false=bo (a=b))∧
 (¬gt a i≠gt b i→inI64 (i+1)∧I (i+1)∧m (i+1)<m i))∧
 (¬i<(↑a.length:Int)→true=bo (a=b)))):
 Con Try.prog f_law_sameInts law_sameInts_ct:=⟨law_sameInts_ok.able rfl,fun x hx=>
 con_eq hC (L:=[]) (trivial) law_sameInts_ok (ct:=law_sameInts_ct) (depth:=0) rfl (by kernel_rfl) x (H (@id (List Int×List Int) x).1 (@id (List Int×List Int) x).2 (mpr' hx (by kernel_rfl))) (by kernel_rfl)⟩
theorem fuzzy_long_vc (hC:Cons Try.prog [])
 (H: ∀(words:List (List UInt8)),(wordsPre words)→
 ∃(I:Int→Prop),
 ∃(m:Int→Nat),
 I (0:Int)∧
 ∀(x:Int),
 I x→
 (x<(↑words.length:Int)→
 (0:Int)≤x∧
 x<(↑words.length:Int)∧
 ((20:Int)<(↑(gt words x).length:Int)→bo ((0:Int)≤x)=longOf words)∧
 (¬(20:Int)<(↑(gt words x).length:Int)→
 inI64 (x+(1:Int))∧I (x+(1:Int))∧m (x+(1:Int))<m x))∧
 (¬x<(↑words.length:Int)→bo ((0:Int)≤(-1:Int))=longOf words)):
 Con Try.prog f_fuzzy_long fuzzy_long_ct:=⟨fuzzy_long_ok.able rfl,fun x hx=>
 con_eq hC (L:=[(f_slices_ContainsFunc___string_string_,slices_ContainsFunc___string_string__fi),(f_slices_IndexFunc___string_string_,slices_IndexFunc___string_string__fi),(f_fuzzy_long_1,fuzzy_long_1_fi)]) (⟨slices_ContainsFunc___string_string__ok,slices_IndexFunc___string_string__ok,fuzzy_long_1_ok,trivial⟩) fuzzy_long_ok (ct:=fuzzy_long_ct) (depth:=4) rfl (by kernel_rfl) x (H (@id (List (List UInt8)) x) (mpr' hx (by kernel_rfl))) (by kernel_rfl)⟩
theorem fuzzy_far_vc (hC:Cons Try.prog [])
 (H: ∀(a:List UInt8) (b:List UInt8),(wordPre a∧wordPre b)→
 inI64 ((↑b.length:Int)+(1:Int))∧
 (↑b.length:Int)+(1:Int)=(↑b.length:Int)+(1:Int)∧
 (0:Int)≤(↑b.length:Int)+(1:Int)∧
 (8:Nat)*((↑b.length:Int)+(1:Int)).toNat≤(140737488355328:Nat)∧
 ∃(I:Int→List Int→Prop),
 ∃(m:Int→List Int→Nat),
 I (0:Int) (List.replicate ((↑b.length:Int)+(1:Int)).toNat (0:Int))∧
 ∀(x:Int) (row:List Int),
 I x row→
 (x<(↑(List.replicate ((↑b.length:Int)+(1:Int)).toNat (0:Int)).length:Int)→
 (0:Int)≤x∧
 x<(↑row.length:Int)∧
 inI64 (x+(1:Int))∧
 I (x+(1:Int)) (row.set x.toNat x)∧m (x+(1:Int)) (row.set x.toNat x)<m x row)∧
 (¬x<(↑(List.replicate ((↑b.length:Int)+(1:Int)).toNat (0:Int)).length:Int)→
 ∃(I:Int→List Int→Prop),
 ∃(m:Int→List Int→Nat),
 I (0:Int) row∧
 ∀(x:Int) (row:List Int),
 I x row→
 (x<(↑a.length:Int)→
 (0:Int)≤(0:Int)∧
 (0:Int)<(↑row.length:Int)∧
 inI64 (x+(1:Int))∧
 (0:Int)≤(0:Int)∧
 (0:Int)<(↑row.length:Int)∧
 ∃(I_1:Int→Int→List Int→Prop),
 ∃(m_1:Int→Int→List Int→Nat),
 I_1 (gt row (0:Int)) (0:Int)
 (row.set (Int.toNat (0:Int)) (x+(1:Int)))∧
 ∀(corner x_1:Int) (row_1:List Int),
 I_1 corner x_1 row_1→
 (x_1<(↑b.length:Int)→
 (0:Int)≤x∧
 x<(↑a.length:Int)∧
 (0:Int)≤x_1∧
 x_1<(↑b.length:Int)∧
 (gt a x≠gt b x_1→inI64 (corner+(1:Int)))∧
 inI64 (x_1+(1:Int))∧
 (0:Int)≤x_1+(1:Int)∧
 x_1+(1:Int)<(↑row_1.length:Int)∧
 inI64 (x_1+(1:Int))∧
 (0:Int)≤x_1∧
 x_1<(↑row_1.length:Int)∧
 inI64 (gt row_1 x_1+(1:Int))∧
 inI64 (x_1+(1:Int))∧
 (0:Int)≤x_1+(1:Int)∧
 x_1+(1:Int)<
 (↑row_1.length:Int)∧
 inI64
 (gt row_1
 (x_1+(1:Int))+
 (1:Int))∧
 (0:Int)≤
 x_1+(1:Int)∧
 x_1+(1:Int)<
 (↑row_1.length:
 Int)∧
 inI64
 (x_1+(1:Int))∧
 I_1
 (gt row_1
 (x_1+
 (1:Int)))
 (x_1+(1:Int))
 (row_1.set
 (x_1+
 (1:
 Int)).toNat
 (min
 (min
 (iteP
 (gt a x≠
 gt b
 x_1)
 (corner+
 (1:
 Int))
 corner)
 (gt row_1
 x_1+
 (1:
 Int)))
 (gt row_1
 (x_1+
 (1:
 Int))+
 (1:
 Int))))∧
 m_1
 (gt row_1
 (x_1+
 (1:Int)))
 (x_1+
 (1:Int))
 (row_1.set
 (x_1+
 (1:
 Int)).toNat
 (min
 (min
 (iteP
 (gt a
 x≠
 gt b
 x_1)
 (corner+
 (1:
 Int))
 corner)
 (gt row_1
 x_1+
 (1:
 Int)))
 (gt row_1
 (x_1+
 (1:
 Int))+
 (1:
 Int))))<
 m_1 corner x_1
 row_1)∧
 (¬x_1<(↑b.length:Int)→
 inI64 (x+(1:Int))∧
 I (x+(1:Int)) row_1∧
 m (x+(1:Int)) row_1<m x row))∧
 (¬x<(↑a.length:Int)→
 (0:Int)≤(↑b.length:Int)∧
 (↑b.length:Int)<(↑row.length:Int)∧gt row (↑b.length:Int)=farOf a b))):
 Con Try.prog f_fuzzy_far fuzzy_far_ct:=⟨fuzzy_far_ok.able rfl,fun x hx=>
 con_eq hC (L:=[]) (trivial) fuzzy_far_ok (ct:=fuzzy_far_ct) (depth:=0) rfl (by kernel_rfl) x (H (@id (List UInt8×List UInt8) x).1 (@id (List UInt8×List UInt8) x).2 (mpr' hx (by kernel_rfl))) (by kernel_rfl)⟩
theorem fuzzy_Far_vc (hC:Cons Try.prog [(f_fuzzy_long,fuzzy_long_ct),(f_fuzzy_far,fuzzy_far_ct)])
 (H: ∀(a:List UInt8) (b:List UInt8),(True)→
 wordsPre [a,b]∧
 (longOf [a,b]=true→0=(fuzzyFar a b).fst∧1=(fuzzyFar a b).snd)∧
 (¬longOf [a,b]=true→(wordPre a∧wordPre b)∧farOf a b=(fuzzyFar a b).fst∧0=(fuzzyFar a b).snd)):
 Con Try.prog f_fuzzy_Far fuzzy_Far_ct:=⟨fuzzy_Far_ok.able rfl,fun x hx=>
 con_eq hC (L:=[]) (trivial) fuzzy_Far_ok (ct:=fuzzy_Far_ct) (depth:=0) rfl (by kernel_rfl) x (H (@id (List UInt8×List UInt8) x).1 (@id (List UInt8×List UInt8) x).2 (mpr' hx (by kernel_rfl))) (by kernel_rfl)⟩
theorem ref_farOf_vc (hC:Cons Try.prog [])
 (H: ∀(a:List UInt8) (b:List UInt8),(wordPre a∧wordPre b)→
 inI64 ((↑a.length:Int)+1)∧
 (↑a.length:Int)+1=(↑a.length:Int)+1∧
 0≤(↑a.length:Int)+1∧
 24*((↑a.length:Int)+1).toNat≤140737488355328∧
 ∃(I:Int→List (List Int)→Prop),
 ∃(m:Int→List (List Int)→Nat),
 I 0 (List.replicate ((↑a.length:Int)+1).toNat (noRow Int))∧
 ∀(x:Int) (t:List (List Int)),
 I x t→
 (x<(↑(List.replicate ((↑a.length:Int)+1).toNat (noRow Int)).length:Int)→
 inI64 ((↑b.length:Int)+1)∧
 (↑b.length:Int)+1=(↑b.length:Int)+1∧
 0≤(↑b.length:Int)+1∧
 8*((↑b.length:Int)+1).toNat≤140737488355328∧
 0≤x∧
 x<(↑t.length:Int)∧
 0≤x∧
 x<
 (↑(t.set x.toNat (List.replicate ((↑b.length:Int)+1).toNat 0)).length:
 Int)∧
 ∃(I_1:Int→List (List Int)→Prop),
 ∃(m_1:Int→List (List Int)→Nat),
 I_1 0 (t.set x.toNat (List.replicate ((↑b.length:Int)+1).toNat 0))∧
 ∀(x_1:Int) (t_1:List (List Int)),
 I_1 x_1 t_1→
 (x_1<
 (↑(gt
 (t.set x.toNat
 (List.replicate ((↑b.length:Int)+1).toNat 0))
 x).length:
 Int)→
 (x=0→
 0≤x∧
 x<(↑t_1.length:Int)∧
 0≤x_1∧
 x_1<(↑(gt t_1 x).length:Int)∧
 inI64 (x_1+1)∧
 I_1 (x_1+1)
 (t_1.set x.toNat ((gt t_1 x).set x_1.toNat x_1))∧
 m_1 (x_1+1)
 (t_1.set x.toNat
 ((gt t_1 x).set x_1.toNat x_1))<
 m_1 x_1 t_1)∧
 (¬x=0→
 (x_1=0→
 0≤x∧
 x<(↑t_1.length:Int)∧
 0≤x_1∧
 x_1<(↑(gt t_1 x).length:Int)∧
 inI64 (x_1+1)∧
 I_1 (x_1+1)
 (t_1.set x.toNat
 ((gt t_1 x).set x_1.toNat x))∧
 m_1 (x_1+1)
 (t_1.set x.toNat
 ((gt t_1 x).set x_1.toNat x))<
 m_1 x_1 t_1)∧
 (¬x_1=0→
 inI64 (x-1)∧
 0≤x-1∧
 x-1<(↑a.length:Int)∧
 inI64 (x_1-1)∧
 0≤x_1-1∧
 x_1-1<(↑b.length:Int)∧
 (gt a (x-1)=gt b (x_1-1)→
 0≤x∧
 x<(↑t_1.length:Int)∧
 inI64 (x-1)∧
 0≤x-1∧
 x-1<(↑t_1.length:Int)∧
 inI64 (x_1-1)∧
 0≤x_1-1∧
 x_1-1<
 (↑(gt t_1
 (x-1)).length:
 Int)∧
 0≤x_1∧
 x_1<
 (↑(gt t_1 x).length:
 Int)∧
 inI64 (x_1+1)∧
 I_1 (x_1+1)
 (t_1.set x.toNat
 ((gt t_1 x).set
 x_1.toNat
 (gt
 (gt t_1
 (x-1))
 (x_1-
 1))))∧
 m_1 (x_1+1)
 (t_1.set x.toNat
 ((gt t_1
 x).set
 x_1.toNat
 (gt
 (gt t_1
 (x-1))
 (x_1-
 1))))<
 m_1 x_1 t_1)∧
 (¬gt a (x-1)=gt b (x_1-1)→
 0≤x∧
 x<(↑t_1.length:Int)∧
 inI64 (x-1)∧
 0≤x-1∧
 x-1<(↑t_1.length:Int)∧
 inI64 (x_1-1)∧
 0≤x_1-1∧
 x_1-1<
 (↑(gt t_1
 (x-1)).length:
 Int)∧
 inI64 (x-1)∧
 0≤x-1∧
 x-1<
 (↑t_1.length:
 Int)∧
 0≤x_1∧
 x_1<
 (↑(gt t_1
 (x-
 1)).length:
 Int)∧
 0≤x∧
 x<
 (↑t_1.length:
 Int)∧
 inI64
 (x_1-
 1)∧
 0≤
 x_1-
 1∧
 x_1-1<
 (↑(gt
 t_1
 x).length:
 Int)∧
 inI64
 (1+
 min
 (min
 (gt
 (gt
 t_1
 (x-
 1))
 (x_1-
 1))
 (gt
 (gt
 t_1
 (x-
 1))
 x_1))
 (gt
 (gt
 t_1
 x)
 (x_1-
 1)))∧
 0≤
 x_1∧
 x_1<
 (↑(gt
 t_1
 x).length:
 Int)∧
 inI64
 (x_1+
 1)∧
 I_1
 (x_1+
 1)
 (t_1.set
 x.toNat
 ((gt
 t_1
 x).set
 x_1.toNat
 (1+
 min
 (min
 (gt
 (gt
 t_1
 (x-
 1))
 (x_1-
 1))
 (gt
 (gt
 t_1
 (x-
 1))
 x_1))
 (gt
 (gt
 t_1
 x)
 (x_1-
 1)))))∧
 m_1
 (x_1+
 1)
 (t_1.set
 x.toNat
 ((gt
 t_1
 x).set
 x_1.toNat
 (1+
 min
 (min
 (gt
 (gt
 t_1
 (x-
 1))
 (x_1-
 1))
 (gt
 (gt
 t_1
 (x-
 1))
 x_1))
 (gt
 (gt
 t_1
 x)
 (x_1-
 1)))))<
 m_1
 x_1
 t_1))))∧
 (¬x_1<
 (↑(gt
 (t.set x.toNat
 (List.replicate ((↑b.length:Int)+1).toNat 0))
 x).length:
 Int)→
 inI64 (x+1)∧I (x+1) t_1∧m (x+1) t_1<m x t))∧
 (¬x<(↑(List.replicate ((↑a.length:Int)+1).toNat (noRow Int)).length:Int)→
 0≤(↑a.length:Int)∧
 (↑a.length:Int)<(↑t.length:Int)∧
 0≤(↑b.length:Int)∧
 (↑b.length:Int)<(↑(gt t (↑a.length:Int)).length:Int)∧
 gt (gt t (↑a.length:Int)) (↑b.length:Int)=farOf a b)):
 Con Try.prog f_ref_farOf ref_farOf_ct:=⟨ref_farOf_ok.able rfl,fun x hx=>
 con_eq hC (L:=[]) (trivial) ref_farOf_ok (ct:=ref_farOf_ct) (depth:=0) rfl (by kernel_rfl) x (H (@id (List UInt8×List UInt8) x).1 (@id (List UInt8×List UInt8) x).2 (mpr' hx (by kernel_rfl))) (by kernel_rfl)⟩
theorem ref_FuzzyFar_vc (hC:Cons Try.prog [(f_ref_farOf,ref_farOf_ct)])
 (H: ∀(a:List UInt8) (b:List UInt8),(True)→
 (20<(↑a.length:Int)∨20<(↑b.length:Int)→0=(fuzzyFar a b).fst∧1=(fuzzyFar a b).snd)∧
 (¬(20<(↑a.length:Int)∨20<(↑b.length:Int))→
 (wordPre a∧wordPre b)∧farOf a b=(fuzzyFar a b).fst∧0=(fuzzyFar a b).snd)):
 Con Try.prog f_ref_FuzzyFar ref_FuzzyFar_ct:=⟨ref_FuzzyFar_ok.able rfl,fun x hx=>
 con_eq hC (L:=[]) (trivial) ref_FuzzyFar_ok (ct:=ref_FuzzyFar_ct) (depth:=0) rfl (by kernel_rfl) x (H (@id (List UInt8×List UInt8) x).1 (@id (List UInt8×List UInt8) x).2 (mpr' hx (by kernel_rfl))) (by kernel_rfl)⟩
end Go.Proofs.Ytpbbahplbgmbcaa
end
section
set_option maxRecDepth 100000
namespace Go.Proofs.Ytpbbahplbgmbcaa
open Go.Vc Go.Fu
theorem law_sameInts_hC:Cons Try.prog []:=trivial
theorem law_sameInts_con:Con Try.prog f_law_sameInts law_sameInts_ct:=law_sameInts_vc law_sameInts_hC fun a b h=>by
 simp only [inI_iff,true_and,and_true,ne_eq,Int.reduceEq,not_false_eq_true,Int.toNat_zero,false_bo,true_bo,fitL] at*
 refine ⟨fun q e=>q (by rw [e]),fun q=>⟨fun i=>0≤i∧i≤a.length∧ ∀j:Int,0≤j→j<i→gt a j=gt b j,fun i=>(a.length-i).toNat,⟨by omega,by omega,fun j h1 h2=>by omega⟩,fun i ⟨h0,h1,h2⟩=>?_⟩⟩
 dsimp only
 refine ⟨fun r=>⟨h0,r,h0,by omega,fun t e=>t (by rw [e]),fun t=>⟨by omega,⟨by omega,by omega,fun j j0 j1=>?_⟩,by omega⟩⟩,fun r=>?_⟩
 ·by_cases e:j=i
  ·rw [e];exact Classical.byContradiction t
  ·exact h2 j j0 (by omega)
 ·exact ext_gt (by omega) fun j j0 j1=>h2 j j0 (by omega)
theorem fuzzy_long_hC:Cons Try.prog []:=trivial
theorem fuzzy_long_con:Con Try.prog f_fuzzy_long fuzzy_long_ct:=fuzzy_long_vc fuzzy_long_hC fun w hw=>by
 simp only [inI_iff,true_and,and_true,ne_eq,Int.reduceEq,not_false_eq_true,Int.toNat_zero,longOf,bo_eq_bo,wordsPre] at*
 refine ⟨fun x=>0≤x∧x≤w.length∧ ∀j:Int,0≤j→j<x→ ¬20<(gt w j).length,fun x=>(w.length-x).toNat,⟨by omega,by omega,fun j a b=>by omega⟩,?_⟩
 rintro x ⟨h0,h1,h2⟩
 dsimp only
 refine ⟨fun t=>⟨h0,t,fun u=>⟨fun _=>⟨_,gt_mem h0 t,by omega⟩,fun _=>h0⟩,fun u=>⟨by omega,⟨by omega,by omega,fun j a b=>?_⟩,by omega⟩⟩,fun t=>⟨fun c=>by omega,?_⟩⟩
 ·by_cases e:j=x
  ·subst e;omega
  ·exact h2 j a (by omega)
 ·rintro ⟨s,hs,c⟩
  obtain ⟨j,a,b,rfl⟩:=mem_gt hs
  exact absurd c (h2 j a (by omega))
theorem fuzzy_far_hC:Cons Try.prog []:=trivial
theorem fuzzy_far_con:Con Try.prog f_fuzzy_far fuzzy_far_ct:=fuzzy_far_vc fuzzy_far_hC fun a b ⟨ha,hb⟩=>by
 have la:a.length≤20:=ha
 have lb:b.length≤20:=hb
 simp only [inI_iff,true_and,and_true,ne_eq,Int.reduceEq,not_false_eq_true,Int.toNat_zero,List.length_replicate,iteP_if] at*
 refine ⟨by omega,by omega,by omega,fun x row=>0≤x∧x≤b.length+1∧row.length=b.length+1∧ ∀k:Int,0≤k→k<x→gt row k=k,fun x _=>(b.length+1-x).toNat,⟨by omega,by omega,by simp<;>omega,fun k a b=>by omega⟩,?_⟩
 rintro x row ⟨h0,h1,h2,h3⟩
 dsimp only
 refine ⟨fun t=>⟨h0,by omega,by omega,⟨by omega,by omega,by simp;omega,fun k k0 k1=>?_⟩,by omega⟩,fun t=>?_⟩
 ·by_cases e:k=x
  ·subst e;exact gt_set_eq k0 (by omega)
  ·rw [gt_set_ne h0 k0 (fun z=>e z.symm)];exact h3 k k0 (by omega)
 refine ⟨fun x row=>0≤x∧x≤a.length∧row.length=b.length+1∧ ∀k:Int,0≤k→k≤b.length→gt row k=levZ a b x k,fun x _=>(a.length-x).toNat,⟨by omega,by omega,by omega,fun k k0 k1=>by rw [levZ_zero k0];exact h3 k k0 (by omega)⟩,?_⟩
 rintro i row ⟨g0,g1,g2,g3⟩
 dsimp only
 refine ⟨fun t=>⟨by omega,by omega,by omega,by omega,by omega,fun corner k r=>0≤k∧k≤b.length∧r.length=b.length+1∧corner=levZ a b i k∧(∀j:Int,0≤j→j≤k→gt r j=levZ a b (i+1) j)∧(∀j:Int,k<j→j≤b.length→gt r j=levZ a b i j),fun _ k _=>(b.length-k).toNat,⟨by omega,by omega,by simp;omega,g3 0 (by omega) (by omega),fun j j0 j1=>?_,fun j j0 j1=>?_⟩,?_⟩,fun t=>⟨by omega,by omega,?_⟩⟩
 ·rw [show j=0 by omega,levZ_left (by omega)]
  exact gt_set_eq (i:=0) (by omega) (by omega)
 ·have:=gt_set_ne (l:=row) (i:=0) (j:=j) (a:=i+1) (by omega) (by omega) (by omega)
  rw [Int.toNat_zero] at this
  rw [this];exact g3 j (by omega) j1
 ·rintro corner k r ⟨k0,k1,k2,k3,k4,k5⟩
  dsimp only
  refine ⟨fun u=>?_,fun u=>⟨by omega,⟨by omega,by omega,k2,fun j j0 j1=>k4 j j0 (by omega)⟩,by omega⟩⟩
  have b1:=levZ_bd a b g0 k0
  have b2:=levZ_bd a b (show 0≤i+1 by omega) k0
  have b3:=levZ_bd a b g0 (show 0≤k+1 by omega)
  have e1:=k4 k k0 (by omega)
  have e2:=k5 (k+1) (by omega) (by omega)
  have ls:=levZ_step (a:=a) (b:=b) g0 k0
  rw [e1,e2,k3]
  refine ⟨g0,t,k0,u,fun _=>by omega,by omega,by omega,by omega,by omega,k0,by omega,by omega,by omega,by omega,by omega,by omega,by omega,by omega,by omega,⟨by omega,by omega,by simp;omega,rfl,fun j j0 j1=>?_,fun j j0 j1=>?_⟩,by omega⟩
  ·by_cases e:j=k+1
   ·subst e
    rw [gt_set_eq j0 (by omega),ls]
    by_cases z:gt a i=gt b k
    ·rw [if_neg (by simp [z]),if_pos z];omega
    ·rw [if_pos z,if_neg z]
   ·rw [gt_set_ne (by omega) j0 (fun z=>e z.symm)];exact k4 j j0 (by omega)
  ·rw [gt_set_ne (by omega) (by omega) (by omega)];exact k5 j (by omega) j1
 ·have e:=g3 b.length (by omega) (by omega)
  rw [e,show i=a.length by omega];rfl
theorem fuzzy_Far_hC:Cons Try.prog [(f_fuzzy_long,fuzzy_long_ct),(f_fuzzy_far,fuzzy_far_ct)]:=⟨fuzzy_long_con,fuzzy_far_con,trivial⟩
theorem fuzzy_Far_con:Con Try.prog f_fuzzy_Far fuzzy_Far_ct:=fuzzy_Far_vc fuzzy_Far_hC fun a b _=>by
 simp only [inI_iff,true_and,and_true,ne_eq,Int.reduceEq,not_false_eq_true,Int.toNat_zero,longOf,bo_true,fuzzyFar]
 refine ⟨by simp [wordsPre],fun c=>?_,fun c=>?_⟩
 ·rw [if_pos]
  ·exact ⟨rfl,rfl⟩
  ·obtain ⟨w,hw,c⟩:=c
   simp only [List.mem_cons,List.not_mem_nil,or_false] at hw
   rcases hw with rfl | rfl
   ·exact .inl c
   ·exact .inr c
 ·have h1: ¬20<a.length:=fun d=>c ⟨a,by simp,d⟩
  have h2: ¬20<b.length:=fun d=>c ⟨b,by simp,d⟩
  rw [if_neg (by omega)]
  exact ⟨⟨by simp only [wordPre];omega,by simp only [wordPre];omega⟩,rfl,rfl⟩
theorem ref_farOf_hC:Cons Try.prog []:=trivial
theorem ref_farOf_con:Con Try.prog f_ref_farOf ref_farOf_ct:=ref_farOf_vc ref_farOf_hC fun a b ⟨ha,hb⟩=>by
 have la:a.length≤20:=ha
 have lb:b.length≤20:=hb
 simp only [inI_iff,true_and,and_true,ne_eq,Int.reduceEq,not_false_eq_true,Int.toNat_zero,List.length_replicate] at*
 refine ⟨by omega,by omega,by omega,fun x t=>0≤x∧x≤a.length+1∧t.length=a.length+1∧ ∀i:Int,0≤i→i<x→(gt t i).length=b.length+1∧ ∀k:Int,0≤k→k≤b.length→gt (gt t i) k=levZ a b i k,fun x _=>(a.length+1-x).toNat,⟨by omega,by omega,by simp<;>omega,fun k a b=>by omega⟩,?_⟩
 rintro x t ⟨h0,h1,h2,h3⟩
 dsimp only
 refine ⟨fun u=>?_,fun u=>?_⟩
 ·have ex:gt (t.set x.toNat (List.replicate ((b.length:Int)+1).toNat 0)) x=List.replicate ((b.length:Int)+1).toNat 0:=gt_set_eq h0 (by omega)
  rw [ex]
  simp only [List.length_replicate,List.length_set]
  refine ⟨by omega,by omega,by omega,h0,by omega,h0,by omega,fun y t1=>0≤y∧y≤b.length+1∧t1.length=a.length+1∧(∀i:Int,0≤i→i<x→gt t1 i=gt t i)∧(gt t1 x).length=b.length+1∧ ∀k:Int,0≤k→k<y→gt (gt t1 x) k=levZ a b x k,fun y _=>(b.length+1-y).toNat,⟨by omega,by omega,by simp;omega,fun i i0 i1=>gt_set_ne h0 i0 (by omega),by rw [ex];simp<;>omega,fun k k0 k1=>by omega⟩,?_⟩
  rintro y t1 ⟨k0,k1,k2,k3,k4,k5⟩
  dsimp only
  have step: ∀v,y<b.length+1→v=levZ a b x y→0≤y+1∧y+1≤b.length+1∧(t1.set x.toNat ((gt t1 x).set y.toNat v)).length=a.length+1∧(∀i:Int,0≤i→i<x→gt (t1.set x.toNat ((gt t1 x).set y.toNat v)) i=gt t i)∧(gt (t1.set x.toNat ((gt t1 x).set y.toNat v)) x).length=b.length+1∧ ∀k:Int,0≤k→k<y+1→gt (gt (t1.set x.toNat ((gt t1 x).set y.toNat v)) x) k=levZ a b x k:=fun v hy hv=>by
   have e:gt (t1.set x.toNat ((gt t1 x).set y.toNat v)) x=(gt t1 x).set y.toNat v:=gt_set_eq h0 (by omega)
   refine ⟨by omega,by omega,by simp;omega,fun i i0 i1=>?_,by rw [e];simp;omega,fun k c0 c1=>?_⟩
   ·rw [gt_set_ne h0 i0 (by omega)];exact k3 i i0 i1
   ·rw [e]
    by_cases z:k=y
    ·subst z;rw [gt_set_eq c0 (by omega)];exact hv
    ·rw [gt_set_ne k0 c0 (fun w=>z w.symm)];exact k5 k c0 (by omega)
  refine ⟨fun w=>⟨fun c=>?_,fun c=>⟨fun d=>?_,fun d=>?_⟩⟩,fun w=>⟨by omega,⟨by omega,by omega,k2,fun i i0 i1=>?_⟩,by omega⟩⟩
  ·exact ⟨h0,by omega,k0,by omega,by omega,step _ (by omega) (by rw [c,levZ_zero k0]),by omega⟩
  ·exact ⟨h0,by omega,k0,by omega,by omega,step _ (by omega) (by rw [d,levZ_left h0]),by omega⟩
  ·have eo:=k3 (x-1) (by omega) (by omega)
   obtain ⟨p1,p2⟩:=h3 (x-1) (by omega) (by omega)
   have q1:=p2 (y-1) (by omega) (by omega)
   have q2:=p2 y (by omega) (by omega)
   have q3:=k5 (y-1) (by omega) (by omega)
   have b1:=levZ_bd a b (show 0≤x-1 by omega) (show 0≤y-1 by omega)
   have b2:=levZ_bd a b (show 0≤x-1 by omega) (show 0≤y by omega)
   have b3:=levZ_bd a b h0 (show 0≤y-1 by omega)
   rw [eo]
   refine ⟨by omega,by omega,by omega,by omega,by omega,by omega,fun e=>?_,fun e=>?_⟩
   ·have ls:=levZ_same (a:=a) (b:=b) (i:=x-1) (k:=y-1) (by omega) (by omega) e
    rw [show x-1+1=x by omega,show y-1+1=y by omega] at ls
    refine ⟨by omega,by omega,by omega,by omega,by omega,by omega,by omega,by omega,by omega,by omega,by omega,step _ (by omega) (by rw [q1,ls]),by omega⟩
   ·have ls:=levZ_other (a:=a) (b:=b) (i:=x-1) (k:=y-1) (by omega) (by omega) e
    rw [show x-1+1=x by omega,show y-1+1=y by omega] at ls
    rw [q1,q2,q3]
    exact ⟨by omega,by omega,by omega,by omega,by omega,by omega,by omega,by omega,by omega,by omega,by omega,by omega,by omega,by omega,by omega,by omega,by omega,by omega,by omega,by omega,by omega,by omega,step _ (by omega) ls.symm,by omega⟩
  ·by_cases z:i=x
   ·subst z;exact ⟨k4,fun k c0 c1=>k5 k c0 (by omega)⟩
   ·rw [k3 i i0 (by omega)];exact h3 i i0 (by omega)
 ·obtain ⟨p1,p2⟩:=h3 a.length (by omega) (by omega)
  exact ⟨by omega,by omega,by omega,by omega,by rw [p2 b.length (by omega) (by omega)];rfl⟩
theorem ref_FuzzyFar_hC:Cons Try.prog [(f_ref_farOf,ref_farOf_ct)]:=⟨ref_farOf_con,trivial⟩
theorem ref_FuzzyFar_con:Con Try.prog f_ref_FuzzyFar ref_FuzzyFar_ct:=ref_FuzzyFar_vc ref_FuzzyFar_hC fun a b _=>by
 simp only [inI_iff,true_and,and_true,ne_eq,Int.reduceEq,not_false_eq_true,Int.toNat_zero,fuzzyFar]
 refine ⟨fun c=>by rw [if_pos (by omega)];exact ⟨rfl,rfl⟩,fun c=>by rw [if_neg (by omega)];exact ⟨⟨by simp only [wordPre];omega,by simp only [wordPre];omega⟩,rfl,rfl⟩⟩
end Go.Proofs.Ytpbbahplbgmbcaa
end
section
set_option maxRecDepth 100000
namespace Go.Proofs.Ytpbbahplbgmbcaa
open Go.Conc Go.ChangeShapes Go.WideShapes Go.ChangeAt Go.RowKit Go.Vc Go.Vk
theorem seen_start (W : World) : Seen (C0 (viewOf (oldG W) W)) (viewOf (oldG W) W) := ⟨fun a x h => h.2, fun a x h => h.1, fun a x h => by
  obtain ⟨h1, h2⟩ := h
  by_cases hb : (oldG W).fz a.block
  · obtain ⟨c, e, fr, _, q⟩ := oldG_vt.shared _ hb
    exact .inr ⟨c, e, q⟩
  · exfalso
    obtain ⟨b, o, s⟩ := a
    simp only at h1
    subst h1
    have := oldG_vt.other b (by rw [← oldG_size]; exact cell_lt h2) (fun q => q) hb
    unfold World.cell? at h2
    rw [this] at h2
    simp [poison] at h2⟩
theorem strs_flat (l : List Go.Fu.Bytes) : l.flatMap (fun s => [AVal.str s]) = K.strs l := by
  induction l with
  | nil => rfl
  | cons a l ih => rw [List.flatMap_cons, ih]; rfl
theorem encS (l : List Go.Fu.Bytes) : encA (.sl .str) l = .ros l.length (K.strs l) := congrArg (AVal.ros l.length) (strs_flat l)
end Go.Proofs.Ytpbbahplbgmbcaa
end
section
set_option maxRecDepth 100000
namespace Go.Proofs.Ytpbbahplbgmbcaa
open Go.Conc Go.ChangeShapes Go.WideShapes Go.ChangeAt Go.RowKit Go.Vc Go.Vk
theorem crewFars_contract {H : Type} (enc : TypeId × Value → H)
    (W : World) (args : Array Value) (ds gs : List (DataW H)) (before : List MemPlace) (hval : ∀ (j : Nat) t v, Try.f4.params[j]? = some t → args[j]? = some v → Value.okWide Try.prog W .any 0 t v)
    (hW : DataW.Whole enc Try.prog Try.f4.params.toList Rows.crewFarsSpec.vars false W args.toList ds gs before)
    (hz : (DataW.weightsEach Try.prog (Try.f4.params.toList ++ Rows.crewFarsSpec.plain.varTypes Try.prog) (ds ++ gs)).all (· ≤ reachBytes) = true) :
    ∃ M last o w' t', runNT Try.prog (M + 1) (solo (G (Go.Frame.enter Try.prog 4 args .normal) []) W) #[] = (.ended o w', t') ∧ runN Try.prog M (solo (G (Go.Frame.enter Try.prog 4 args .normal) []) W) = .next last ∧ Go.step Try.prog last = .ended o w' ∧
      Go.Conc.Good Try.prog (fun v W' => Rows.crewFarsSpec.post enc Try.prog Try.f4 false true false false W args v W') last o w' t' :=
  crew_contract (us := crewFars_tys) (n := 8) (tb := 4) Try.params4 (bulk_law H) laid_out (par_ok (by kernel_rfl)) rfl (fun ds h => match ds, h with | [d0], _ => rfl) (by kernel_rfl) (by kernel_rfl) (by kernel_rfl)
    (fun x hx hr => by
      have hr : RelL noE (allF (viewOf (oldG W) W)) (viewOf (oldG W) W) [encA (.sl .str) x] args.toList := hr
      simp only [RelL] at hr
      obtain ⟨T, us1, e1, hT, e3⟩ := hr
      have hT : Rel noE (allF (viewOf (oldG W) W)) (viewOf (oldG W) W) (.ros (List.length (α := Go.Fu.Bytes) x) (K.strs x)) T := (encS x) ▸ hT
      have ea : args = #[T] := by
        have : args.toList = [T] := by rw [e1, e3]
        exact Array.ext' this
      rw [ea]
      have hl : List.length (α := Go.Fu.Bytes) x ≤ 140737488351232 := hx.1
      exact law_fars fuzzy_Far_con ref_FuzzyFar_con law_sameInts_con hl hT (seen_start W))
    hval hW hz
theorem crewFars_said : Rows.CrewFarsSaid :=
  OpenClaim.holds_of_wide_leaving 4 Try.f4 rfl rfl rfl rfl rfl rfl rfl ⟨rfl, rfl, rfl, rfl, rfl⟩ rfl rfl rfl rfl rfl (by kernel_rfl) Try.func4 (by kernel_rfl)
    (of_decide_eq_true (by kernel_rfl)) (by unfold Func.isWrapper; first | (rw [if_pos (by decide +kernel)]; kernel_rfl) | (rw [if_neg (by decide +kernel)]; exact ⟨rfl, rfl⟩))
    (fun os started H enc _ => returnsInLeavingWide_of_change_sized (C := Try.checked) own_knob started Try.func4
      (ChangeSpec.witness6 (enc := enc) (C := Try.checked) false ⟨#[], #[.slice none 0 0], []⟩ 8 (by kernel_rfl) (by kernel_rfl) (by kernel_rfl) (by kernel_rfl))
      fun W base args ds gs before hval hW _ hz _ => crewFars_contract enc W args ds gs before hval hW hz)
theorem crewFars_holds : Rows.CrewFarsSaid := crewFars_said
end Go.Proofs.Ytpbbahplbgmbcaa
end
