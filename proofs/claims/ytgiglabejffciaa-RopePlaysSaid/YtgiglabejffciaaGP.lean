/- The functions' simplified code, printed by a program of the claim's author; each is checked against the program's own code. Conditions: none. -/
import Derived.Test.YtgiglabejffciaaProg
import Derived.Test.YtgiglabejffciaaVyM
import Derived.Test.YtgiglabejffciaaVx4
set_option linter.unusedVariables false
set_option maxRecDepth 100000
namespace Go.Proofs.Ytgiglabejffciaa.P
open Go.Vc
abbrev f_gosem_cut_init : Nat := 2
abbrev f_law_RopePlays : Nat := 3
abbrev f_rope_Play : Nat := 4
abbrev f_ref_RopePlayed : Nat := 5
abbrev f_law_sameTexts : Nat := 6
abbrev f_law_sameCodes : Nat := 7
abbrev f_rope_play : Nat := 8
abbrev f___rope_Rope__String : Nat := 9
abbrev f_ref_RopePlayed_1 : Nat := 10
abbrev f___rope_maker__do : Nat := 11
abbrev f___rope_Rope__Len : Nat := 12
abbrev f___rope_Rope__Leaves : Nat := 13
abbrev f___rope_maker__fault : Nat := 14
abbrev f___rope_maker__length : Nat := 15
abbrev f___rope_maker__make : Nat := 16
abbrev f___rope_Rope__Leaves_1 : Nat := 17
abbrev f___rope_Rope__each : Nat := 18
abbrev f___rope_maker__there : Nat := 19
abbrev f_rope_New : Nat := 20
abbrev f_rope_Join : Nat := 21
abbrev f_rope_Split : Nat := 22
abbrev f_rope_leaf : Nat := 23
abbrev f_rope_node : Nat := 24
abbrev f_rope_balanced : Nat := 25
abbrev f_pos_Of : Nat := 26
abbrev f_poly_Of : Nat := 27
abbrev f_pos_Join : Nat := 28
abbrev f_poly_Join : Nat := 29
abbrev f_strings_Count : Nat := 30
abbrev f_strings_LastIndexByte : Nat := 31
abbrev f_pos_May : Nat := 32
abbrev f_poly_May : Nat := 33
abbrev f_unicode_utf8_RuneCountInString : Nat := 34
abbrev f_strings_Index : Nat := 36
abbrev f_internal_bytealg_LastIndexByteString : Nat := 37
abbrev f_internal_stringslite_Index : Nat := 38
abbrev f_internal_stringslite_IndexByte : Nat := 39
abbrev f_internal_bytealg_Cutover : Nat := 41
abbrev f_internal_bytealg_IndexRabinKarp_string_ : Nat := 42
abbrev f_internal_bytealg_hashStr_string_ : Nat := 44

/-- fustian/rope.Play: slots [0 l, 1 l, 2 texts, 3 codes, 4 e, 5 all, 6 _, 7 r] -/
def rope_Play_c : SCode :=
  (.seq (.ops [⟨(some 2), .newnil 1, none, false, []⟩,
    ⟨(some 3), .mov (.c .nils), none, false, []⟩,
    ⟨(some 4), .mov (.c (.int .i64 0)), none, false, []⟩] none [0, 2])
  (.seq (.ops [⟨(some 9), .mov (.t 0), none, false, []⟩,
    ⟨(some 10), .call f_rope_play [(.t 9)], none, false, []⟩,
    ⟨(some 8), .mov (.t 10), none, false, []⟩,
    ⟨(some 11), .extract (.t 8) 0, none, false, []⟩,
    ⟨(some 12), .extract (.t 8) 1, none, false, []⟩,
    ⟨(some 13), .extract (.t 8) 2, none, false, []⟩,
    ⟨(some 5), .mov (.t 11), none, false, []⟩,
    ⟨(some 3), .mov (.t 12), none, false, []⟩,
    ⟨(some 4), .mov (.t 13), none, false, []⟩] none [2, 3, 4, 5])
  (.seq (.seq (.ops [⟨(some 14), .mov (.t 5), none, false, []⟩,
    ⟨(some 15), .len false (.t 14), none, false, []⟩,
    ⟨(some 16), .mov (.c (.int .i64 0)), none, false, []⟩] none [2, 3, 4, 14, 15, 16])
  (.block 0 (.loop [3, 4, 14, 15] [2, 16] 1
    (.seq (.ops [⟨(some 17), .bin .none .lss (.t 16) (.t 15), none, false, []⟩] none [2, 3, 4, 14, 15, 16, 17])
    (.seq (.cond (.t 17)
      .skip
      (.exit 0))
    (.seq (.block 1 (.seq (.ops [⟨(some 18), .iaddr 1 none (.t 14) (.t 16), none, false, []⟩,
      ⟨(some 19), .load 1 false (.t 18), none, false, []⟩,
      ⟨(some 7), .mov (.t 19), none, false, []⟩] none [2, 3, 4, 7, 14, 15, 16])
    (.ops [⟨(some 20), .mov (.t 2), none, false, []⟩,
      ⟨(some 21), .mov (.t 7), none, false, []⟩,
      ⟨(some 22), .call f___rope_Rope__String [(.t 21)], none, false, []⟩,
      ⟨(some 23), .bslice true 1 1 [(.str [])] [(0, 1, (.t 22))], none, false, []⟩,
      ⟨(some 24), .append 1 16 (.t 20) (.t 23), none, false, []⟩,
      ⟨(some 2), .mov (.t 24), none, false, []⟩] none [2, 3, 4, 14, 15, 16])))
    (.ops [⟨(some 25), .bin .none .add (.t 16) (.c (.int .i64 1)), none, false, []⟩,
      ⟨(some 16), .mov (.t 25), none, false, []⟩] none [2, 3, 4, 14, 15, 16])))))))
  (.seq (.ops [⟨(some 26), .mov (.t 2), none, false, []⟩,
    ⟨(some 27), .mov (.t 3), none, false, []⟩,
    ⟨(some 28), .mov (.t 4), none, false, []⟩,
    ⟨(some 2), .mov (.t 26), none, false, []⟩,
    ⟨(some 3), .mov (.t 27), none, false, []⟩,
    ⟨(some 4), .mov (.t 28), none, false, []⟩] none [2, 3, 4])
  .ret))))
def rope_Play_r : List RRes := [.tmp 2, .tmp 3, .tmp 4]
def rope_Play_hi : Hi := ⟨[(2, .str), (23, .str), (24, .str)], [(0, "l"), (1, "l"), (2, "texts"), (3, "codes"), (4, "e"), (5, "all"), (7, "r")]⟩
def rope_Play_an : An := (.seq .d (.seq .d (.seq (.seq .d (.loop [14, 2] [] [] .d)) .d)))
def rope_Play_fi : Fi := ⟨29, rope_Play_c, rope_Play_r, rope_Play_an, rope_Play_hi, none⟩
theorem rope_Play_ok : FiOk Try.prog f_rope_Play rope_Play_fi :=
  ⟨fun _ => by kernel_rfl, fun _ h hlen => fun_sound (by kernel_rfl) (fn := Try.f4) (draw_sound _ _) Try.func4 rfl (by kernel_rfl : comp Try.prog 29 _ rope_Play_c = some rope_Play_c) (by kernel_rfl : cRes Try.prog Try.f4.results.toList = some rope_Play_r) hlen h, fun _ h => nomatch h⟩

/-- (*fustian/rope.Rope).String: slots [0 r, 1 r, 3 b, 4 s] -/
def __rope_Rope__String_c : RCode :=
  (.seqR (.ops [⟨(some 2), .mov (.c (.str [])), none, false, []⟩] none [0])
  (.seqR (.ops [⟨(some 5), .mov (.t 0), none, false, []⟩,
    ⟨(some 6), .call f___rope_Rope__Len [(.t 5)], none, false, []⟩,
    ⟨(some 7), .mkslice 1 1 [(.int .u8 0)] (.c (.int .i64 0)) (.t 6), none, false, []⟩,
    ⟨(some 3), .alloc 0 [.nils], none, false, []⟩,
    ⟨none, .store 1 (.t 3) (.t 7), none, false, []⟩] none [0, 3])
  (.seqL (.seqR (.ops [⟨(some 8), .mov (.t 0), none, false, []⟩,
    ⟨(some 9), .call f___rope_Rope__Leaves [(.t 8)], none, false, []⟩] none [3, 9])
  (.block 0 (.rfun (.t 9) [10] (.ops [⟨(some 4), .mov (.t 10), none, false, []⟩] none [3, 4])
  (.block 1 (.ops [⟨(some 11), .load 1 false (.t 3), none, false, []⟩,
    ⟨(some 12), .mov (.t 4), none, false, []⟩,
    ⟨(some 13), .append 1 1 (.t 11) (.t 12), none, false, []⟩,
    ⟨none, .store 1 (.t 3) (.t 13), none, false, []⟩] none [])))))
  (.seq (.ops [⟨(some 14), .load 1 false (.t 3), none, false, []⟩,
    ⟨(some 15), .b2s (.t 14), none, false, []⟩,
    ⟨(some 2), .mov (.t 15), none, false, []⟩] none [2])
  .ret))))
def __rope_Rope__String_r : List RRes := [.tmp 2]
theorem __rope_Rope__String_ok : FlOk Try.prog f___rope_Rope__String 16 __rope_Rope__String_c __rope_Rope__String_r :=
  ⟨by kernel_rfl, fun hl h => fun_soundL (by kernel_rfl) (fn := Try.f9) (draw_sound _ _) Try.func9 rfl (by kernel_rfl : compL Try.prog 16 __rope_Rope__String_c _ = some __rope_Rope__String_c) (by kernel_rfl : cRes Try.prog Try.f9.results.toList = some __rope_Rope__String_r) hl h⟩

/-- (*fustian/rope.Rope).Leaves: slots [0 r, 1 r] -/
def __rope_Rope__Leaves_c : SCode :=
  (.seq (.ops [⟨(some 1), .box 0 (.t 0), none, false, []⟩,
    ⟨(some 2), .mov (.c .nilf), none, false, []⟩] none [1])
  (.seq (.ops [⟨(some 3), .mkfunc (.func f___rope_Rope__Leaves_1) [] [(.t 1)], none, false, []⟩,
    ⟨(some 2), .mov (.t 3), none, false, []⟩] none [2])
  .ret))
def __rope_Rope__Leaves_r : List RRes := [.tmp 2]
def __rope_Rope__Leaves_hi : Hi := ⟨[], [(0, "r"), (1, "r")]⟩
def __rope_Rope__Leaves_an : An := .d
def __rope_Rope__Leaves_fi : Fi := ⟨4, __rope_Rope__Leaves_c, __rope_Rope__Leaves_r, __rope_Rope__Leaves_an, __rope_Rope__Leaves_hi, none⟩
theorem __rope_Rope__Leaves_ok : FiOk Try.prog f___rope_Rope__Leaves __rope_Rope__Leaves_fi :=
  ⟨fun _ => by kernel_rfl, fun _ h hlen => fun_sound (by kernel_rfl) (fn := Try.f13) (draw_sound _ _) Try.func13 rfl (by kernel_rfl : comp Try.prog 4 _ __rope_Rope__Leaves_c = some __rope_Rope__Leaves_c) (by kernel_rfl : cRes Try.prog Try.f13.results.toList = some __rope_Rope__Leaves_r) hlen h, fun _ h => nomatch h⟩

/-- (*fustian/rope.Rope).Leaves$1: slots [0 yield, 2 yield] -/
def __rope_Rope__Leaves_1_c : SCode :=
  (.ops [⟨(some 3), .load 1 false (.t 1), none, false, []⟩,
    ⟨(some 4), .mov (.t 0), none, false, []⟩,
    ⟨(some 5), .call f___rope_Rope__each [(.t 3), (.t 4)], none, false, []⟩] none [])
def __rope_Rope__Leaves_1_r : List RRes := []
def __rope_Rope__Leaves_1_hi : Hi := ⟨[], [(0, "yield"), (2, "yield")]⟩
def __rope_Rope__Leaves_1_an : An := .d
def __rope_Rope__Leaves_1_fi : Fi := ⟨6, __rope_Rope__Leaves_1_c, __rope_Rope__Leaves_1_r, __rope_Rope__Leaves_1_an, __rope_Rope__Leaves_1_hi, none⟩
theorem __rope_Rope__Leaves_1_ok : FiOk Try.prog f___rope_Rope__Leaves_1 __rope_Rope__Leaves_1_fi :=
  ⟨fun _ => by kernel_rfl, fun _ h hlen => fun_sound (by kernel_rfl) (fn := Try.f17) (draw_sound _ _) Try.func17 rfl (by kernel_rfl : comp Try.prog 6 _ __rope_Rope__Leaves_1_c = some __rope_Rope__Leaves_1_c) (by kernel_rfl : cRes Try.prog Try.f17.results.toList = some __rope_Rope__Leaves_1_r) hlen h, fun _ h => nomatch h⟩

/-- (*fustian/rope.Rope).each: slots [0 r, 1 yield, 2 r, 3 yield] -/
def __rope_Rope__each_c : SCode :=
  (.seq (.ops [⟨(some 4), .mov (.c (.bool false)), none, false, []⟩] none [0, 1])
  (.seq (.seq (.ops [⟨(some 5), .mov (.t 0), none, false, []⟩,
    ⟨(some 6), .bin .ptr .eql (.t 5) (.c .nilp), none, false, []⟩] none [0, 1, 6])
  (.cond (.t 6)
    (.seq (.ops [⟨(some 4), .mov (.c (.bool true)), none, false, []⟩] none [4])
    .ret)
    .skip))
  (.seq (.seq (.ops [⟨(some 7), .mov (.t 0), none, false, []⟩,
    ⟨(some 8), .nilchk (.t 7), none, false, []⟩,
    ⟨(some 9), .faddr 1 (.t 8), none, false, []⟩,
    ⟨(some 10), .load 1 false (.t 9), none, false, []⟩,
    ⟨(some 11), .bin .ptr .eql (.t 10) (.c .nilp), none, false, []⟩] none [0, 1, 11])
  (.cond (.t 11)
    (.seq (.ops [⟨(some 12), .mov (.t 1), none, false, []⟩,
      ⟨(some 13), .mov (.t 0), none, false, []⟩,
      ⟨(some 14), .nilchk (.t 13), none, false, []⟩,
      ⟨(some 15), .faddr 0 (.t 14), none, false, []⟩,
      ⟨(some 16), .load 1 false (.t 15), none, false, []⟩,
      ⟨(some 17), .callv (.t 12) [(.t 16)], none, false, []⟩,
      ⟨(some 4), .mov (.t 17), none, false, []⟩] none [4])
    .ret)
    .skip))
  (.seq (.ops [⟨(some 18), .mov (.t 0), none, false, []⟩,
    ⟨(some 19), .nilchk (.t 18), none, false, []⟩,
    ⟨(some 20), .faddr 1 (.t 19), none, false, []⟩,
    ⟨(some 21), .load 1 false (.t 20), none, false, []⟩,
    ⟨(some 22), .nilchk (.t 21), none, false, []⟩,
    ⟨(some 23), .iaddr 1 (some 2) (.t 22) (.c (.int .i64 0)), none, false, []⟩,
    ⟨(some 24), .load 1 false (.t 23), none, false, []⟩,
    ⟨(some 25), .mov (.t 1), none, false, []⟩,
    ⟨(some 26), .call f___rope_Rope__each [(.t 24), (.t 25)], none, false, []⟩,
    ⟨(some 27), .mov (.t 26), none, true, []⟩,
    ⟨(some 28), .mov (.t 0), (some (27, true)), false, []⟩,
    ⟨(some 29), .nilchk (.t 28), (some (27, true)), false, []⟩,
    ⟨(some 30), .faddr 1 (.t 29), (some (27, true)), false, []⟩,
    ⟨(some 31), .load 1 false (.t 30), (some (27, true)), false, []⟩,
    ⟨(some 32), .nilchk (.t 31), (some (27, true)), false, []⟩,
    ⟨(some 33), .iaddr 1 (some 2) (.t 32) (.c (.int .i64 1)), (some (27, true)), false, []⟩,
    ⟨(some 34), .load 1 false (.t 33), (some (27, true)), false, []⟩,
    ⟨(some 35), .mov (.t 1), (some (27, true)), false, []⟩,
    ⟨(some 36), .call f___rope_Rope__each [(.t 34), (.t 35)], (some (27, true)), false, []⟩,
    ⟨(some 37), .pick (.t 27) (.t 36) (.c (.bool false)), none, false, []⟩,
    ⟨(some 4), .mov (.t 37), none, false, []⟩] none [4])
  .ret))))
def __rope_Rope__each_r : List RRes := [.tmp 4]
def __rope_Rope__each_hi : Hi := ⟨[], [(0, "r"), (1, "yield"), (2, "r"), (3, "yield")]⟩
def __rope_Rope__each_an : An := .d
def __rope_Rope__each_fi : Fi := ⟨38, __rope_Rope__each_c, __rope_Rope__each_r, __rope_Rope__each_an, __rope_Rope__each_hi, none⟩
theorem __rope_Rope__each_ok : FiOk Try.prog f___rope_Rope__each __rope_Rope__each_fi :=
  ⟨fun _ => by kernel_rfl, fun _ h hlen => fun_sound (by kernel_rfl) (fn := Try.f18) (draw_sound _ _) Try.func18 rfl (by kernel_rfl : comp Try.prog 38 _ __rope_Rope__each_c = some __rope_Rope__each_c) (by kernel_rfl : cRes Try.prog Try.f18.results.toList = some __rope_Rope__each_r) hlen h, fun _ h => nomatch h⟩

end Go.Proofs.Ytgiglabejffciaa.P
