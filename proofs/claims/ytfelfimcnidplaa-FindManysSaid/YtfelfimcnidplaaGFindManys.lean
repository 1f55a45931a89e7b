/- The functions' simplified code, printed by a program of the claim's author; each is checked against the program's own code. Conditions: none. -/
import Derived.Test.YtfelfimcnidplaaProg
import Derived.Test.YtfelfimcnidplaaVyM
set_option linter.unusedVariables false
set_option maxRecDepth 100000
namespace Go.Proofs.Ytfelfimcnidplaa
open Go.Vc
abbrev f_gosem_cut_init : Nat := 2
abbrev f_law_FindManys : Nat := 3
abbrev f_find_Many : Nat := 4
abbrev f_ref_FindMany : Nat := 5
abbrev f_find_fault : Nat := 6
abbrev f_slices_Contains___string_string_ : Nat := 7
abbrev f_find_machine : Nat := 8
abbrev f___find_state__step : Nat := 9
abbrev f_slices_SortFunc___api_Hit_api_Hit_ : Nat := 10
abbrev f_find_Many_1 : Nat := 11
abbrev f_cmp_Compare_int_ : Nat := 12
abbrev f_ref_findFault : Nat := 13
abbrev f_ref_standsAt : Nat := 14
abbrev f_slices_Index___string_string_ : Nat := 15
abbrev f_slices_pdqsortCmpFunc_api_Hit_ : Nat := 16
abbrev f_math_bits_Len : Nat := 17
abbrev f_cmp_isNaN_int_ : Nat := 18
abbrev f_slices_insertionSortCmpFunc_api_Hit_ : Nat := 19
abbrev f_slices_heapSortCmpFunc_api_Hit_ : Nat := 20
abbrev f_slices_breakPatternsCmpFunc_api_Hit_ : Nat := 21
abbrev f_slices_choosePivotCmpFunc_api_Hit_ : Nat := 22
abbrev f_slices_reverseRangeCmpFunc_api_Hit_ : Nat := 23
abbrev f_slices_partialInsertionSortCmpFunc_api_Hit_ : Nat := 24
abbrev f_slices_partitionEqualCmpFunc_api_Hit_ : Nat := 25
abbrev f_slices_partitionCmpFunc_api_Hit_ : Nat := 26
abbrev f_math_bits_Len32 : Nat := 27
abbrev f_math_bits_Len64 : Nat := 28
abbrev f_slices_siftDownCmpFunc_api_Hit_ : Nat := 29
abbrev f_slices_nextPowerOfTwo : Nat := 30
abbrev f___slices_xorshift__Next : Nat := 31
abbrev f_slices_medianAdjacentCmpFunc_api_Hit_ : Nat := 32
abbrev f_slices_medianCmpFunc_api_Hit_ : Nat := 33
abbrev f_slices_order2CmpFunc_api_Hit_ : Nat := 34

/-- fustian/find.fault: slots [0 text, 1 find, 2 text, 3 find] -/
def find_fault_c : SCode :=
  (.seq (.ops [⟨(some 4), .mov (.c (.int .i64 0)), none, false, []⟩] none [0, 1])
  (.seq (.block 0 (.seq (.ops [⟨(some 6), .mov (.t 0), none, false, []⟩,
    ⟨(some 7), .len true (.t 6), none, false, []⟩,
    ⟨(some 8), .bin .none .gtr (.t 7) (.c (.int .i64 600)), none, false, []⟩,
    ⟨(some 9), .mov (.t 8), none, true, []⟩,
    ⟨(some 10), .mov (.t 1), (some (9, false)), false, []⟩,
    ⟨(some 11), .len true (.t 10), (some (9, false)), false, []⟩,
    ⟨(some 12), .bin .none .gtr (.t 11) (.c (.int .i64 20)), (some (9, false)), false, []⟩,
    ⟨(some 13), .pick (.t 9) (.c (.bool true)) (.t 12), none, false, []⟩,
    ⟨(some 5), .mov (.t 13), none, false, []⟩] none [1, 5])
  (.cond (.t 5)
    (.seq (.ops [⟨(some 4), .mov (.c (.int .i64 1)), none, false, []⟩] none [4])
    .ret)
    (.seq (.ops [⟨(some 15), .mov (.t 1), none, false, []⟩,
      ⟨(some 16), .bin .none .eql (.t 15) (.c (.str [])), none, false, []⟩,
      ⟨(some 14), .mov (.t 16), none, false, []⟩] none [14])
    (.cond (.t 14)
      (.seq (.ops [⟨(some 4), .mov (.c (.int .i64 4)), none, false, []⟩] none [4])
      .ret)
      .skip)))))
  (.seq (.ops [⟨(some 4), .mov (.c (.int .i64 0)), none, false, []⟩] none [4])
  .ret)))
def find_fault_r : List RRes := [.tmp 4]
def find_fault_hi : Hi := ⟨[], [(0, "text"), (1, "find"), (2, "text"), (3, "find")]⟩
def find_fault_an : An := .d
def find_fault_fi : Fi := ⟨17, find_fault_c, find_fault_r, find_fault_an, find_fault_hi, none⟩
theorem find_fault_ok : FiOk Try.prog f_find_fault find_fault_fi :=
  ⟨fun _ => by kernel_rfl, fun _ h hlen => fun_sound (by kernel_rfl) (fn := Try.f6) (draw_sound _ _) Try.func6 rfl (by kernel_rfl : comp Try.prog 17 _ find_fault_c = some find_fault_c) (by kernel_rfl : cRes Try.prog Try.f6.results.toList = some find_fault_r) hlen h, fun _ h => nomatch h⟩

/-- slices.Index[[]string,string]: slots [0 s, 1 v, 2 s, 3 v, 5 i] -/
def slices_Index___string_string__c : SCode :=
  (.seq (.ops [⟨(some 4), .mov (.c (.int .i64 0)), none, false, []⟩] none [0, 1])
  (.seq (.seq (.ops [⟨(some 6), .mov (.t 0), none, false, []⟩,
    ⟨(some 7), .len false (.t 6), none, false, []⟩,
    ⟨(some 8), .mov (.c (.int .i64 0)), none, false, []⟩] none [0, 1, 7, 8])
  (.block 0 (.loop [0, 1, 7] [8] 0
    (.seq (.ops [⟨(some 9), .bin .none .lss (.t 8) (.t 7), none, false, []⟩] none [0, 1, 7, 8, 9])
    (.seq (.cond (.t 9)
      .skip
      (.exit 0))
    (.seq (.block 1 (.seq (.ops [⟨(some 10), .mov (.t 8), none, false, []⟩,
      ⟨(some 5), .mov (.t 10), none, false, []⟩] none [0, 1, 5, 7, 8])
    (.seq (.ops [⟨(some 11), .mov (.t 1), none, false, []⟩,
      ⟨(some 12), .mov (.t 0), none, false, []⟩,
      ⟨(some 13), .mov (.t 5), none, false, []⟩,
      ⟨(some 14), .iaddr 1 none (.t 12) (.t 13), none, false, []⟩,
      ⟨(some 15), .load 1 false (.t 14), none, false, []⟩,
      ⟨(some 16), .bin .none .eql (.t 11) (.t 15), none, false, []⟩] none [0, 1, 5, 7, 8, 16])
    (.cond (.t 16)
      (.seq (.ops [⟨(some 17), .mov (.t 5), none, false, []⟩,
        ⟨(some 4), .mov (.t 17), none, false, []⟩] none [4])
      .ret)
      .skip))))
    (.ops [⟨(some 18), .bin .none .add (.t 8) (.c (.int .i64 1)), none, false, []⟩,
      ⟨(some 8), .mov (.t 18), none, false, []⟩] none [0, 1, 7, 8])))))))
  (.seq (.ops [⟨(some 4), .mov (.c (.int .i64 (-1))), none, false, []⟩] none [4])
  .ret)))
def slices_Index___string_string__r : List RRes := [.tmp 4]
def slices_Index___string_string__hi : Hi := ⟨[], [(0, "s"), (1, "v"), (2, "s"), (3, "v"), (5, "i")]⟩
def slices_Index___string_string__an : An := (.seq .d (.seq (.seq .d (.loop [] [] [] .d)) .d))
def slices_Index___string_string__fi : Fi := ⟨19, slices_Index___string_string__c, slices_Index___string_string__r, slices_Index___string_string__an, slices_Index___string_string__hi, none⟩
theorem slices_Index___string_string__ok : FiOk Try.prog f_slices_Index___string_string_ slices_Index___string_string__fi :=
  ⟨fun _ => by kernel_rfl, fun _ h hlen => fun_sound (by kernel_rfl) (fn := Try.f15) (draw_sound _ _) Try.func15 rfl (by kernel_rfl : comp Try.prog 19 _ slices_Index___string_string__c = some slices_Index___string_string__c) (by kernel_rfl : cRes Try.prog Try.f15.results.toList = some slices_Index___string_string__r) hlen h, fun _ h => nomatch h⟩

/-- slices.Contains[[]string,string]: slots [0 s, 1 v, 2 s, 3 v] -/
def slices_Contains___string_string__c : SCode :=
  (.seq (.ops [⟨(some 4), .mov (.c (.bool false)), none, false, []⟩] none [0, 1])
  (.seq (.ops [⟨(some 5), .mov (.t 0), none, false, []⟩,
    ⟨(some 6), .mov (.t 1), none, false, []⟩,
    ⟨(some 7), .call f_slices_Index___string_string_ [(.t 5), (.t 6)], none, false, []⟩,
    ⟨(some 8), .bin .none .geq (.t 7) (.c (.int .i64 0)), none, false, []⟩,
    ⟨(some 4), .mov (.t 8), none, false, []⟩] none [4])
  .ret))
def slices_Contains___string_string__r : List RRes := [.tmp 4]
def slices_Contains___string_string__hi : Hi := ⟨[], [(0, "s"), (1, "v"), (2, "s"), (3, "v")]⟩
def slices_Contains___string_string__an : An := .d
def slices_Contains___string_string__fi : Fi := ⟨9, slices_Contains___string_string__c, slices_Contains___string_string__r, slices_Contains___string_string__an, slices_Contains___string_string__hi, none⟩
theorem slices_Contains___string_string__ok : FiOk Try.prog f_slices_Contains___string_string_ slices_Contains___string_string__fi :=
  ⟨fun _ => by kernel_rfl, fun _ h hlen => fun_sound (by kernel_rfl) (fn := Try.f7) (draw_sound _ _) Try.func7 rfl (by kernel_rfl : comp Try.prog 9 _ slices_Contains___string_string__c = some slices_Contains___string_string__c) (by kernel_rfl : cRes Try.prog Try.f7.results.toList = some slices_Contains___string_string__r) hlen h, fun _ h => nomatch h⟩

/-- cmp.isNaN[int]: slots [0 x, 1 x] -/
def cmp_isNaN_int__c : SCode :=
  (.seq (.ops [⟨(some 2), .mov (.c (.bool false)), none, false, []⟩] none [0])
  (.seq (.ops [⟨(some 3), .mov (.t 0), none, false, []⟩,
    ⟨(some 4), .mov (.t 0), none, false, []⟩,
    ⟨(some 5), .bin .none .neq (.t 3) (.t 4), none, false, []⟩,
    ⟨(some 2), .mov (.t 5), none, false, []⟩] none [2])
  .ret))
def cmp_isNaN_int__r : List RRes := [.tmp 2]
def cmp_isNaN_int__hi : Hi := ⟨[], [(0, "x"), (1, "x")]⟩
def cmp_isNaN_int__an : An := .d
def cmp_isNaN_int__fi : Fi := ⟨6, cmp_isNaN_int__c, cmp_isNaN_int__r, cmp_isNaN_int__an, cmp_isNaN_int__hi, none⟩
theorem cmp_isNaN_int__ok : FiOk Try.prog f_cmp_isNaN_int_ cmp_isNaN_int__fi :=
  ⟨fun _ => by kernel_rfl, fun _ h hlen => fun_sound (by kernel_rfl) (fn := Try.f18) (draw_sound _ _) Try.func18 rfl (by kernel_rfl : comp Try.prog 6 _ cmp_isNaN_int__c = some cmp_isNaN_int__c) (by kernel_rfl : cRes Try.prog Try.f18.results.toList = some cmp_isNaN_int__r) hlen h, fun _ h => nomatch h⟩

/-- cmp.Compare[int]: slots [0 x, 1 y, 2 x, 3 y, 5 xNaN, 6 yNaN] -/
def cmp_Compare_int__c : SCode :=
  (.seq (.ops [⟨(some 4), .mov (.c (.int .i64 0)), none, false, []⟩] none [0, 1])
  (.seq (.ops [⟨(some 7), .mov (.t 0), none, false, []⟩,
    ⟨(some 8), .call f_cmp_isNaN_int_ [(.t 7)], none, false, []⟩,
    ⟨(some 5), .mov (.t 8), none, false, []⟩] none [0, 1, 5])
  (.seq (.ops [⟨(some 9), .mov (.t 1), none, false, []⟩,
    ⟨(some 10), .call f_cmp_isNaN_int_ [(.t 9)], none, false, []⟩,
    ⟨(some 6), .mov (.t 10), none, false, []⟩] none [0, 1, 5, 6])
  (.seq (.seq (.ops [⟨(some 11), .mov (.t 5), none, false, []⟩] none [0, 1, 6, 11])
  (.cond (.t 11)
    (.seq (.seq (.ops [⟨(some 12), .mov (.t 6), none, false, []⟩] none [12])
    (.cond (.t 12)
      (.seq (.ops [⟨(some 4), .mov (.c (.int .i64 0)), none, false, []⟩] none [4])
      .ret)
      .skip))
    (.seq (.ops [⟨(some 4), .mov (.c (.int .i64 (-1))), none, false, []⟩] none [4])
    .ret))
    .skip))
  (.seq (.seq (.ops [⟨(some 13), .mov (.t 6), none, false, []⟩] none [0, 1, 13])
  (.cond (.t 13)
    (.seq (.ops [⟨(some 4), .mov (.c (.int .i64 1)), none, false, []⟩] none [4])
    .ret)
    .skip))
  (.seq (.seq (.ops [⟨(some 14), .mov (.t 0), none, false, []⟩,
    ⟨(some 15), .mov (.t 1), none, false, []⟩,
    ⟨(some 16), .bin .none .lss (.t 14) (.t 15), none, false, []⟩] none [0, 1, 16])
  (.cond (.t 16)
    (.seq (.ops [⟨(some 4), .mov (.c (.int .i64 (-1))), none, false, []⟩] none [4])
    .ret)
    .skip))
  (.seq (.seq (.ops [⟨(some 17), .mov (.t 0), none, false, []⟩,
    ⟨(some 18), .mov (.t 1), none, false, []⟩,
    ⟨(some 19), .bin .none .gtr (.t 17) (.t 18), none, false, []⟩] none [19])
  (.cond (.t 19)
    (.seq (.ops [⟨(some 4), .mov (.c (.int .i64 1)), none, false, []⟩] none [4])
    .ret)
    .skip))
  (.seq (.ops [⟨(some 4), .mov (.c (.int .i64 0)), none, false, []⟩] none [4])
  .ret))))))))
def cmp_Compare_int__r : List RRes := [.tmp 4]
def cmp_Compare_int__hi : Hi := ⟨[], [(0, "x"), (1, "y"), (2, "x"), (3, "y"), (5, "xNaN"), (6, "yNaN")]⟩
def cmp_Compare_int__an : An := .d
def cmp_Compare_int__fi : Fi := ⟨20, cmp_Compare_int__c, cmp_Compare_int__r, cmp_Compare_int__an, cmp_Compare_int__hi, none⟩
theorem cmp_Compare_int__ok : FiOk Try.prog f_cmp_Compare_int_ cmp_Compare_int__fi :=
  ⟨fun _ => by kernel_rfl, fun _ h hlen => fun_sound (by kernel_rfl) (fn := Try.f12) (draw_sound _ _) Try.func12 rfl (by kernel_rfl : comp Try.prog 20 _ cmp_Compare_int__c = some cmp_Compare_int__c) (by kernel_rfl : cRes Try.prog Try.f12.results.toList = some cmp_Compare_int__r) hlen h, fun _ h => nomatch h⟩

/-- fustian/find.Many$1: slots [0 a, 1 b, 2 a, 3 b] -/
def find_Many_1_c : SCode :=
  (.seq (.ops [⟨(some 2), .box 0 (.t 0), none, false, []⟩,
    ⟨(some 3), .box 0 (.t 1), none, false, []⟩,
    ⟨(some 4), .mov (.c (.int .i64 0)), none, false, []⟩] none [2, 3])
  (.seq (.ops [⟨(some 5), .faddr 0 (.t 2), none, false, []⟩,
    ⟨(some 6), .load 1 false (.t 5), none, false, []⟩,
    ⟨(some 7), .faddr 0 (.t 3), none, false, []⟩,
    ⟨(some 8), .load 1 false (.t 7), none, false, []⟩,
    ⟨(some 9), .call f_cmp_Compare_int_ [(.t 6), (.t 8)], none, false, []⟩,
    ⟨(some 4), .mov (.t 9), none, false, []⟩] none [4])
  .ret))
def find_Many_1_r : List RRes := [.tmp 4]
def find_Many_1_hi : Hi := ⟨[(2, (.st (.cons (.int .i64) (.cons (.int .i64) .nil)))), (3, (.st (.cons (.int .i64) (.cons (.int .i64) .nil))))], [(0, "a"), (1, "b"), (2, "a"), (3, "b")]⟩
def find_Many_1_an : An := .d
def find_Many_1_fi : Fi := ⟨10, find_Many_1_c, find_Many_1_r, find_Many_1_an, find_Many_1_hi, none⟩
theorem find_Many_1_ok : FiOk Try.prog f_find_Many_1 find_Many_1_fi :=
  ⟨fun _ => by kernel_rfl, fun _ h hlen => fun_sound (by kernel_rfl) (fn := Try.f11) (draw_sound _ _) Try.func11 rfl (by kernel_rfl : comp Try.prog 10 _ find_Many_1_c = some find_Many_1_c) (by kernel_rfl : cRes Try.prog Try.f11.results.toList = some find_Many_1_r) hlen h, fun _ h => nomatch h⟩

/-- fustian/fustianref.findFault: slots [0 text, 1 find, 2 text, 3 find] -/
def ref_findFault_c : SCode :=
  (.seq (.ops [⟨(some 4), .mov (.c (.int .i64 0)), none, false, []⟩] none [0, 1])
  (.seq (.seq (.ops [⟨(some 5), .mov (.t 0), none, false, []⟩,
    ⟨(some 6), .len true (.t 5), none, false, []⟩,
    ⟨(some 7), .bin .none .gtr (.t 6) (.c (.int .i64 600)), none, false, []⟩,
    ⟨(some 8), .mov (.t 7), none, true, []⟩,
    ⟨(some 9), .mov (.t 1), (some (8, false)), false, []⟩,
    ⟨(some 10), .len true (.t 9), (some (8, false)), false, []⟩,
    ⟨(some 11), .bin .none .gtr (.t 10) (.c (.int .i64 20)), (some (8, false)), false, []⟩,
    ⟨(some 12), .pick (.t 8) (.c (.bool true)) (.t 11), none, false, []⟩] none [1, 12])
  (.cond (.t 12)
    (.seq (.ops [⟨(some 4), .mov (.c (.int .i64 1)), none, false, []⟩] none [4])
    .ret)
    .skip))
  (.seq (.seq (.ops [⟨(some 13), .mov (.t 1), none, false, []⟩,
    ⟨(some 14), .bin .none .eql (.t 13) (.c (.str [])), none, false, []⟩] none [14])
  (.cond (.t 14)
    (.seq (.ops [⟨(some 4), .mov (.c (.int .i64 4)), none, false, []⟩] none [4])
    .ret)
    .skip))
  (.seq (.ops [⟨(some 4), .mov (.c (.int .i64 0)), none, false, []⟩] none [4])
  .ret))))
def ref_findFault_r : List RRes := [.tmp 4]
def ref_findFault_hi : Hi := ⟨[], [(0, "text"), (1, "find"), (2, "text"), (3, "find")]⟩
def ref_findFault_an : An := .d
def ref_findFault_fi : Fi := ⟨15, ref_findFault_c, ref_findFault_r, ref_findFault_an, ref_findFault_hi, none⟩
theorem ref_findFault_ok : FiOk Try.prog f_ref_findFault ref_findFault_fi :=
  ⟨fun _ => by kernel_rfl, fun _ h hlen => fun_sound (by kernel_rfl) (fn := Try.f13) (draw_sound _ _) Try.func13 rfl (by kernel_rfl : comp Try.prog 15 _ ref_findFault_c = some ref_findFault_c) (by kernel_rfl : cRes Try.prog Try.f13.results.toList = some ref_findFault_r) hlen h, fun _ h => nomatch h⟩

/-- fustian/fustianref.standsAt: slots [0 text, 1 find, 2 at, 3 text, 4 find, 5 at] -/
def ref_standsAt_c : SCode :=
  (.seq (.ops [⟨(some 6), .mov (.c (.bool false)), none, false, []⟩] none [0, 1, 2])
  (.seq (.ops [⟨(some 7), .mov (.t 2), none, false, []⟩,
    ⟨(some 8), .bin .none .geq (.t 7) (.c (.int .i64 0)), none, false, []⟩,
    ⟨(some 9), .mov (.t 8), none, true, []⟩,
    ⟨(some 10), .mov (.t 2), (some (9, true)), false, []⟩,
    ⟨(some 11), .mov (.t 1), (some (9, true)), false, []⟩,
    ⟨(some 12), .len true (.t 11), (some (9, true)), false, []⟩,
    ⟨(some 13), .bin .none .add (.t 10) (.t 12), (some (9, true)), false, []⟩,
    ⟨(some 14), .mov (.t 0), (some (9, true)), false, []⟩,
    ⟨(some 15), .len true (.t 14), (some (9, true)), false, []⟩,
    ⟨(some 16), .bin .none .leq (.t 13) (.t 15), (some (9, true)), false, []⟩,
    ⟨(some 17), .pick (.t 9) (.t 16) (.c (.bool false)), none, false, []⟩,
    ⟨(some 18), .mov (.t 17), none, true, []⟩,
    ⟨(some 19), .mov (.t 0), (some (18, true)), false, []⟩,
    ⟨(some 20), .mov (.t 2), (some (18, true)), false, []⟩,
    ⟨(some 21), .mov (.t 2), (some (18, true)), false, []⟩,
    ⟨(some 22), .mov (.t 1), (some (18, true)), false, []⟩,
    ⟨(some 23), .len true (.t 22), (some (18, true)), false, []⟩,
    ⟨(some 24), .bin .none .add (.t 21) (.t 23), (some (18, true)), false, []⟩,
    ⟨(some 25), .slice 0 (.t 19) (some (.t 20)) (some (.t 24)), (some (18, true)), false, []⟩,
    ⟨(some 26), .mov (.t 1), (some (18, true)), false, []⟩,
    ⟨(some 27), .bin .none .eql (.t 25) (.t 26), (some (18, true)), false, []⟩,
    ⟨(some 28), .pick (.t 18) (.t 27) (.c (.bool false)), none, false, []⟩,
    ⟨(some 6), .mov (.t 28), none, false, []⟩] none [6])
  .ret))
def ref_standsAt_r : List RRes := [.tmp 6]
def ref_standsAt_hi : Hi := ⟨[], [(0, "text"), (1, "find"), (2, "at"), (3, "text"), (4, "find"), (5, "at")]⟩
def ref_standsAt_an : An := .d
def ref_standsAt_fi : Fi := ⟨29, ref_standsAt_c, ref_standsAt_r, ref_standsAt_an, ref_standsAt_hi, none⟩
theorem ref_standsAt_ok : FiOk Try.prog f_ref_standsAt ref_standsAt_fi :=
  ⟨fun _ => by kernel_rfl, fun _ h hlen => fun_sound (by kernel_rfl) (fn := Try.f14) (draw_sound _ _) Try.func14 rfl (by kernel_rfl : comp Try.prog 29 _ ref_standsAt_c = some ref_standsAt_c) (by kernel_rfl : cRes Try.prog Try.f14.results.toList = some ref_standsAt_r) hlen h, fun _ h => nomatch h⟩

/-- fustian/fustianref.FindMany: slots [0 text, 1 finds, 2 text, 3 finds, 6 i, 7 s, 8 e, 9 _, 10 t, 11 out, 12 end, 13 long, 14 i, 15 s] -/
def ref_FindMany_c : SCode :=
  (.seq (.ops [⟨(some 4), .mov (.c .nils), none, false, []⟩,
    ⟨(some 5), .mov (.c (.int .i64 0)), none, false, []⟩] none [0, 1])
  (.seq (.seq (.ops [⟨(some 16), .mov (.t 0), none, false, []⟩,
    ⟨(some 17), .len true (.t 16), none, false, []⟩,
    ⟨(some 18), .bin .none .gtr (.t 17) (.c (.int .i64 600)), none, false, []⟩,
    ⟨(some 19), .mov (.t 18), none, true, []⟩,
    ⟨(some 20), .mov (.t 1), (some (19, false)), false, []⟩,
    ⟨(some 21), .len false (.t 20), (some (19, false)), false, []⟩,
    ⟨(some 22), .bin .none .gtr (.t 21) (.c (.int .i64 20)), (some (19, false)), false, []⟩,
    ⟨(some 23), .pick (.t 19) (.c (.bool true)) (.t 22), none, false, []⟩] none [0, 1, 23])
  (.cond (.t 23)
    (.seq (.ops [⟨(some 4), .mov (.c .nils), none, false, []⟩,
      ⟨(some 5), .mov (.c (.int .i64 1)), none, false, []⟩] none [4, 5])
    .ret)
    .skip))
  (.seq (.seq (.ops [⟨(some 24), .mov (.t 1), none, false, []⟩,
    ⟨(some 25), .len false (.t 24), none, false, []⟩,
    ⟨(some 26), .mov (.c (.int .i64 0)), none, false, []⟩] none [0, 1, 24, 25, 26])
  (.block 0 (.loop [0, 1, 24, 25] [26] 0
    (.seq (.ops [⟨(some 27), .bin .none .lss (.t 26) (.t 25), none, false, []⟩] none [0, 1, 24, 25, 26, 27])
    (.seq (.cond (.t 27)
      .skip
      (.exit 0))
    (.seq (.block 1 (.seq (.ops [⟨(some 28), .mov (.t 26), none, false, []⟩,
      ⟨(some 29), .iaddr 1 none (.t 24) (.t 26), none, false, []⟩,
      ⟨(some 30), .load 1 false (.t 29), none, false, []⟩,
      ⟨(some 6), .mov (.t 28), none, false, []⟩,
      ⟨(some 7), .mov (.t 30), none, false, []⟩] none [0, 1, 6, 7, 24, 25, 26])
    (.seq (.seq (.ops [⟨(some 31), .mov (.t 0), none, false, []⟩,
      ⟨(some 32), .mov (.t 7), none, false, []⟩,
      ⟨(some 33), .call f_ref_findFault [(.t 31), (.t 32)], none, false, []⟩,
      ⟨(some 8), .mov (.t 33), none, false, []⟩] none [0, 1, 6, 7, 8, 24, 25, 26])
    (.seq (.ops [⟨(some 34), .mov (.t 8), none, false, []⟩,
      ⟨(some 35), .bin .none .neq (.t 34) (.c (.int .i64 0)), none, false, []⟩] none [0, 1, 6, 7, 8, 24, 25, 26, 35])
    (.cond (.t 35)
      (.seq (.ops [⟨(some 36), .mov (.t 8), none, false, []⟩,
        ⟨(some 4), .mov (.c .nils), none, false, []⟩,
        ⟨(some 5), .mov (.t 36), none, false, []⟩] none [4, 5])
      .ret)
      .skip)))
    (.seq (.ops [⟨(some 37), .mov (.t 1), none, false, []⟩,
      ⟨(some 38), .mov (.t 6), none, false, []⟩,
      ⟨(some 39), .slice 1 (.t 37) none (some (.t 38)), none, false, []⟩,
      ⟨(some 40), .len false (.t 39), none, false, []⟩,
      ⟨(some 41), .mov (.c (.int .i64 0)), none, false, []⟩] none [0, 1, 7, 24, 25, 26, 39, 40, 41])
    (.block 2 (.loop [0, 1, 7, 24, 25, 26, 39, 40] [41] 0
      (.seq (.ops [⟨(some 42), .bin .none .lss (.t 41) (.t 40), none, false, []⟩] none [0, 1, 7, 24, 25, 26, 39, 40, 41, 42])
      (.seq (.cond (.t 42)
        .skip
        (.exit 2))
      (.seq (.block 3 (.seq (.ops [⟨(some 43), .iaddr 1 none (.t 39) (.t 41), none, false, []⟩,
        ⟨(some 44), .load 1 false (.t 43), none, false, []⟩,
        ⟨(some 10), .mov (.t 44), none, false, []⟩] none [0, 1, 7, 10, 24, 25, 26, 39, 40, 41])
      (.seq (.ops [⟨(some 45), .mov (.t 7), none, false, []⟩,
        ⟨(some 46), .mov (.t 10), none, false, []⟩,
        ⟨(some 47), .bin .none .eql (.t 45) (.t 46), none, false, []⟩] none [0, 1, 7, 24, 25, 26, 39, 40, 41, 47])
      (.cond (.t 47)
        (.seq (.ops [⟨(some 4), .mov (.c .nils), none, false, []⟩,
          ⟨(some 5), .mov (.c (.int .i64 4)), none, false, []⟩] none [4, 5])
        .ret)
        .skip))))
      (.ops [⟨(some 48), .bin .none .add (.t 41) (.c (.int .i64 1)), none, false, []⟩,
        ⟨(some 41), .mov (.t 48), none, false, []⟩] none [0, 1, 7, 24, 25, 26, 39, 40, 41]))))))))))
    (.ops [⟨(some 49), .bin .none .add (.t 26) (.c (.int .i64 1)), none, false, []⟩,
      ⟨(some 26), .mov (.t 49), none, false, []⟩] none [0, 1, 24, 25, 26])))))))
  (.seq (.ops [⟨(some 11), .newnil 2, none, false, []⟩] none [0, 1, 11])
  (.seq (.seq (.ops [⟨(some 12), .mov (.c (.int .i64 1)), none, false, []⟩] none [0, 1, 11, 12])
  (.block 4 (.loop [0, 1] [11, 12] 1
    (.seq (.seq (.ops [⟨(some 50), .mov (.t 12), none, false, []⟩,
      ⟨(some 51), .mov (.t 0), none, false, []⟩,
      ⟨(some 52), .len true (.t 51), none, false, []⟩,
      ⟨(some 53), .bin .none .leq (.t 50) (.t 52), none, false, []⟩] none [0, 1, 11, 12, 53])
    (.cond (.t 53)
      .skip
      (.exit 4)))
    (.seq (.block 5 (.seq (.ops [⟨(some 13), .mov (.c (.int .i64 20)), none, false, []⟩] none [0, 1, 11, 12, 13])
    (.block 6 (.loop [0, 1, 12] [11, 13] 1
      (.seq (.seq (.ops [⟨(some 56), .mov (.t 13), none, false, []⟩,
        ⟨(some 57), .bin .none .gtr (.t 56) (.c (.int .i64 0)), none, false, []⟩] none [0, 1, 11, 12, 13, 57])
      (.cond (.t 57)
        .skip
        (.exit 6)))
      (.seq (.block 7 (.seq (.ops [⟨(some 60), .mov (.t 1), none, false, []⟩,
        ⟨(some 61), .len false (.t 60), none, false, []⟩,
        ⟨(some 62), .mov (.c (.int .i64 0)), none, false, []⟩] none [0, 1, 11, 12, 13, 60, 61, 62])
      (.block 8 (.loop [0, 1, 12, 13, 60, 61] [11, 62] 1
        (.seq (.ops [⟨(some 63), .bin .none .lss (.t 62) (.t 61), none, false, []⟩] none [0, 1, 11, 12, 13, 60, 61, 62, 63])
        (.seq (.cond (.t 63)
          .skip
          (.exit 8))
        (.join [0, 1, 12, 13, 60, 61, 62] [11] 1 (.block 9 (.seq (.ops [⟨(some 64), .mov (.t 62), none, false, []⟩,
            ⟨(some 65), .iaddr 1 none (.t 60) (.t 62), none, false, []⟩,
            ⟨(some 66), .load 1 false (.t 65), none, false, []⟩,
            ⟨(some 14), .mov (.t 64), none, false, []⟩,
            ⟨(some 15), .mov (.t 66), none, false, []⟩] none [0, 1, 11, 12, 13, 14, 15, 60, 61, 62])
          (.seq (.ops [⟨(some 67), .mov (.t 15), none, false, []⟩,
            ⟨(some 68), .len true (.t 67), none, false, []⟩,
            ⟨(some 69), .mov (.t 13), none, false, []⟩,
            ⟨(some 70), .bin .none .eql (.t 68) (.t 69), none, false, []⟩,
            ⟨(some 71), .mov (.t 70), none, true, []⟩,
            ⟨(some 72), .mov (.t 0), (some (71, true)), false, []⟩,
            ⟨(some 73), .mov (.t 15), (some (71, true)), false, []⟩,
            ⟨(some 74), .mov (.t 12), (some (71, true)), false, []⟩,
            ⟨(some 75), .mov (.t 13), (some (71, true)), false, []⟩,
            ⟨(some 76), .bin .none .sub (.t 74) (.t 75), (some (71, true)), false, []⟩,
            ⟨(some 77), .call f_ref_standsAt [(.t 72), (.t 73), (.t 76)], (some (71, true)), false, []⟩,
            ⟨(some 78), .pick (.t 71) (.t 77) (.c (.bool false)), none, false, []⟩] none [0, 1, 11, 12, 13, 14, 60, 61, 62, 78])
          (.cond (.t 78)
            (.ops [⟨(some 79), .mov (.t 11), none, false, []⟩,
              ⟨(some 80), .mov (.t 12), none, false, []⟩,
              ⟨(some 81), .mov (.t 13), none, false, []⟩,
              ⟨(some 82), .bin .none .sub (.t 80) (.t 81), none, false, []⟩,
              ⟨(some 83), .mov (.t 14), none, false, []⟩,
              ⟨(some 84), .build [(.int .i64 0), (.int .i64 0)] [(0, 1, (.t 82)), (1, 1, (.t 83))], none, false, []⟩,
              ⟨(some 85), .bslice true 1 2 [(.int .i64 0), (.int .i64 0)] [(0, 2, (.t 84))], none, false, []⟩,
              ⟨(some 86), .append 2 16 (.t 79) (.t 85), none, false, []⟩,
              ⟨(some 11), .mov (.t 86), none, false, []⟩] none [0, 1, 11, 12, 13, 60, 61, 62])
            .skip))))
        (.ops [⟨(some 87), .bin .none .add (.t 62) (.c (.int .i64 1)), none, false, []⟩,
          ⟨(some 62), .mov (.t 87), none, false, []⟩] none [0, 1, 11, 12, 13, 60, 61, 62]))))))))
      (.ops [⟨(some 58), .mov (.t 13), none, false, []⟩,
        ⟨(some 59), .bin .none .sub (.t 58) (.c (.int .i64 1)), none, false, []⟩,
        ⟨(some 13), .mov (.t 59), none, false, []⟩] none [0, 1, 11, 12, 13])))))))
    (.ops [⟨(some 54), .mov (.t 12), none, false, []⟩,
      ⟨(some 55), .bin .none .add (.t 54) (.c (.int .i64 1)), none, false, []⟩,
      ⟨(some 12), .mov (.t 55), none, false, []⟩] none [0, 1, 11, 12]))))))
  (.seq (.ops [⟨(some 88), .mov (.t 11), none, false, []⟩,
    ⟨(some 4), .mov (.t 88), none, false, []⟩,
    ⟨(some 5), .mov (.c (.int .i64 0)), none, false, []⟩] none [4, 5])
  .ret))))))
def ref_FindMany_r : List RRes := [.tmp 4, .tmp 5]
def ref_FindMany_hi : Hi := ⟨[(11, (.st (.cons (.int .i64) (.cons (.int .i64) .nil)))), (85, (.st (.cons (.int .i64) (.cons (.int .i64) .nil)))), (86, (.st (.cons (.int .i64) (.cons (.int .i64) .nil))))], [(0, "text"), (1, "finds"), (2, "text"), (3, "finds"), (6, "i"), (7, "s"), (8, "e"), (10, "t"), (11, "out"), (12, "end"), (13, "long"), (14, "i"), (15, "s")]⟩
def ref_FindMany_an : An := (.seq .d (.seq .d (.seq (.seq .d (.loop [] [] [] (.seq .d (.seq .d (.seq (.seq .d (.seq .d (.seq .d (.loop [] [] [] .d)))) .d))))) (.seq .d (.seq (.seq .d (.loop [11] [] [] (.seq .d (.seq (.seq .d (.loop [11] [] [] (.seq .d (.seq (.seq .d (.loop [11] [] [] .d)) .d)))) .d)))) .d)))))
def ref_FindMany_fi : Fi := ⟨89, ref_FindMany_c, ref_FindMany_r, ref_FindMany_an, ref_FindMany_hi, none⟩
theorem ref_FindMany_ok : FiOk Try.prog f_ref_FindMany ref_FindMany_fi :=
  ⟨fun _ => by kernel_rfl, fun _ h hlen => fun_sound (by kernel_rfl) (fn := Try.f5) (draw_sound _ _) Try.func5 rfl (by kernel_rfl : comp Try.prog 89 _ ref_FindMany_c = some ref_FindMany_c) (by kernel_rfl : cRes Try.prog Try.f5.results.toList = some ref_FindMany_r) hlen h, fun _ h => nomatch h⟩

/-- fustian/fustianlaw.FindManys: slots [0 text, 1 finds, 2 text, 3 finds, 5 x, 6 e, 7 y, 8 f, 9 i] -/
def law_FindManys_c : SCode :=
  (.seq (.ops [⟨(some 4), .mov (.c (.bool false)), none, false, []⟩] none [0, 1])
  (.seq (.ops [⟨(some 11), .mov (.t 0), none, false, []⟩,
    ⟨(some 12), .mov (.t 1), none, false, []⟩,
    ⟨(some 13), .call f_find_Many [(.t 11), (.t 12)], none, false, []⟩,
    ⟨(some 10), .mov (.t 13), none, false, []⟩,
    ⟨(some 14), .extract (.t 10) 0, none, false, []⟩,
    ⟨(some 15), .extract (.t 10) 1, none, false, []⟩,
    ⟨(some 5), .mov (.t 14), none, false, []⟩,
    ⟨(some 6), .mov (.t 15), none, false, []⟩] none [0, 1, 5, 6])
  (.seq (.ops [⟨(some 17), .mov (.t 0), none, false, []⟩,
    ⟨(some 18), .mov (.t 1), none, false, []⟩,
    ⟨(some 19), .call f_ref_FindMany [(.t 17), (.t 18)], none, false, []⟩,
    ⟨(some 16), .mov (.t 19), none, false, []⟩,
    ⟨(some 20), .extract (.t 16) 0, none, false, []⟩,
    ⟨(some 21), .extract (.t 16) 1, none, false, []⟩,
    ⟨(some 7), .mov (.t 20), none, false, []⟩,
    ⟨(some 8), .mov (.t 21), none, false, []⟩] none [5, 6, 7, 8])
  (.seq (.seq (.ops [⟨(some 22), .mov (.t 5), none, false, []⟩,
    ⟨(some 23), .len false (.t 22), none, false, []⟩,
    ⟨(some 24), .mov (.t 7), none, false, []⟩,
    ⟨(some 25), .len false (.t 24), none, false, []⟩,
    ⟨(some 26), .bin .none .neq (.t 23) (.t 25), none, false, []⟩,
    ⟨(some 27), .mov (.t 26), none, true, []⟩,
    ⟨(some 28), .mov (.t 6), (some (27, false)), false, []⟩,
    ⟨(some 29), .mov (.t 8), (some (27, false)), false, []⟩,
    ⟨(some 30), .bin .none .neq (.t 28) (.t 29), (some (27, false)), false, []⟩,
    ⟨(some 31), .pick (.t 27) (.c (.bool true)) (.t 30), none, false, []⟩] none [5, 7, 31])
  (.cond (.t 31)
    (.seq (.ops [⟨(some 4), .mov (.c (.bool false)), none, false, []⟩] none [4])
    .ret)
    .skip))
  (.seq (.seq (.ops [⟨(some 9), .mov (.c (.int .i64 0)), none, false, []⟩] none [5, 7, 9])
  (.block 0 (.loop [5, 7] [9] 0
    (.seq (.seq (.ops [⟨(some 32), .mov (.t 9), none, false, []⟩,
      ⟨(some 33), .mov (.t 5), none, false, []⟩,
      ⟨(some 34), .len false (.t 33), none, false, []⟩,
      ⟨(some 35), .bin .none .lss (.t 32) (.t 34), none, false, []⟩] none [5, 7, 9, 35])
    (.cond (.t 35)
      .skip
      (.exit 0)))
    (.seq (.block 1 (.seq (.ops [⟨(some 38), .mov (.t 5), none, false, []⟩,
      ⟨(some 39), .mov (.t 9), none, false, []⟩,
      ⟨(some 40), .iaddr 2 none (.t 38) (.t 39), none, false, []⟩,
      ⟨(some 41), .load 2 true (.t 40), none, false, []⟩,
      ⟨(some 42), .mov (.t 7), none, false, []⟩,
      ⟨(some 43), .mov (.t 9), none, false, []⟩,
      ⟨(some 44), .iaddr 2 none (.t 42) (.t 43), none, false, []⟩,
      ⟨(some 45), .load 2 true (.t 44), none, false, []⟩,
      ⟨(some 46), .bin (.agg [.int, .int]) .neq (.t 41) (.t 45), none, false, []⟩] (some (0, 0, [0, 1, 2, 3, 4, 5, 6, 7, 8])) [5, 7, 9, 46])
    (.cond (.t 46)
      (.seq (.ops [⟨(some 4), .mov (.c (.bool false)), none, false, []⟩] none [4])
      .ret)
      .skip)))
    (.ops [⟨(some 36), .mov (.t 9), none, false, []⟩,
      ⟨(some 37), .bin .none .add (.t 36) (.c (.int .i64 1)), none, false, []⟩,
      ⟨(some 9), .mov (.t 37), none, false, []⟩] none [5, 7, 9]))))))
  (.seq (.ops [⟨(some 4), .mov (.c (.bool true)), none, false, []⟩] none [4])
  .ret))))))
def law_FindManys_r : List RRes := [.tmp 4]
def law_FindManys_hi : Hi := ⟨[], [(0, "text"), (1, "finds"), (2, "text"), (3, "finds"), (5, "x"), (6, "e"), (7, "y"), (8, "f"), (9, "i")]⟩
def law_FindManys_an : An := (.seq .d (.seq .d (.seq .d (.seq .d (.seq (.seq .d (.loop [] [] [] .d)) .d)))))
def law_FindManys_fi : Fi := ⟨47, law_FindManys_c, law_FindManys_r, law_FindManys_an, law_FindManys_hi, none⟩
theorem law_FindManys_ok : FiOk Try.prog f_law_FindManys law_FindManys_fi :=
  ⟨fun _ => by kernel_rfl, fun _ h hlen => fun_sound (by kernel_rfl) (fn := Try.f3) (draw_sound _ _) Try.func3 rfl (by kernel_rfl : comp Try.prog 47 _ law_FindManys_c = some law_FindManys_c) (by kernel_rfl : cRes Try.prog Try.f3.results.toList = some law_FindManys_r) hlen h, fun _ h => nomatch h⟩

end Go.Proofs.Ytfelfimcnidplaa
