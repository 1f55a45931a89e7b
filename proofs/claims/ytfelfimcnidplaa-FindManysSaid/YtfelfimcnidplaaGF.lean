/- The functions' simplified code, printed by a program of the claim's author; each is checked against the program's own code. Conditions: none. -/
import Derived.Test.YtfelfimcnidplaaProg
import Derived.Test.YtfelfimcnidplaaVyM
set_option linter.unusedVariables false
set_option maxRecDepth 100000
namespace Go.Proofs.Ytfelfimcnidplaa.F
open Go.Vc
abbrev f_gosem_cut_init : Nat := 2
abbrev f_law_FindManys : Nat := 3
abbrev f_find_Many : Nat := 4
abbrev f_ref_FindMany : Nat := 5
abbrev f_find_fault : Nat := 6
abbrev f_slices_Contains___string_string_ : Nat := 7
abbrev f_find_machine : Nat := 8
abbrev f___find_state__step : Nat := 9
abbrev f_slices_SortFunc___api_Hit_api_Hit_ : Nat := 10
abbrev f_find_Many_1 : Nat := 11
abbrev f_cmp_Compare_int_ : Nat := 12
abbrev f_ref_findFault : Nat := 13
abbrev f_ref_standsAt : Nat := 14
abbrev f_slices_Index___string_string_ : Nat := 15
abbrev f_slices_pdqsortCmpFunc_api_Hit_ : Nat := 16
abbrev f_math_bits_Len : Nat := 17
abbrev f_cmp_isNaN_int_ : Nat := 18
abbrev f_slices_insertionSortCmpFunc_api_Hit_ : Nat := 19
abbrev f_slices_heapSortCmpFunc_api_Hit_ : Nat := 20
abbrev f_slices_breakPatternsCmpFunc_api_Hit_ : Nat := 21
abbrev f_slices_choosePivotCmpFunc_api_Hit_ : Nat := 22
abbrev f_slices_reverseRangeCmpFunc_api_Hit_ : Nat := 23
abbrev f_slices_partialInsertionSortCmpFunc_api_Hit_ : Nat := 24
abbrev f_slices_partitionEqualCmpFunc_api_Hit_ : Nat := 25
abbrev f_slices_partitionCmpFunc_api_Hit_ : Nat := 26
abbrev f_math_bits_Len32 : Nat := 27
abbrev f_math_bits_Len64 : Nat := 28
abbrev f_slices_siftDownCmpFunc_api_Hit_ : Nat := 29
abbrev f_slices_nextPowerOfTwo : Nat := 30
abbrev f___slices_xorshift__Next : Nat := 31
abbrev f_slices_medianAdjacentCmpFunc_api_Hit_ : Nat := 32
abbrev f_slices_medianCmpFunc_api_Hit_ : Nat := 33
abbrev f_slices_order2CmpFunc_api_Hit_ : Nat := 34

/-- fustian/find.Many: slots [0 text, 1 finds, 2 text, 3 finds, 6 i, 7 s, 8 e, 9 out, 10 at, 11 i, 12 here, 13 s] -/
def find_Many_c : SCode :=
  (.seq (.ops [⟨(some 4), .mov (.c .nils), none, false, []⟩,
    ⟨(some 5), .mov (.c (.int .i64 0)), none, false, []⟩] none [0, 1])
  (.seq (.seq (.ops [⟨(some 14), .mov (.t 0), none, false, []⟩,
    ⟨(some 15), .len true (.t 14), none, false, []⟩,
    ⟨(some 16), .bin .none .gtr (.t 15) (.c (.int .i64 600)), none, false, []⟩,
    ⟨(some 17), .mov (.t 16), none, true, []⟩,
    ⟨(some 18), .mov (.t 1), (some (17, false)), false, []⟩,
    ⟨(some 19), .len false (.t 18), (some (17, false)), false, []⟩,
    ⟨(some 20), .bin .none .gtr (.t 19) (.c (.int .i64 20)), (some (17, false)), false, []⟩,
    ⟨(some 21), .pick (.t 17) (.c (.bool true)) (.t 20), none, false, []⟩] none [0, 1, 21])
  (.cond (.t 21)
    (.seq (.ops [⟨(some 4), .mov (.c .nils), none, false, []⟩,
      ⟨(some 5), .mov (.c (.int .i64 1)), none, false, []⟩] none [4, 5])
    .ret)
    .skip))
  (.seq (.seq (.ops [⟨(some 22), .mov (.t 1), none, false, []⟩,
    ⟨(some 23), .len false (.t 22), none, false, []⟩,
    ⟨(some 24), .mov (.c (.int .i64 0)), none, false, []⟩] none [0, 1, 22, 23, 24])
  (.block 0 (.loop [0, 1, 22, 23] [24] 0
    (.seq (.ops [⟨(some 25), .bin .none .lss (.t 24) (.t 23), none, false, []⟩] none [0, 1, 22, 23, 24, 25])
    (.seq (.cond (.t 25)
      .skip
      (.exit 0))
    (.seq (.block 1 (.seq (.ops [⟨(some 26), .mov (.t 24), none, false, []⟩,
      ⟨(some 27), .iaddr 1 none (.t 22) (.t 24), none, false, []⟩,
      ⟨(some 28), .load 1 false (.t 27), none, false, []⟩,
      ⟨(some 6), .mov (.t 26), none, false, []⟩,
      ⟨(some 7), .mov (.t 28), none, false, []⟩] none [0, 1, 6, 7, 22, 23, 24])
    (.seq (.seq (.ops [⟨(some 29), .mov (.t 0), none, false, []⟩,
      ⟨(some 30), .mov (.t 7), none, false, []⟩,
      ⟨(some 31), .call f_find_fault [(.t 29), (.t 30)], none, false, []⟩,
      ⟨(some 8), .mov (.t 31), none, false, []⟩] none [0, 1, 6, 7, 8, 22, 23, 24])
    (.seq (.ops [⟨(some 32), .mov (.t 8), none, false, []⟩,
      ⟨(some 33), .bin .none .neq (.t 32) (.c (.int .i64 0)), none, false, []⟩] none [0, 1, 6, 7, 8, 22, 23, 24, 33])
    (.cond (.t 33)
      (.seq (.ops [⟨(some 34), .mov (.t 8), none, false, []⟩,
        ⟨(some 4), .mov (.c .nils), none, false, []⟩,
        ⟨(some 5), .mov (.t 34), none, false, []⟩] none [4, 5])
      .ret)
      .skip)))
    (.seq (.ops [⟨(some 35), .mov (.t 1), none, false, []⟩,
      ⟨(some 36), .mov (.t 6), none, false, []⟩,
      ⟨(some 37), .slice 1 (.t 35) none (some (.t 36)), none, false, []⟩,
      ⟨(some 38), .mov (.t 7), none, false, []⟩,
      ⟨(some 39), .call f_slices_Contains___string_string_ [(.t 37), (.t 38)], none, false, []⟩] none [0, 1, 22, 23, 24, 39])
    (.cond (.t 39)
      (.seq (.ops [⟨(some 4), .mov (.c .nils), none, false, []⟩,
        ⟨(some 5), .mov (.c (.int .i64 4)), none, false, []⟩] none [4, 5])
      .ret)
      .skip)))))
    (.ops [⟨(some 40), .bin .none .add (.t 24) (.c (.int .i64 1)), none, false, []⟩,
      ⟨(some 24), .mov (.t 40), none, false, []⟩] none [0, 1, 22, 23, 24])))))))
  (.seq (.ops [⟨(some 9), .newnil 2, none, false, []⟩] none [0, 1, 9])
  (.seq (.ops [⟨(some 41), .mov (.t 1), none, false, []⟩,
    ⟨(some 42), .call f_find_machine [(.t 41)], none, false, []⟩,
    ⟨(some 10), .mov (.t 42), none, false, []⟩] none [0, 9, 10])
  (.seq (.seq (.ops [⟨(some 43), .mov (.t 0), none, false, []⟩,
    ⟨(some 44), .len true (.t 43), none, false, []⟩,
    ⟨(some 45), .mov (.c (.int .i64 0)), none, false, []⟩] none [0, 9, 10, 44, 45])
  (.block 2 (.loop [0, 44] [9, 10, 45] 1
    (.seq (.ops [⟨(some 46), .bin .none .lss (.t 45) (.t 44), none, false, []⟩] none [0, 9, 10, 44, 45, 46])
    (.seq (.cond (.t 46)
      .skip
      (.exit 2))
    (.seq (.block 3 (.seq (.ops [⟨(some 47), .mov (.t 45), none, false, []⟩,
      ⟨(some 11), .mov (.t 47), none, false, []⟩] none [0, 9, 10, 11, 44, 45])
    (.seq (.ops [⟨(some 48), .mov (.t 10), none, false, []⟩,
      ⟨(some 49), .mov (.t 0), none, false, []⟩,
      ⟨(some 50), .mov (.t 11), none, false, []⟩,
      ⟨(some 51), .index 1 none false (.t 49) (.t 50), none, false, []⟩,
      ⟨(some 52), .call f___find_state__step [(.t 48), (.t 51)], none, false, []⟩,
      ⟨(some 10), .mov (.t 52), none, false, []⟩] none [0, 9, 10, 11, 44, 45])
    (.seq (.ops [⟨(some 12), .newnil 2, none, false, []⟩] none [0, 9, 10, 11, 12, 44, 45])
    (.seq (.seq (.ops [⟨(some 53), .mov (.t 10), none, false, []⟩,
      ⟨(some 13), .mov (.t 53), none, false, []⟩] none [0, 9, 10, 11, 12, 13, 44, 45])
    (.block 4 (.loop [0, 9, 10, 11, 44, 45] [12, 13] 2
      (.seq (.seq (.ops [⟨(some 54), .mov (.t 13), none, false, []⟩,
        ⟨(some 55), .nilchk (.t 54), none, false, []⟩,
        ⟨(some 56), .faddr 3 (.t 55), none, false, []⟩,
        ⟨(some 57), .load 1 false (.t 56), none, false, []⟩,
        ⟨(some 58), .bin .none .gtr (.t 57) (.c (.int .i64 0)), none, false, []⟩] none [0, 9, 10, 11, 12, 13, 44, 45, 58])
      (.cond (.t 58)
        .skip
        (.exit 4)))
      (.join [0, 9, 10, 11, 13, 44, 45] [12] 2 (.block 5 (.seq (.ops [⟨(some 63), .mov (.t 13), none, false, []⟩,
          ⟨(some 64), .nilchk (.t 63), none, false, []⟩,
          ⟨(some 65), .faddr 2 (.t 64), none, false, []⟩,
          ⟨(some 66), .load 1 false (.t 65), none, false, []⟩,
          ⟨(some 67), .bin .none .geq (.t 66) (.c (.int .i64 0)), none, false, []⟩] none [0, 9, 10, 11, 12, 13, 44, 45, 67])
        (.cond (.t 67)
          (.ops [⟨(some 68), .mov (.t 12), none, false, []⟩,
            ⟨(some 69), .mov (.t 11), none, false, []⟩,
            ⟨(some 70), .bin .none .add (.t 69) (.c (.int .i64 1)), none, false, []⟩,
            ⟨(some 71), .mov (.t 13), none, false, []⟩,
            ⟨(some 72), .nilchk (.t 71), none, false, []⟩,
            ⟨(some 73), .faddr 3 (.t 72), none, false, []⟩,
            ⟨(some 74), .load 1 false (.t 73), none, false, []⟩,
            ⟨(some 75), .bin .none .sub (.t 70) (.t 74), none, false, []⟩,
            ⟨(some 76), .mov (.t 13), none, false, []⟩,
            ⟨(some 77), .nilchk (.t 76), none, false, []⟩,
            ⟨(some 78), .faddr 2 (.t 77), none, false, []⟩,
            ⟨(some 79), .load 1 false (.t 78), none, false, []⟩,
            ⟨(some 80), .build [(.int .i64 0), (.int .i64 0)] [(0, 1, (.t 75)), (1, 1, (.t 79))], none, false, []⟩,
            ⟨(some 81), .bslice true 1 2 [(.int .i64 0), (.int .i64 0)] [(0, 2, (.t 80))], none, false, []⟩,
            ⟨(some 82), .append 2 16 (.t 68) (.t 81), none, false, []⟩,
            ⟨(some 12), .mov (.t 82), none, false, []⟩] (some (0, 0, [0, 1, 2, 3, 4, 5, 6, 7, 8, 9, 10, 11, 12, 13, 14, 15])) [0, 9, 10, 11, 12, 13, 44, 45])
          .skip)))
      (.ops [⟨(some 59), .mov (.t 13), none, false, []⟩,
        ⟨(some 60), .nilchk (.t 59), none, false, []⟩,
        ⟨(some 61), .faddr 1 (.t 60), none, false, []⟩,
        ⟨(some 62), .load 1 false (.t 61), none, false, []⟩,
        ⟨(some 13), .mov (.t 62), none, false, []⟩] none [0, 9, 10, 11, 12, 13, 44, 45]))))))
    (.seq (.ops [⟨(some 83), .mov (.t 12), none, false, []⟩,
      ⟨(some 84), .call f_slices_SortFunc___api_Hit_api_Hit_ [(.t 83), (.c (.fn (.func f_find_Many_1) [] []))], none, false, []⟩] none [0, 9, 10, 12, 44, 45])
    (.ops [⟨(some 85), .mov (.t 9), none, false, []⟩,
      ⟨(some 86), .mov (.t 12), none, false, []⟩,
      ⟨(some 87), .append 2 16 (.t 85) (.t 86), none, false, []⟩,
      ⟨(some 9), .mov (.t 87), none, false, []⟩] none [0, 9, 10, 44, 45])))))))
    (.ops [⟨(some 88), .bin .none .add (.t 45) (.c (.int .i64 1)), none, false, []⟩,
      ⟨(some 45), .mov (.t 88), none, false, []⟩] none [0, 9, 10, 44, 45])))))))
  (.seq (.ops [⟨(some 89), .mov (.t 9), none, false, []⟩,
    ⟨(some 4), .mov (.t 89), none, false, []⟩,
    ⟨(some 5), .mov (.c (.int .i64 0)), none, false, []⟩] none [4, 5])
  .ret)))))))
def find_Many_r : List RRes := [.tmp 4, .tmp 5]
def find_Many_hi : Hi := ⟨[(9, (.st (.cons (.int .i64) (.cons (.int .i64) .nil)))), (12, (.st (.cons (.int .i64) (.cons (.int .i64) .nil)))), (81, (.st (.cons (.int .i64) (.cons (.int .i64) .nil)))), (82, (.st (.cons (.int .i64) (.cons (.int .i64) .nil)))), (87, (.st (.cons (.int .i64) (.cons (.int .i64) .nil))))], [(0, "text"), (1, "finds"), (2, "text"), (3, "finds"), (6, "i"), (7, "s"), (8, "e"), (9, "out"), (10, "at"), (11, "i"), (12, "here"), (13, "s")]⟩
def find_Many_an : An := (.seq .d (.seq .d (.seq (.seq .d (.loop [1] [] [] .d)) (.seq .d (.seq .d (.seq (.seq .d (.loop [10, 9] [] [10] (.seq .d (.seq .d (.seq (.seq .d (.seq .d (.seq .d (.seq (.seq .d (.loop [12] [] [] .d)) .d)))) .d))))) .d))))))
def find_Many_fi : Fi := ⟨90, find_Many_c, find_Many_r, find_Many_an, find_Many_hi, none⟩
theorem find_Many_ok : FiOk Try.prog f_find_Many find_Many_fi :=
  ⟨fun _ => by kernel_rfl, fun _ h hlen => fun_sound (by kernel_rfl) (fn := Try.f4) (draw_sound _ _) Try.func4 rfl (by kernel_rfl : comp Try.prog 90 _ find_Many_c = some find_Many_c) (by kernel_rfl : cRes Try.prog Try.f4.results.toList = some find_Many_r) hlen h, fun _ h => nomatch h⟩

/-- fustian/find.machine: slots [0 finds, 1 finds, 3 root, 4 i, 5 s, 6 at, 7 k, 8 to, 9 is, 10 level, 11 below, 12 _, 13 at, 14 b, 15 to] -/
def find_machine_c : SCode :=
  (.seq (.ops [⟨(some 2), .mov (.c .nilp), none, false, []⟩] none [0])
  (.seq (.ops [⟨(some 16), .mkmap, none, false, []⟩,
    ⟨(some 17), .build [.nilm, .nilp, (.int .i64 0), (.int .i64 0)] [(0, 1, (.t 16)), (2, 1, (.c (.int .i64 (-1))))], none, false, []⟩,
    ⟨(some 18), .box 0 (.t 17), none, false, []⟩,
    ⟨(some 3), .mov (.t 18), none, false, []⟩] none [0, 3])
  (.seq (.ops [⟨(some 19), .mov (.t 3), none, false, []⟩,
    ⟨(some 20), .mov (.t 3), none, false, []⟩,
    ⟨(some 21), .nilchk (.t 19), none, false, []⟩,
    ⟨(some 22), .faddr 1 (.t 21), none, false, []⟩,
    ⟨none, .store 1 (.t 22) (.t 20), none, false, []⟩] none [0, 3])
  (.seq (.seq (.ops [⟨(some 23), .mov (.t 0), none, false, []⟩,
    ⟨(some 24), .len false (.t 23), none, false, []⟩,
    ⟨(some 25), .mov (.c (.int .i64 0)), none, false, []⟩] none [3, 23, 24, 25])
  (.block 0 (.loop [3, 23, 24] [25] 2
    (.seq (.ops [⟨(some 26), .bin .none .lss (.t 25) (.t 24), none, false, []⟩] none [3, 23, 24, 25, 26])
    (.seq (.cond (.t 26)
      .skip
      (.exit 0))
    (.seq (.block 1 (.seq (.ops [⟨(some 27), .mov (.t 25), none, false, []⟩,
      ⟨(some 28), .iaddr 1 none (.t 23) (.t 25), none, false, []⟩,
      ⟨(some 29), .load 1 false (.t 28), none, false, []⟩,
      ⟨(some 4), .mov (.t 27), none, false, []⟩,
      ⟨(some 5), .mov (.t 29), none, false, []⟩] none [3, 4, 5, 23, 24, 25])
    (.seq (.ops [⟨(some 30), .mov (.t 3), none, false, []⟩,
      ⟨(some 6), .mov (.t 30), none, false, []⟩] none [3, 4, 5, 6, 23, 24, 25])
    (.seq (.seq (.ops [⟨(some 31), .mov (.t 5), none, false, []⟩,
      ⟨(some 32), .len true (.t 31), none, false, []⟩,
      ⟨(some 33), .mov (.c (.int .i64 0)), none, false, []⟩] none [3, 4, 5, 6, 23, 24, 25, 32, 33])
    (.block 2 (.loop [3, 4, 5, 23, 24, 25, 32] [6, 33] 2
      (.seq (.ops [⟨(some 34), .bin .none .lss (.t 33) (.t 32), none, false, []⟩] none [3, 4, 5, 6, 23, 24, 25, 32, 33, 34])
      (.seq (.cond (.t 34)
        .skip
        (.exit 2))
      (.seq (.block 3 (.seq (.ops [⟨(some 35), .mov (.t 33), none, false, []⟩,
        ⟨(some 7), .mov (.t 35), none, false, []⟩] none [3, 4, 5, 6, 7, 23, 24, 25, 32, 33])
      (.seq (.ops [⟨(some 37), .mov (.t 6), none, false, []⟩,
        ⟨(some 38), .nilchk (.t 37), none, false, []⟩,
        ⟨(some 39), .faddr 0 (.t 38), none, false, []⟩,
        ⟨(some 40), .load 1 false (.t 39), none, false, []⟩,
        ⟨(some 41), .mov (.t 5), none, false, []⟩,
        ⟨(some 42), .mov (.t 7), none, false, []⟩,
        ⟨(some 43), .index 1 none false (.t 41) (.t 42), none, false, []⟩,
        ⟨(some 44), .mlook (.int .u8) true .nilp (.t 40) (.t 43), none, false, []⟩,
        ⟨(some 36), .mov (.t 44), none, false, []⟩,
        ⟨(some 45), .extract (.t 36) 0, none, false, []⟩,
        ⟨(some 46), .extract (.t 36) 1, none, false, []⟩,
        ⟨(some 8), .mov (.t 45), none, false, []⟩,
        ⟨(some 9), .mov (.t 46), none, false, []⟩] (some (0, 0, [0, 1, 2, 3, 4, 5, 6, 7, 8, 9, 10, 11, 12])) [3, 4, 5, 6, 7, 8, 9, 23, 24, 25, 32, 33])
      (.join [3, 4, 5, 23, 24, 25, 32, 33] [8] 4 (.seq (.ops [⟨(some 47), .mov (.t 9), none, false, []⟩,
          ⟨(some 48), .not (.t 47), none, false, []⟩] none [3, 4, 5, 6, 7, 8, 23, 24, 25, 32, 33, 48])
        (.cond (.t 48)
          (.seq (.ops [⟨(some 49), .mkmap, none, false, []⟩,
            ⟨(some 50), .mov (.t 6), none, false, []⟩,
            ⟨(some 51), .nilchk (.t 50), none, false, []⟩,
            ⟨(some 52), .faddr 3 (.t 51), none, false, []⟩,
            ⟨(some 53), .load 1 false (.t 52), none, false, []⟩,
            ⟨(some 54), .bin .none .add (.t 53) (.c (.int .i64 1)), none, false, []⟩,
            ⟨(some 55), .build [.nilm, .nilp, (.int .i64 0), (.int .i64 0)] [(0, 1, (.t 49)), (2, 1, (.c (.int .i64 (-1)))), (3, 1, (.t 54))], none, false, []⟩,
            ⟨(some 56), .box 0 (.t 55), none, false, []⟩,
            ⟨(some 8), .mov (.t 56), none, false, []⟩] none [3, 4, 5, 6, 7, 8, 23, 24, 25, 32, 33])
          (.ops [⟨(some 57), .mov (.t 6), none, false, []⟩,
            ⟨(some 58), .nilchk (.t 57), none, false, []⟩,
            ⟨(some 59), .faddr 0 (.t 58), none, false, []⟩,
            ⟨(some 60), .load 1 false (.t 59), none, false, []⟩,
            ⟨(some 61), .mov (.t 5), none, false, []⟩,
            ⟨(some 62), .mov (.t 7), none, false, []⟩,
            ⟨(some 63), .index 1 none false (.t 61) (.t 62), none, false, []⟩,
            ⟨(some 64), .mov (.t 8), none, false, []⟩,
            ⟨none, .mupd (.int .u8) (.t 60) (.t 63) (.t 64), none, false, []⟩] (some (0, 0, [0, 1, 2, 3, 4, 5, 6, 7, 8])) [3, 4, 5, 8, 23, 24, 25, 32, 33]))
          .skip))
      (.ops [⟨(some 65), .mov (.t 8), none, false, []⟩,
        ⟨(some 6), .mov (.t 65), none, false, []⟩] none [3, 4, 5, 6, 23, 24, 25, 32, 33])))))
      (.ops [⟨(some 66), .bin .none .add (.t 33) (.c (.int .i64 1)), none, false, []⟩,
        ⟨(some 33), .mov (.t 66), none, false, []⟩] none [3, 4, 5, 6, 23, 24, 25, 32, 33])))))))
    (.ops [⟨(some 67), .mov (.t 6), none, false, []⟩,
      ⟨(some 68), .mov (.t 4), none, false, []⟩,
      ⟨(some 69), .nilchk (.t 67), none, false, []⟩,
      ⟨(some 70), .faddr 2 (.t 69), none, false, []⟩,
      ⟨none, .store 1 (.t 70) (.t 68), none, false, []⟩] none [3, 23, 24, 25])))))
    (.ops [⟨(some 71), .bin .none .add (.t 25) (.c (.int .i64 1)), none, false, []⟩,
      ⟨(some 25), .mov (.t 71), none, false, []⟩] none [3, 23, 24, 25])))))))
  (.seq (.ops [⟨(some 72), .mov (.t 3), none, false, []⟩,
    ⟨(some 73), .bslice false 1 1 [.nilp] [(0, 1, (.t 72))], none, false, []⟩,
    ⟨(some 10), .mov (.t 73), none, false, []⟩] none [3, 10])
  (.seq (.block 4 (.loop [3] [10] 5
    (.seq (.seq (.ops [⟨(some 74), .mov (.t 10), none, false, []⟩,
      ⟨(some 75), .len false (.t 74), none, false, []⟩,
      ⟨(some 76), .bin .none .gtr (.t 75) (.c (.int .i64 0)), none, false, []⟩] none [3, 10, 76])
    (.cond (.t 76)
      .skip
      (.exit 4)))
    (.block 5 (.seq (.ops [⟨(some 11), .newnil 1, none, false, []⟩] none [3, 10, 11])
    (.seq (.seq (.ops [⟨(some 77), .mov (.t 10), none, false, []⟩,
      ⟨(some 78), .len false (.t 77), none, false, []⟩,
      ⟨(some 79), .mov (.c (.int .i64 0)), none, false, []⟩] none [3, 11, 77, 78, 79])
    (.block 6 (.loop [3, 77, 78] [11, 79] 6
      (.seq (.ops [⟨(some 80), .bin .none .lss (.t 79) (.t 78), none, false, []⟩] none [3, 11, 77, 78, 79, 80])
      (.seq (.cond (.t 80)
        .skip
        (.exit 6))
      (.seq (.block 7 (.seq (.ops [⟨(some 81), .iaddr 1 none (.t 77) (.t 79), none, false, []⟩,
        ⟨(some 82), .load 1 false (.t 81), none, false, []⟩,
        ⟨(some 13), .mov (.t 82), none, false, []⟩] none [3, 11, 13, 77, 78, 79])
      (.seq (.ops [⟨(some 83), .mov (.t 13), none, false, []⟩,
        ⟨(some 84), .nilchk (.t 83), none, false, []⟩,
        ⟨(some 85), .faddr 0 (.t 84), none, false, []⟩,
        ⟨(some 86), .load 1 false (.t 85), none, false, []⟩,
        ⟨(some 87), .mrange (.t 86), none, false, []⟩] none [3, 11, 13, 77, 78, 79, 87])
      (.block 8 (.loop [3, 13, 77, 78, 79, 87] [11] 6
        (.seq (.ops [⟨(some 88), .mnext (.t 87), none, false, []⟩,
          ⟨(some 89), .extract (.t 88) 0, none, false, []⟩] none [3, 11, 13, 77, 78, 79, 87, 89])
        (.seq (.cond (.t 89)
          .skip
          (.exit 8))
        (.block 9 (.seq (.ops [⟨(some 90), .mentry (.t 87), none, false, []⟩,
          ⟨(some 91), .extract (.t 90) 0, none, false, []⟩,
          ⟨(some 92), .extract (.t 90) 1, none, false, []⟩,
          ⟨(some 14), .mov (.t 91), none, false, []⟩,
          ⟨(some 15), .mov (.t 92), none, false, []⟩] none [3, 11, 13, 14, 15, 77, 78, 79, 87])
        (.seq (.ops [⟨(some 93), .mov (.t 15), none, false, []⟩,
          ⟨(some 94), .mov (.t 3), none, false, []⟩,
          ⟨(some 95), .nilchk (.t 93), none, false, []⟩,
          ⟨(some 96), .faddr 1 (.t 95), none, false, []⟩,
          ⟨none, .store 1 (.t 96) (.t 94), none, false, []⟩] none [3, 11, 13, 14, 15, 77, 78, 79, 87])
        (.join [3, 11, 13, 15, 77, 78, 79, 87] [] 6 (.seq (.ops [⟨(some 97), .mov (.t 13), none, false, []⟩,
            ⟨(some 98), .mov (.t 3), none, false, []⟩,
            ⟨(some 99), .peq true (.t 97) (.t 98), none, false, []⟩] none [3, 11, 13, 14, 15, 77, 78, 79, 87, 99])
          (.cond (.t 99)
            (.ops [⟨(some 100), .mov (.t 15), none, false, []⟩,
              ⟨(some 101), .mov (.t 13), none, false, []⟩,
              ⟨(some 102), .nilchk (.t 101), none, false, []⟩,
              ⟨(some 103), .faddr 1 (.t 102), none, false, []⟩,
              ⟨(some 104), .load 1 false (.t 103), none, false, []⟩,
              ⟨(some 105), .mov (.t 14), none, false, []⟩,
              ⟨(some 106), .call f___find_state__step [(.t 104), (.t 105)], none, false, []⟩,
              ⟨(some 107), .nilchk (.t 100), none, false, []⟩,
              ⟨(some 108), .faddr 1 (.t 107), none, false, []⟩,
              ⟨none, .store 1 (.t 108) (.t 106), none, false, []⟩] none [3, 11, 13, 15, 77, 78, 79, 87])
            .skip))
        (.ops [⟨(some 109), .mov (.t 11), none, false, []⟩,
          ⟨(some 110), .mov (.t 15), none, false, []⟩,
          ⟨(some 111), .bslice true 1 1 [.nilp] [(0, 1, (.t 110))], none, false, []⟩,
          ⟨(some 112), .append 1 8 (.t 109) (.t 111), none, false, []⟩,
          ⟨(some 11), .mov (.t 112), none, false, []⟩] none [3, 11, 13, 77, 78, 79, 87]))))))))))))
      (.ops [⟨(some 113), .bin .none .add (.t 79) (.c (.int .i64 1)), none, false, []⟩,
        ⟨(some 79), .mov (.t 113), none, false, []⟩] none [3, 11, 77, 78, 79])))))))
    (.ops [⟨(some 114), .mov (.t 11), none, false, []⟩,
      ⟨(some 10), .mov (.t 114), none, false, []⟩] none [3, 10])))))))
  (.seq (.ops [⟨(some 115), .mov (.t 3), none, false, []⟩,
    ⟨(some 2), .mov (.t 115), none, false, []⟩] none [2])
  .ret)))))))
def find_machine_r : List RRes := [.tmp 2]
def find_machine_hi : Hi := ⟨[], [(0, "finds"), (1, "finds"), (3, "root"), (4, "i"), (5, "s"), (6, "at"), (7, "k"), (8, "to"), (9, "is"), (10, "level"), (11, "below"), (13, "at"), (14, "b"), (15, "to")]⟩
def find_machine_an : An := (.seq .d (.seq .d (.seq .d (.seq (.seq .d (.loop [] [] [] (.seq .d (.seq .d (.seq (.seq .d (.seq .d (.seq (.seq .d (.loop [6] [] [6] .d)) .d))) .d))))) (.seq .d (.seq (.loop [10] [] [10] (.seq .d (.seq .d (.seq (.seq .d (.loop [77, 11] [] [] (.seq .d (.seq .d (.seq (.seq .d (.seq .d (.loop [13, 11] [] [] .d))) .d))))) .d)))) .d))))))
def find_machine_fi : Fi := ⟨116, find_machine_c, find_machine_r, find_machine_an, find_machine_hi, none⟩
theorem find_machine_ok : FiOk Try.prog f_find_machine find_machine_fi :=
  ⟨fun _ => by kernel_rfl, fun _ h hlen => fun_sound (by kernel_rfl) (fn := Try.f8) (draw_sound _ _) Try.func8 rfl (by kernel_rfl : comp Try.prog 116 _ find_machine_c = some find_machine_c) (by kernel_rfl : cRes Try.prog Try.f8.results.toList = some find_machine_r) hlen h, fun _ h => nomatch h⟩

/-- (*fustian/find.state).step: slots [0 s, 1 b, 2 s, 3 b, 5 to, 6 is] -/
def __find_state__step_c : SCode :=
  (.seq (.ops [⟨(some 4), .mov (.c .nilp), none, false, []⟩] none [0, 1])
  (.block 0 (.loop [1] [0] 0
    (.block 1 (.seq (.seq (.ops [⟨(some 8), .mov (.t 0), none, false, []⟩,
      ⟨(some 9), .nilchk (.t 8), none, false, []⟩,
      ⟨(some 10), .faddr 0 (.t 9), none, false, []⟩,
      ⟨(some 11), .load 1 false (.t 10), none, false, []⟩,
      ⟨(some 12), .mov (.t 1), none, false, []⟩,
      ⟨(some 13), .mlook (.int .u8) true .nilp (.t 11) (.t 12), none, false, []⟩,
      ⟨(some 7), .mov (.t 13), none, false, []⟩,
      ⟨(some 14), .extract (.t 7) 0, none, false, []⟩,
      ⟨(some 15), .extract (.t 7) 1, none, false, []⟩,
      ⟨(some 5), .mov (.t 14), none, false, []⟩,
      ⟨(some 6), .mov (.t 15), none, false, []⟩] none [0, 1, 5, 6])
    (.seq (.ops [⟨(some 16), .mov (.t 6), none, false, []⟩] none [0, 1, 5, 16])
    (.cond (.t 16)
      (.seq (.ops [⟨(some 17), .mov (.t 5), none, false, []⟩,
        ⟨(some 4), .mov (.t 17), none, false, []⟩] none [4])
      .ret)
      .skip)))
    (.seq (.seq (.ops [⟨(some 18), .mov (.t 0), none, false, []⟩,
      ⟨(some 19), .nilchk (.t 18), none, false, []⟩,
      ⟨(some 20), .faddr 1 (.t 19), none, false, []⟩,
      ⟨(some 21), .load 1 false (.t 20), none, false, []⟩,
      ⟨(some 22), .mov (.t 0), none, false, []⟩,
      ⟨(some 23), .peq false (.t 21) (.t 22), none, false, []⟩] none [0, 1, 23])
    (.cond (.t 23)
      (.seq (.ops [⟨(some 24), .mov (.t 0), none, false, []⟩,
        ⟨(some 4), .mov (.t 24), none, false, []⟩] none [4])
      .ret)
      .skip))
    (.ops [⟨(some 25), .mov (.t 0), none, false, []⟩,
      ⟨(some 26), .nilchk (.t 25), none, false, []⟩,
      ⟨(some 27), .faddr 1 (.t 26), none, false, []⟩,
      ⟨(some 28), .load 1 false (.t 27), none, false, []⟩,
      ⟨(some 0), .mov (.t 28), none, false, []⟩] none [0, 1])))))))
def __find_state__step_r : List RRes := [.tmp 4]
def __find_state__step_hi : Hi := ⟨[], [(0, "s"), (1, "b"), (2, "s"), (3, "b"), (5, "to"), (6, "is")]⟩
def __find_state__step_an : An := (.seq .d (.loop [] [] [] .d))
def __find_state__step_fi : Fi := ⟨29, __find_state__step_c, __find_state__step_r, __find_state__step_an, __find_state__step_hi, none⟩
theorem __find_state__step_ok : FiOk Try.prog f___find_state__step __find_state__step_fi :=
  ⟨fun _ => by kernel_rfl, fun _ h hlen => fun_sound (by kernel_rfl) (fn := Try.f9) (draw_sound _ _) Try.func9 rfl (by kernel_rfl : comp Try.prog 29 _ __find_state__step_c = some __find_state__step_c) (by kernel_rfl : cRes Try.prog Try.f9.results.toList = some __find_state__step_r) hlen h, fun _ h => nomatch h⟩

end Go.Proofs.Ytfelfimcnidplaa.F
