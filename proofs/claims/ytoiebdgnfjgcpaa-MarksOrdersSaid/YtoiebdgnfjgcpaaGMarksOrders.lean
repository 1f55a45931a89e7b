/- The functions' simplified code, printed by a program of the claim's author; each is checked against the program's own code. Conditions: none. -/
import Derived.Test.YtoiebdgnfjgcpaaProg
import Derived.Test.YtoiebdgnfjgcpaaVyM
set_option linter.unusedVariables false
set_option maxRecDepth 100000
namespace Go.Proofs.Ytoiebdgnfjgcpaa
open Go.Vc
abbrev f_gosem_cut_init : Nat := 2
abbrev f_law_WordsFinds : Nat := 3
abbrev f_law_MarksOrders : Nat := 4
abbrev f_law_SuffixFinds : Nat := 5
abbrev f_words_Find : Nat := 6
abbrev f_ref_WordsFind : Nat := 7
abbrev f_law_sameInts : Nat := 8
abbrev f_marks_Order : Nat := 9
abbrev f_ref_MarksOrder : Nat := 10
abbrev f_suffix_Find : Nat := 11
abbrev f_ref_FindAll : Nat := 12
abbrev f_words_Noted : Nat := 13
abbrev f_words_Of : Nat := 14
abbrev f_ref_wordAt : Nat := 15
abbrev f_slices_SortStableFunc___int_int_ : Nat := 16
abbrev f_marks_Order_1 : Nat := 17
abbrev f_cmp_Or_int_ : Nat := 18
abbrev f_cmp_Compare_int_ : Nat := 19
abbrev f_suffix_sorted : Nat := 20
abbrev f_sort_Search : Nat := 21
abbrev f_suffix_Find_1 : Nat := 22
abbrev f_strings_HasPrefix : Nat := 23
abbrev f_slices_Sorted_int_ : Nat := 24
abbrev f_slices_Values___int_int_ : Nat := 25
abbrev f_ref_findFault : Nat := 26
abbrev f_ref_standsAt : Nat := 27
abbrev f_words_part : Nat := 28
abbrev f_words_Each : Nat := 29
abbrev f_words_Of_1 : Nat := 30
abbrev f_ref_letter : Nat := 31
abbrev f_slices_stableCmpFunc_int_ : Nat := 32
abbrev f_cmp_isNaN_int_ : Nat := 33
abbrev f_suffix_sorted_1 : Nat := 34
abbrev f_suffix_sorted_2 : Nat := 35
abbrev f_slices_SortFunc___int_int_ : Nat := 36
abbrev f_internal_stringslite_HasPrefix : Nat := 37
abbrev f_slices_Collect_int_ : Nat := 38
abbrev f_slices_Sort___int_int_ : Nat := 39
abbrev f_slices_Values___int_int__1 : Nat := 40
abbrev f_slices_insertionSortCmpFunc_int_ : Nat := 41
abbrev f_slices_symMergeCmpFunc_int_ : Nat := 42
abbrev f_slices_pdqsortCmpFunc_int_ : Nat := 43
abbrev f_math_bits_Len : Nat := 44
abbrev f_slices_AppendSeq___int_int_ : Nat := 45
abbrev f_slices_pdqsortOrdered_int_ : Nat := 46
abbrev f_slices_rotateCmpFunc_int_ : Nat := 47
abbrev f_slices_heapSortCmpFunc_int_ : Nat := 48
abbrev f_slices_breakPatternsCmpFunc_int_ : Nat := 49
abbrev f_slices_choosePivotCmpFunc_int_ : Nat := 50
abbrev f_slices_reverseRangeCmpFunc_int_ : Nat := 51
abbrev f_slices_partialInsertionSortCmpFunc_int_ : Nat := 52
abbrev f_slices_partitionEqualCmpFunc_int_ : Nat := 53
abbrev f_slices_partitionCmpFunc_int_ : Nat := 54
abbrev f_math_bits_Len32 : Nat := 55
abbrev f_math_bits_Len64 : Nat := 56
abbrev f_slices_insertionSortOrdered_int_ : Nat := 57
abbrev f_slices_heapSortOrdered_int_ : Nat := 58
abbrev f_slices_breakPatternsOrdered_int_ : Nat := 59
abbrev f_slices_choosePivotOrdered_int_ : Nat := 60
abbrev f_slices_reverseRangeOrdered_int_ : Nat := 61
abbrev f_slices_partialInsertionSortOrdered_int_ : Nat := 62
abbrev f_cmp_Less_int_ : Nat := 63
abbrev f_slices_partitionEqualOrdered_int_ : Nat := 64
abbrev f_slices_partitionOrdered_int_ : Nat := 65
abbrev f_slices_swapRangeCmpFunc_int_ : Nat := 66
abbrev f_slices_siftDownCmpFunc_int_ : Nat := 67
abbrev f_slices_nextPowerOfTwo : Nat := 68
abbrev f___slices_xorshift__Next : Nat := 69
abbrev f_slices_medianAdjacentCmpFunc_int_ : Nat := 70
abbrev f_slices_medianCmpFunc_int_ : Nat := 71
abbrev f_slices_siftDownOrdered_int_ : Nat := 72
abbrev f_slices_medianAdjacentOrdered_int_ : Nat := 73
abbrev f_slices_medianOrdered_int_ : Nat := 74
abbrev f_slices_order2CmpFunc_int_ : Nat := 75
abbrev f_slices_order2Ordered_int_ : Nat := 76

/-- cmp.isNaN[int]: slots [0 x, 1 x] -/
def cmp_isNaN_int__c : SCode :=
  (.seq (.ops [⟨(some 2), .mov (.c (.bool false)), none, false, []⟩] none [0])
  (.seq (.ops [⟨(some 3), .mov (.t 0), none, false, []⟩,
    ⟨(some 4), .mov (.t 0), none, false, []⟩,
    ⟨(some 5), .bin .none .neq (.t 3) (.t 4), none, false, []⟩,
    ⟨(some 2), .mov (.t 5), none, false, []⟩] none [2])
  .ret))
def cmp_isNaN_int__r : List RRes := [.tmp 2]
def cmp_isNaN_int__hi : Hi := ⟨[], [(0, "x"), (1, "x")]⟩
def cmp_isNaN_int__an : An := .d
def cmp_isNaN_int__fi : Fi := ⟨6, cmp_isNaN_int__c, cmp_isNaN_int__r, cmp_isNaN_int__an, cmp_isNaN_int__hi, none⟩
theorem cmp_isNaN_int__ok : FiOk Try.prog f_cmp_isNaN_int_ cmp_isNaN_int__fi :=
  ⟨fun _ => by kernel_rfl, fun _ h hlen => fun_sound (by kernel_rfl) (fn := Try.f33) (draw_sound _ _) Try.func33 rfl (by kernel_rfl : comp Try.prog 6 _ cmp_isNaN_int__c = some cmp_isNaN_int__c) (by kernel_rfl : cRes Try.prog Try.f33.results.toList = some cmp_isNaN_int__r) hlen h, fun _ h => nomatch h⟩

/-- cmp.Compare[int]: slots [0 x, 1 y, 2 x, 3 y, 5 xNaN, 6 yNaN] -/
def cmp_Compare_int__c : SCode :=
  (.seq (.ops [⟨(some 4), .mov (.c (.int .i64 0)), none, false, []⟩] none [0, 1])
  (.seq (.ops [⟨(some 7), .mov (.t 0), none, false, []⟩,
    ⟨(some 8), .call f_cmp_isNaN_int_ [(.t 7)], none, false, []⟩,
    ⟨(some 5), .mov (.t 8), none, false, []⟩] none [0, 1, 5])
  (.seq (.ops [⟨(some 9), .mov (.t 1), none, false, []⟩,
    ⟨(some 10), .call f_cmp_isNaN_int_ [(.t 9)], none, false, []⟩,
    ⟨(some 6), .mov (.t 10), none, false, []⟩] none [0, 1, 5, 6])
  (.seq (.seq (.ops [⟨(some 11), .mov (.t 5), none, false, []⟩] none [0, 1, 6, 11])
  (.cond (.t 11)
    (.seq (.seq (.ops [⟨(some 12), .mov (.t 6), none, false, []⟩] none [12])
    (.cond (.t 12)
      (.seq (.ops [⟨(some 4), .mov (.c (.int .i64 0)), none, false, []⟩] none [4])
      .ret)
      .skip))
    (.seq (.ops [⟨(some 4), .mov (.c (.int .i64 (-1))), none, false, []⟩] none [4])
    .ret))
    .skip))
  (.seq (.seq (.ops [⟨(some 13), .mov (.t 6), none, false, []⟩] none [0, 1, 13])
  (.cond (.t 13)
    (.seq (.ops [⟨(some 4), .mov (.c (.int .i64 1)), none, false, []⟩] none [4])
    .ret)
    .skip))
  (.seq (.seq (.ops [⟨(some 14), .mov (.t 0), none, false, []⟩,
    ⟨(some 15), .mov (.t 1), none, false, []⟩,
    ⟨(some 16), .bin .none .lss (.t 14) (.t 15), none, false, []⟩] none [0, 1, 16])
  (.cond (.t 16)
    (.seq (.ops [⟨(some 4), .mov (.c (.int .i64 (-1))), none, false, []⟩] none [4])
    .ret)
    .skip))
  (.seq (.seq (.ops [⟨(some 17), .mov (.t 0), none, false, []⟩,
    ⟨(some 18), .mov (.t 1), none, false, []⟩,
    ⟨(some 19), .bin .none .gtr (.t 17) (.t 18), none, false, []⟩] none [19])
  (.cond (.t 19)
    (.seq (.ops [⟨(some 4), .mov (.c (.int .i64 1)), none, false, []⟩] none [4])
    .ret)
    .skip))
  (.seq (.ops [⟨(some 4), .mov (.c (.int .i64 0)), none, false, []⟩] none [4])
  .ret))))))))
def cmp_Compare_int__r : List RRes := [.tmp 4]
def cmp_Compare_int__hi : Hi := ⟨[], [(0, "x"), (1, "y"), (2, "x"), (3, "y"), (5, "xNaN"), (6, "yNaN")]⟩
def cmp_Compare_int__an : An := .d
def cmp_Compare_int__fi : Fi := ⟨20, cmp_Compare_int__c, cmp_Compare_int__r, cmp_Compare_int__an, cmp_Compare_int__hi, none⟩
theorem cmp_Compare_int__ok : FiOk Try.prog f_cmp_Compare_int_ cmp_Compare_int__fi :=
  ⟨fun _ => by kernel_rfl, fun _ h hlen => fun_sound (by kernel_rfl) (fn := Try.f19) (draw_sound _ _) Try.func19 rfl (by kernel_rfl : comp Try.prog 20 _ cmp_Compare_int__c = some cmp_Compare_int__c) (by kernel_rfl : cRes Try.prog Try.f19.results.toList = some cmp_Compare_int__r) hlen h, fun _ h => nomatch h⟩

/-- cmp.Or[int]: slots [0 vals, 1 vals, 3 zero, 4 _, 5 val] -/
def cmp_Or_int__c : SCode :=
  (.seq (.ops [⟨(some 2), .mov (.c (.int .i64 0)), none, false, []⟩] none [0])
  (.seq (.ops [⟨(some 3), .mov (.c (.int .i64 0)), none, false, []⟩] none [0, 3])
  (.seq (.seq (.ops [⟨(some 6), .mov (.t 0), none, false, []⟩,
    ⟨(some 7), .len false (.t 6), none, false, []⟩,
    ⟨(some 8), .mov (.c (.int .i64 0)), none, false, []⟩] none [3, 6, 7, 8])
  (.block 0 (.loop [3, 6, 7] [8] 0
    (.seq (.ops [⟨(some 9), .bin .none .lss (.t 8) (.t 7), none, false, []⟩] none [3, 6, 7, 8, 9])
    (.seq (.cond (.t 9)
      .skip
      (.exit 0))
    (.seq (.block 1 (.seq (.ops [⟨(some 10), .iaddr 1 none (.t 6) (.t 8), none, false, []⟩,
      ⟨(some 11), .load 1 false (.t 10), none, false, []⟩,
      ⟨(some 5), .mov (.t 11), none, false, []⟩] none [3, 5, 6, 7, 8])
    (.seq (.ops [⟨(some 12), .mov (.t 5), none, false, []⟩,
      ⟨(some 13), .mov (.t 3), none, false, []⟩,
      ⟨(some 14), .bin .none .neq (.t 12) (.t 13), none, false, []⟩] none [3, 5, 6, 7, 8, 14])
    (.cond (.t 14)
      (.seq (.ops [⟨(some 15), .mov (.t 5), none, false, []⟩,
        ⟨(some 2), .mov (.t 15), none, false, []⟩] none [2])
      .ret)
      .skip))))
    (.ops [⟨(some 16), .bin .none .add (.t 8) (.c (.int .i64 1)), none, false, []⟩,
      ⟨(some 8), .mov (.t 16), none, false, []⟩] none [3, 6, 7, 8])))))))
  (.seq (.ops [⟨(some 17), .mov (.t 3), none, false, []⟩,
    ⟨(some 2), .mov (.t 17), none, false, []⟩] none [2])
  .ret))))
def cmp_Or_int__r : List RRes := [.tmp 2]
def cmp_Or_int__hi : Hi := ⟨[], [(0, "vals"), (1, "vals"), (3, "zero"), (5, "val")]⟩
def cmp_Or_int__an : An := (.seq .d (.seq .d (.seq (.seq .d (.loop [] [] [] .d)) .d)))
def cmp_Or_int__fi : Fi := ⟨18, cmp_Or_int__c, cmp_Or_int__r, cmp_Or_int__an, cmp_Or_int__hi, none⟩
theorem cmp_Or_int__ok : FiOk Try.prog f_cmp_Or_int_ cmp_Or_int__fi :=
  ⟨fun _ => by kernel_rfl, fun _ h hlen => fun_sound (by kernel_rfl) (fn := Try.f18) (draw_sound _ _) Try.func18 rfl (by kernel_rfl : comp Try.prog 18 _ cmp_Or_int__c = some cmp_Or_int__c) (by kernel_rfl : cRes Try.prog Try.f18.results.toList = some cmp_Or_int__r) hlen h, fun _ h => nomatch h⟩

/-- fustian/fustianref.MarksOrder: slots [0 ms, 1 ms, 4 out, 5 i, 6 m, 7 n, 8 k, 9 o, 10 ahead] -/
def ref_MarksOrder_c : SCode :=
  (.seq (.ops [⟨(some 2), .mov (.c .nils), none, false, []⟩,
    ⟨(some 3), .mov (.c (.int .i64 0)), none, false, []⟩] none [0])
  (.seq (.seq (.ops [⟨(some 11), .mov (.t 0), none, false, []⟩,
    ⟨(some 12), .len false (.t 11), none, false, []⟩,
    ⟨(some 13), .bin .none .gtr (.t 12) (.c (.int .i64 60)), none, false, []⟩] none [0, 13])
  (.cond (.t 13)
    (.seq (.ops [⟨(some 2), .mov (.c .nils), none, false, []⟩,
      ⟨(some 3), .mov (.c (.int .i64 1)), none, false, []⟩] none [2, 3])
    .ret)
    .skip))
  (.seq (.ops [⟨(some 14), .mov (.t 0), none, false, []⟩,
    ⟨(some 15), .len false (.t 14), none, false, []⟩,
    ⟨(some 16), .mkslice 1 8 [(.int .i64 0)] (.t 15) (.t 15), none, false, []⟩,
    ⟨(some 4), .mov (.t 16), none, false, []⟩] none [0, 4])
  (.seq (.seq (.ops [⟨(some 17), .mov (.t 0), none, false, []⟩,
    ⟨(some 18), .len false (.t 17), none, false, []⟩,
    ⟨(some 19), .mov (.c (.int .i64 0)), none, false, []⟩] none [0, 4, 17, 18, 19])
  (.block 0 (.loop [0, 4, 17, 18] [19] 1
    (.seq (.ops [⟨(some 20), .bin .none .lss (.t 19) (.t 18), none, false, []⟩] none [0, 4, 17, 18, 19, 20])
    (.seq (.cond (.t 20)
      .skip
      (.exit 0))
    (.seq (.block 1 (.seq (.ops [⟨(some 21), .mov (.t 19), none, false, []⟩,
      ⟨(some 22), .iaddr 2 none (.t 17) (.t 19), none, false, []⟩,
      ⟨(some 23), .load 2 true (.t 22), none, false, []⟩,
      ⟨(some 6), .alloc 0 [(.int .i64 0), (.bool false)], none, false, []⟩,
      ⟨(some 5), .mov (.t 21), none, false, []⟩,
      ⟨none, .store 2 (.t 6) (.t 23), none, false, []⟩] none [0, 4, 5, 6, 17, 18, 19])
    (.seq (.ops [⟨(some 7), .mov (.c (.int .i64 0)), none, false, []⟩] none [0, 4, 5, 6, 7, 17, 18, 19])
    (.seq (.seq (.ops [⟨(some 24), .mov (.t 0), none, false, []⟩,
      ⟨(some 25), .len false (.t 24), none, false, []⟩,
      ⟨(some 26), .mov (.c (.int .i64 0)), none, false, []⟩] none [0, 4, 5, 6, 7, 17, 18, 19, 24, 25, 26])
    (.block 2 (.loop [0, 4, 5, 6, 17, 18, 19, 24, 25] [7, 26] 2
      (.seq (.ops [⟨(some 27), .bin .none .lss (.t 26) (.t 25), none, false, []⟩] none [0, 4, 5, 6, 7, 17, 18, 19, 24, 25, 26, 27])
      (.seq (.cond (.t 27)
        .skip
        (.exit 2))
      (.join [0, 4, 5, 6, 17, 18, 19, 24, 25, 26] [7] 3 (.block 3 (.seq (.ops [⟨(some 28), .mov (.t 26), none, false, []⟩,
          ⟨(some 29), .iaddr 2 none (.t 24) (.t 26), none, false, []⟩,
          ⟨(some 30), .load 2 true (.t 29), none, false, []⟩,
          ⟨(some 9), .alloc 0 [(.int .i64 0), (.bool false)], none, false, []⟩,
          ⟨(some 8), .mov (.t 28), none, false, []⟩,
          ⟨none, .store 2 (.t 9) (.t 30), none, false, []⟩] none [0, 4, 5, 6, 7, 8, 9, 17, 18, 19, 24, 25, 26])
        (.seq (.ops [⟨(some 31), .faddr 0 (.t 9), none, false, []⟩,
          ⟨(some 32), .load 1 false (.t 31), none, false, []⟩,
          ⟨(some 33), .faddr 0 (.t 6), none, false, []⟩,
          ⟨(some 34), .load 1 false (.t 33), none, false, []⟩,
          ⟨(some 35), .bin .none .lss (.t 32) (.t 34), none, false, []⟩,
          ⟨(some 36), .mov (.t 35), none, true, []⟩,
          ⟨(some 37), .faddr 0 (.t 9), (some (36, false)), false, []⟩,
          ⟨(some 38), .load 1 false (.t 37), (some (36, false)), false, []⟩,
          ⟨(some 39), .faddr 0 (.t 6), (some (36, false)), false, []⟩,
          ⟨(some 40), .load 1 false (.t 39), (some (36, false)), false, []⟩,
          ⟨(some 41), .bin .none .eql (.t 38) (.t 40), (some (36, false)), false, []⟩,
          ⟨(some 42), .mov (.t 41), (some (36, false)), true, []⟩,
          ⟨(some 43), .faddr 1 (.t 9), (some (42, true)), false, []⟩,
          ⟨(some 44), .load 1 false (.t 43), (some (42, true)), false, []⟩,
          ⟨(some 45), .not (.t 44), (some (42, true)), false, []⟩,
          ⟨(some 46), .mov (.t 45), (some (42, true)), true, []⟩,
          ⟨(some 47), .faddr 1 (.t 6), (some (46, true)), false, []⟩,
          ⟨(some 48), .load 1 false (.t 47), (some (46, true)), false, []⟩,
          ⟨(some 49), .pick (.t 46) (.t 48) (.c (.bool false)), (some (42, true)), false, []⟩,
          ⟨(some 50), .mov (.t 49), (some (42, true)), true, []⟩,
          ⟨(some 51), .faddr 1 (.t 9), (some (50, false)), false, []⟩,
          ⟨(some 52), .load 1 false (.t 51), (some (50, false)), false, []⟩,
          ⟨(some 53), .faddr 1 (.t 6), (some (50, false)), false, []⟩,
          ⟨(some 54), .load 1 false (.t 53), (some (50, false)), false, []⟩,
          ⟨(some 55), .bin .bool .eql (.t 52) (.t 54), (some (50, false)), false, []⟩,
          ⟨(some 56), .mov (.t 55), (some (50, false)), true, []⟩,
          ⟨(some 57), .mov (.t 8), (some (56, true)), false, []⟩,
          ⟨(some 58), .mov (.t 5), (some (56, true)), false, []⟩,
          ⟨(some 59), .bin .none .lss (.t 57) (.t 58), (some (56, true)), false, []⟩,
          ⟨(some 60), .pick (.t 56) (.t 59) (.c (.bool false)), (some (50, false)), false, []⟩,
          ⟨(some 61), .pick (.t 50) (.c (.bool true)) (.t 60), (some (42, true)), false, []⟩,
          ⟨(some 62), .pick (.t 42) (.t 61) (.c (.bool false)), (some (36, false)), false, []⟩,
          ⟨(some 63), .pick (.t 36) (.c (.bool true)) (.t 62), none, false, []⟩,
          ⟨(some 10), .mov (.t 63), none, false, []⟩] none [0, 4, 5, 6, 7, 10, 17, 18, 19, 24, 25, 26])
        (.seq (.ops [⟨(some 64), .mov (.t 10), none, false, []⟩] none [0, 4, 5, 6, 7, 17, 18, 19, 24, 25, 26, 64])
        (.cond (.t 64)
          (.ops [⟨(some 65), .mov (.t 7), none, false, []⟩,
            ⟨(some 66), .bin .none .add (.t 65) (.c (.int .i64 1)), none, false, []⟩,
            ⟨(some 7), .mov (.t 66), none, false, []⟩] none [0, 4, 5, 6, 7, 17, 18, 19, 24, 25, 26])
          .skip)))))
      (.ops [⟨(some 67), .bin .none .add (.t 26) (.c (.int .i64 1)), none, false, []⟩,
        ⟨(some 26), .mov (.t 67), none, false, []⟩] none [0, 4, 5, 6, 7, 17, 18, 19, 24, 25, 26])))))))
    (.ops [⟨(some 68), .mov (.t 4), none, false, []⟩,
      ⟨(some 69), .mov (.t 7), none, false, []⟩,
      ⟨(some 70), .mov (.t 5), none, false, []⟩,
      ⟨(some 71), .iaddr 1 none (.t 68) (.t 69), none, false, []⟩,
      ⟨none, .store 1 (.t 71) (.t 70), none, false, []⟩] none [0, 4, 17, 18, 19])))))
    (.ops [⟨(some 72), .bin .none .add (.t 19) (.c (.int .i64 1)), none, false, []⟩,
      ⟨(some 19), .mov (.t 72), none, false, []⟩] none [0, 4, 17, 18, 19])))))))
  (.seq (.ops [⟨(some 73), .mov (.t 4), none, false, []⟩,
    ⟨(some 2), .mov (.t 73), none, false, []⟩,
    ⟨(some 3), .mov (.c (.int .i64 0)), none, false, []⟩] none [2, 3])
  .ret)))))
def ref_MarksOrder_r : List RRes := [.tmp 2, .tmp 3]
def ref_MarksOrder_hi : Hi := ⟨[(16, (.int .i64)), (6, (.st (.cons (.int .i64) (.cons .bool .nil)))), (9, (.st (.cons (.int .i64) (.cons .bool .nil))))], [(0, "ms"), (1, "ms"), (4, "out"), (5, "i"), (6, "m"), (7, "n"), (8, "k"), (9, "o"), (10, "ahead")]⟩
def ref_MarksOrder_an : An := (.seq .d (.seq .d (.seq .d (.seq (.seq .d (.loop [4] [] [] (.seq .d (.seq .d (.seq (.seq .d (.seq .d (.seq (.seq .d (.loop [] [] [] .d)) .d))) .d))))) .d))))
def ref_MarksOrder_fi : Fi := ⟨74, ref_MarksOrder_c, ref_MarksOrder_r, ref_MarksOrder_an, ref_MarksOrder_hi, none⟩
theorem ref_MarksOrder_ok : FiOk Try.prog f_ref_MarksOrder ref_MarksOrder_fi :=
  ⟨fun _ => by kernel_rfl, fun _ h hlen => fun_sound (by kernel_rfl) (fn := Try.f10) (draw_sound _ _) Try.func10 rfl (by kernel_rfl : comp Try.prog 74 _ ref_MarksOrder_c = some ref_MarksOrder_c) (by kernel_rfl : cRes Try.prog Try.f10.results.toList = some ref_MarksOrder_r) hlen h, fun _ h => nomatch h⟩

/-- fustian/fustianlaw.sameInts: slots [0 a, 1 b, 2 a, 3 b, 5 i] -/
def law_sameInts_c : SCode :=
  (.seq (.ops [⟨(some 4), .mov (.c (.bool false)), none, false, []⟩] none [0, 1])
  (.seq (.seq (.ops [⟨(some 6), .mov (.t 0), none, false, []⟩,
    ⟨(some 7), .len false (.t 6), none, false, []⟩,
    ⟨(some 8), .mov (.t 1), none, false, []⟩,
    ⟨(some 9), .len false (.t 8), none, false, []⟩,
    ⟨(some 10), .bin .none .neq (.t 7) (.t 9), none, false, []⟩] none [0, 1, 10])
  (.cond (.t 10)
    (.seq (.ops [⟨(some 4), .mov (.c (.bool false)), none, false, []⟩] none [4])
    .ret)
    .skip))
  (.seq (.seq (.ops [⟨(some 5), .mov (.c (.int .i64 0)), none, false, []⟩] none [0, 1, 5])
  (.block 0 (.loop [0, 1] [5] 0
    (.seq (.seq (.ops [⟨(some 11), .mov (.t 5), none, false, []⟩,
      ⟨(some 12), .mov (.t 0), none, false, []⟩,
      ⟨(some 13), .len false (.t 12), none, false, []⟩,
      ⟨(some 14), .bin .none .lss (.t 11) (.t 13), none, false, []⟩] none [0, 1, 5, 14])
    (.cond (.t 14)
      .skip
      (.exit 0)))
    (.seq (.block 1 (.seq (.ops [⟨(some 17), .mov (.t 0), none, false, []⟩,
      ⟨(some 18), .mov (.t 5), none, false, []⟩,
      ⟨(some 19), .iaddr 1 none (.t 17) (.t 18), none, false, []⟩,
      ⟨(some 20), .load 1 false (.t 19), none, false, []⟩,
      ⟨(some 21), .mov (.t 1), none, false, []⟩,
      ⟨(some 22), .mov (.t 5), none, false, []⟩,
      ⟨(some 23), .iaddr 1 none (.t 21) (.t 22), none, false, []⟩,
      ⟨(some 24), .load 1 false (.t 23), none, false, []⟩,
      ⟨(some 25), .bin .none .neq (.t 20) (.t 24), none, false, []⟩] (some (0, 0, [0, 1, 2, 3, 4, 5, 6, 7, 8])) [0, 1, 5, 25])
    (.cond (.t 25)
      (.seq (.ops [⟨(some 4), .mov (.c (.bool false)), none, false, []⟩] none [4])
      .ret)
      .skip)))
    (.ops [⟨(some 15), .mov (.t 5), none, false, []⟩,
      ⟨(some 16), .bin .none .add (.t 15) (.c (.int .i64 1)), none, false, []⟩,
      ⟨(some 5), .mov (.t 16), none, false, []⟩] none [0, 1, 5]))))))
  (.seq (.ops [⟨(some 4), .mov (.c (.bool true)), none, false, []⟩] none [4])
  .ret))))
def law_sameInts_r : List RRes := [.tmp 4]
def law_sameInts_hi : Hi := ⟨[], [(0, "a"), (1, "b"), (2, "a"), (3, "b"), (5, "i")]⟩
def law_sameInts_an : An := (.seq .d (.seq .d (.seq (.seq .d (.loop [] [] [] .d)) .d)))
def law_sameInts_fi : Fi := ⟨26, law_sameInts_c, law_sameInts_r, law_sameInts_an, law_sameInts_hi, none⟩
theorem law_sameInts_ok : FiOk Try.prog f_law_sameInts law_sameInts_fi :=
  ⟨fun _ => by kernel_rfl, fun _ h hlen => fun_sound (by kernel_rfl) (fn := Try.f8) (draw_sound _ _) Try.func8 rfl (by kernel_rfl : comp Try.prog 26 _ law_sameInts_c = some law_sameInts_c) (by kernel_rfl : cRes Try.prog Try.f8.results.toList = some law_sameInts_r) hlen h, fun _ h => nomatch h⟩

/-- fustian/fustianlaw.MarksOrders: slots [0 ms, 1 ms, 3 x, 4 e, 5 y, 6 f] -/
def law_MarksOrders_c : SCode :=
  (.seq (.ops [⟨(some 2), .mov (.c (.bool false)), none, false, []⟩] none [0])
  (.seq (.ops [⟨(some 8), .mov (.t 0), none, false, []⟩,
    ⟨(some 9), .call f_marks_Order [(.t 8)], none, false, []⟩,
    ⟨(some 7), .mov (.t 9), none, false, []⟩,
    ⟨(some 10), .extract (.t 7) 0, none, false, []⟩,
    ⟨(some 11), .extract (.t 7) 1, none, false, []⟩,
    ⟨(some 3), .mov (.t 10), none, false, []⟩,
    ⟨(some 4), .mov (.t 11), none, false, []⟩] none [0, 3, 4])
  (.seq (.ops [⟨(some 13), .mov (.t 0), none, false, []⟩,
    ⟨(some 14), .call f_ref_MarksOrder [(.t 13)], none, false, []⟩,
    ⟨(some 12), .mov (.t 14), none, false, []⟩,
    ⟨(some 15), .extract (.t 12) 0, none, false, []⟩,
    ⟨(some 16), .extract (.t 12) 1, none, false, []⟩,
    ⟨(some 5), .mov (.t 15), none, false, []⟩,
    ⟨(some 6), .mov (.t 16), none, false, []⟩] none [3, 4, 5, 6])
  (.seq (.ops [⟨(some 17), .mov (.t 3), none, false, []⟩,
    ⟨(some 18), .mov (.t 5), none, false, []⟩,
    ⟨(some 19), .call f_law_sameInts [(.t 17), (.t 18)], none, false, []⟩,
    ⟨(some 20), .mov (.t 19), none, true, []⟩,
    ⟨(some 21), .mov (.t 4), (some (20, true)), false, []⟩,
    ⟨(some 22), .mov (.t 6), (some (20, true)), false, []⟩,
    ⟨(some 23), .bin .none .eql (.t 21) (.t 22), (some (20, true)), false, []⟩,
    ⟨(some 24), .pick (.t 20) (.t 23) (.c (.bool false)), none, false, []⟩,
    ⟨(some 2), .mov (.t 24), none, false, []⟩] none [2])
  .ret))))
def law_MarksOrders_r : List RRes := [.tmp 2]
def law_MarksOrders_hi : Hi := ⟨[], [(0, "ms"), (1, "ms"), (3, "x"), (4, "e"), (5, "y"), (6, "f")]⟩
def law_MarksOrders_an : An := .d
def law_MarksOrders_fi : Fi := ⟨25, law_MarksOrders_c, law_MarksOrders_r, law_MarksOrders_an, law_MarksOrders_hi, none⟩
theorem law_MarksOrders_ok : FiOk Try.prog f_law_MarksOrders law_MarksOrders_fi :=
  ⟨fun _ => by kernel_rfl, fun _ h hlen => fun_sound (by kernel_rfl) (fn := Try.f4) (draw_sound _ _) Try.func4 rfl (by kernel_rfl : comp Try.prog 25 _ law_MarksOrders_c = some law_MarksOrders_c) (by kernel_rfl : cRes Try.prog Try.f4.results.toList = some law_MarksOrders_r) hlen h, fun _ h => nomatch h⟩

end Go.Proofs.Ytoiebdgnfjgcpaa
