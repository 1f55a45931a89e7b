/- The functions' simplified code, printed by a program of the claim's author; each is checked against the program's own code. Conditions: none. -/
import Derived.Test.YtoiebdgnfjgcpaaProg
import Derived.Test.YtoiebdgnfjgcpaaVyM
set_option linter.unusedVariables false
set_option maxRecDepth 100000
namespace Go.Proofs.Ytoiebdgnfjgcpaa.M
open Go.Vc
abbrev f_gosem_cut_init : Nat := 2
abbrev f_law_WordsFinds : Nat := 3
abbrev f_law_MarksOrders : Nat := 4
abbrev f_law_SuffixFinds : Nat := 5
abbrev f_words_Find : Nat := 6
abbrev f_ref_WordsFind : Nat := 7
abbrev f_law_sameInts : Nat := 8
abbrev f_marks_Order : Nat := 9
abbrev f_ref_MarksOrder : Nat := 10
abbrev f_suffix_Find : Nat := 11
abbrev f_ref_FindAll : Nat := 12
abbrev f_words_Noted : Nat := 13
abbrev f_words_Of : Nat := 14
abbrev f_ref_wordAt : Nat := 15
abbrev f_slices_SortStableFunc___int_int_ : Nat := 16
abbrev f_marks_Order_1 : Nat := 17
abbrev f_cmp_Or_int_ : Nat := 18
abbrev f_cmp_Compare_int_ : Nat := 19
abbrev f_suffix_sorted : Nat := 20
abbrev f_sort_Search : Nat := 21
abbrev f_suffix_Find_1 : Nat := 22
abbrev f_strings_HasPrefix : Nat := 23
abbrev f_slices_Sorted_int_ : Nat := 24
abbrev f_slices_Values___int_int_ : Nat := 25
abbrev f_ref_findFault : Nat := 26
abbrev f_ref_standsAt : Nat := 27
abbrev f_words_part : Nat := 28
abbrev f_words_Each : Nat := 29
abbrev f_words_Of_1 : Nat := 30
abbrev f_ref_letter : Nat := 31
abbrev f_slices_stableCmpFunc_int_ : Nat := 32
abbrev f_cmp_isNaN_int_ : Nat := 33
abbrev f_suffix_sorted_1 : Nat := 34
abbrev f_suffix_sorted_2 : Nat := 35
abbrev f_slices_SortFunc___int_int_ : Nat := 36
abbrev f_internal_stringslite_HasPrefix : Nat := 37
abbrev f_slices_Collect_int_ : Nat := 38
abbrev f_slices_Sort___int_int_ : Nat := 39
abbrev f_slices_Values___int_int__1 : Nat := 40
abbrev f_slices_insertionSortCmpFunc_int_ : Nat := 41
abbrev f_slices_symMergeCmpFunc_int_ : Nat := 42
abbrev f_slices_pdqsortCmpFunc_int_ : Nat := 43
abbrev f_math_bits_Len : Nat := 44
abbrev f_slices_AppendSeq___int_int_ : Nat := 45
abbrev f_slices_pdqsortOrdered_int_ : Nat := 46
abbrev f_slices_rotateCmpFunc_int_ : Nat := 47
abbrev f_slices_heapSortCmpFunc_int_ : Nat := 48
abbrev f_slices_breakPatternsCmpFunc_int_ : Nat := 49
abbrev f_slices_choosePivotCmpFunc_int_ : Nat := 50
abbrev f_slices_reverseRangeCmpFunc_int_ : Nat := 51
abbrev f_slices_partialInsertionSortCmpFunc_int_ : Nat := 52
abbrev f_slices_partitionEqualCmpFunc_int_ : Nat := 53
abbrev f_slices_partitionCmpFunc_int_ : Nat := 54
abbrev f_math_bits_Len32 : Nat := 55
abbrev f_math_bits_Len64 : Nat := 56
abbrev f_slices_insertionSortOrdered_int_ : Nat := 57
abbrev f_slices_heapSortOrdered_int_ : Nat := 58
abbrev f_slices_breakPatternsOrdered_int_ : Nat := 59
abbrev f_slices_choosePivotOrdered_int_ : Nat := 60
abbrev f_slices_reverseRangeOrdered_int_ : Nat := 61
abbrev f_slices_partialInsertionSortOrdered_int_ : Nat := 62
abbrev f_cmp_Less_int_ : Nat := 63
abbrev f_slices_partitionEqualOrdered_int_ : Nat := 64
abbrev f_slices_partitionOrdered_int_ : Nat := 65
abbrev f_slices_swapRangeCmpFunc_int_ : Nat := 66
abbrev f_slices_siftDownCmpFunc_int_ : Nat := 67
abbrev f_slices_nextPowerOfTwo : Nat := 68
abbrev f___slices_xorshift__Next : Nat := 69
abbrev f_slices_medianAdjacentCmpFunc_int_ : Nat := 70
abbrev f_slices_medianCmpFunc_int_ : Nat := 71
abbrev f_slices_siftDownOrdered_int_ : Nat := 72
abbrev f_slices_medianAdjacentOrdered_int_ : Nat := 73
abbrev f_slices_medianOrdered_int_ : Nat := 74
abbrev f_slices_order2CmpFunc_int_ : Nat := 75
abbrev f_slices_order2Ordered_int_ : Nat := 76

/-- fustian/marks.Order: slots [0 ms, 1 ms, 4 side, 5 out, 6 i] -/
def marks_Order_c : SCode :=
  (.seq (.ops [⟨(some 1), .box 0 (.t 0), none, false, []⟩,
    ⟨(some 2), .mov (.c .nils), none, false, []⟩,
    ⟨(some 3), .mov (.c (.int .i64 0)), none, false, []⟩] none [1])
  (.seq (.seq (.ops [⟨(some 7), .load 1 false (.t 1), none, false, []⟩,
    ⟨(some 8), .len false (.t 7), none, false, []⟩,
    ⟨(some 9), .bin .none .gtr (.t 8) (.c (.int .i64 60)), none, false, []⟩] none [1, 9])
  (.cond (.t 9)
    (.seq (.ops [⟨(some 2), .mov (.c .nils), none, false, []⟩,
      ⟨(some 3), .mov (.c (.int .i64 1)), none, false, []⟩] none [2, 3])
    .ret)
    .skip))
  (.seq (.ops [⟨(some 10), .mkmap, none, false, []⟩,
    ⟨none, .mupd .bool (.t 10) (.c (.bool true)) (.c (.int .i64 1)), none, false, []⟩,
    ⟨(some 11), .mov (.t 10), none, false, []⟩,
    ⟨(some 4), .alloc 0 [.nilm], none, false, []⟩,
    ⟨none, .store 1 (.t 4) (.t 11), none, false, []⟩] none [1, 4])
  (.seq (.ops [⟨(some 5), .newnil 1, none, false, []⟩] none [1, 4, 5])
  (.seq (.seq (.ops [⟨(some 12), .load 1 false (.t 1), none, false, []⟩,
    ⟨(some 13), .len false (.t 12), none, false, []⟩,
    ⟨(some 14), .mov (.c (.int .i64 0)), none, false, []⟩] none [1, 4, 5, 13, 14])
  (.block 0 (.loop [1, 4, 13] [5, 14] 4
    (.seq (.ops [⟨(some 15), .bin .none .lss (.t 14) (.t 13), none, false, []⟩] none [1, 4, 5, 13, 14, 15])
    (.seq (.cond (.t 15)
      .skip
      (.exit 0))
    (.seq (.block 1 (.seq (.ops [⟨(some 16), .mov (.t 14), none, false, []⟩,
      ⟨(some 6), .mov (.t 16), none, false, []⟩] none [1, 4, 5, 6, 13, 14])
    (.ops [⟨(some 17), .mov (.t 5), none, false, []⟩,
      ⟨(some 18), .mov (.t 6), none, false, []⟩,
      ⟨(some 19), .bslice true 1 1 [(.int .i64 0)] [(0, 1, (.t 18))], none, false, []⟩,
      ⟨(some 20), .append 1 8 (.t 17) (.t 19), none, false, []⟩,
      ⟨(some 5), .mov (.t 20), none, false, []⟩] none [1, 4, 5, 13, 14])))
    (.ops [⟨(some 21), .bin .none .add (.t 14) (.c (.int .i64 1)), none, false, []⟩,
      ⟨(some 14), .mov (.t 21), none, false, []⟩] none [1, 4, 5, 13, 14])))))))
  (.seq (.ops [⟨(some 22), .mov (.t 5), none, false, []⟩,
    ⟨(some 23), .mkfunc (.func f_marks_Order_1) [] [(.t 1), (.t 4)], none, false, []⟩,
    ⟨(some 24), .call f_slices_SortStableFunc___int_int_ [(.t 22), (.t 23)], none, false, []⟩] none [5])
  (.seq (.ops [⟨(some 25), .mov (.t 5), none, false, []⟩,
    ⟨(some 2), .mov (.t 25), none, false, []⟩,
    ⟨(some 3), .mov (.c (.int .i64 0)), none, false, []⟩] none [2, 3])
  .ret)))))))
def marks_Order_r : List RRes := [.tmp 2, .tmp 3]
def marks_Order_hi : Hi := ⟨[(5, (.int .i64)), (19, (.int .i64)), (20, (.int .i64)), (1, (.sl (.st (.cons (.int .i64) (.cons .bool .nil)))))], [(0, "ms"), (1, "ms"), (4, "side"), (5, "out"), (6, "i")]⟩
def marks_Order_an : An := (.seq .d (.seq .d (.seq .d (.seq .d (.seq (.seq .d (.loop [5] [] [] .d)) .d)))))
def marks_Order_fi : Fi := ⟨26, marks_Order_c, marks_Order_r, marks_Order_an, marks_Order_hi, none⟩
theorem marks_Order_ok : FiOk Try.prog f_marks_Order marks_Order_fi :=
  ⟨fun _ => by kernel_rfl, fun _ h hlen => fun_sound (by kernel_rfl) (fn := Try.f9) (draw_sound _ _) Try.func9 rfl (by kernel_rfl : comp Try.prog 26 _ marks_Order_c = some marks_Order_c) (by kernel_rfl : cRes Try.prog Try.f9.results.toList = some marks_Order_r) hlen h, fun _ h => nomatch h⟩

/-- fustian/marks.Order$1: slots [0 a, 1 b, 4 a, 5 b] -/
def marks_Order_1_c : SCode :=
  (.seq (.ops [⟨(some 6), .mov (.c (.int .i64 0)), none, false, []⟩] none [0, 1, 2, 3])
  (.seq (.ops [⟨(some 7), .load 1 false (.t 2), none, false, []⟩,
    ⟨(some 8), .mov (.t 0), none, false, []⟩,
    ⟨(some 9), .iaddr 2 none (.t 7) (.t 8), none, false, []⟩,
    ⟨(some 10), .faddr 0 (.t 9), none, false, []⟩,
    ⟨(some 11), .load 1 false (.t 10), none, false, []⟩,
    ⟨(some 12), .load 1 false (.t 2), none, false, []⟩,
    ⟨(some 13), .mov (.t 1), none, false, []⟩,
    ⟨(some 14), .iaddr 2 none (.t 12) (.t 13), none, false, []⟩,
    ⟨(some 15), .faddr 0 (.t 14), none, false, []⟩,
    ⟨(some 16), .load 1 false (.t 15), none, false, []⟩,
    ⟨(some 18), .load 1 false (.t 3), none, false, []⟩,
    ⟨(some 19), .load 1 false (.t 2), none, false, []⟩,
    ⟨(some 20), .mov (.t 0), none, false, []⟩,
    ⟨(some 21), .iaddr 2 none (.t 19) (.t 20), none, false, []⟩,
    ⟨(some 22), .faddr 1 (.t 21), none, false, []⟩,
    ⟨(some 23), .load 1 false (.t 22), none, false, []⟩,
    ⟨(some 24), .mlook .bool false (.int .i64 0) (.t 18) (.t 23), none, false, []⟩,
    ⟨(some 25), .load 1 false (.t 3), none, false, []⟩,
    ⟨(some 26), .load 1 false (.t 2), none, false, []⟩,
    ⟨(some 27), .mov (.t 1), none, false, []⟩,
    ⟨(some 28), .iaddr 2 none (.t 26) (.t 27), none, false, []⟩,
    ⟨(some 29), .faddr 1 (.t 28), none, false, []⟩,
    ⟨(some 30), .load 1 false (.t 29), none, false, []⟩,
    ⟨(some 31), .mlook .bool false (.int .i64 0) (.t 25) (.t 30), none, false, []⟩,
    ⟨(some 17), .call f_cmp_Compare_int_ [(.t 11), (.t 16)], none, false, []⟩,
    ⟨(some 32), .call f_cmp_Compare_int_ [(.t 24), (.t 31)], none, false, []⟩,
    ⟨(some 33), .bslice true 2 1 [(.int .i64 0), (.int .i64 0)] [(0, 1, (.t 17)), (1, 1, (.t 32))], none, false, []⟩,
    ⟨(some 34), .call f_cmp_Or_int_ [(.t 33)], none, false, []⟩,
    ⟨(some 6), .mov (.t 34), none, false, []⟩] (some (25, 0, [0, 1, 2, 3, 4, 5, 6, 7, 8, 9, 11, 12, 13, 14, 15, 16, 17, 18, 19, 20, 21, 22, 23, 24, 10, 25, 26, 27, 28])) [6])
  .ret))
def marks_Order_1_r : List RRes := [.tmp 6]
def marks_Order_1_hi : Hi := ⟨[(33, (.int .i64))], [(0, "a"), (1, "b"), (4, "a"), (5, "b")]⟩
def marks_Order_1_an : An := .d
def marks_Order_1_fi : Fi := ⟨35, marks_Order_1_c, marks_Order_1_r, marks_Order_1_an, marks_Order_1_hi, none⟩
theorem marks_Order_1_ok : FiOk Try.prog f_marks_Order_1 marks_Order_1_fi :=
  ⟨fun _ => by kernel_rfl, fun _ h hlen => fun_sound (by kernel_rfl) (fn := Try.f17) (draw_sound _ _) Try.func17 rfl (by kernel_rfl : comp Try.prog 35 _ marks_Order_1_c = some marks_Order_1_c) (by kernel_rfl : cRes Try.prog Try.f17.results.toList = some marks_Order_1_r) hlen h, fun _ h => nomatch h⟩

/-- slices.SortStableFunc[[]int,int]: slots [0 x, 1 cmp, 2 x, 3 cmp] -/
def slices_SortStableFunc___int_int__c : SCode :=
  (.ops [⟨(some 4), .mov (.t 0), none, false, []⟩,
    ⟨(some 5), .mov (.t 0), none, false, []⟩,
    ⟨(some 6), .len false (.t 5), none, false, []⟩,
    ⟨(some 7), .mov (.t 1), none, false, []⟩,
    ⟨(some 8), .call f_slices_stableCmpFunc_int_ [(.t 4), (.t 6), (.t 7)], none, false, []⟩] none [])
def slices_SortStableFunc___int_int__r : List RRes := []
def slices_SortStableFunc___int_int__hi : Hi := ⟨[], [(0, "x"), (1, "cmp"), (2, "x"), (3, "cmp")]⟩
def slices_SortStableFunc___int_int__an : An := .d
def slices_SortStableFunc___int_int__fi : Fi := ⟨9, slices_SortStableFunc___int_int__c, slices_SortStableFunc___int_int__r, slices_SortStableFunc___int_int__an, slices_SortStableFunc___int_int__hi, none⟩
theorem slices_SortStableFunc___int_int__ok : FiOk Try.prog f_slices_SortStableFunc___int_int_ slices_SortStableFunc___int_int__fi :=
  ⟨fun _ => by kernel_rfl, fun _ h hlen => fun_sound (by kernel_rfl) (fn := Try.f16) (draw_sound _ _) Try.func16 rfl (by kernel_rfl : comp Try.prog 9 _ slices_SortStableFunc___int_int__c = some slices_SortStableFunc___int_int__c) (by kernel_rfl : cRes Try.prog Try.f16.results.toList = some slices_SortStableFunc___int_int__r) hlen h, fun _ h => nomatch h⟩

/-- slices.stableCmpFunc[int]: slots [0 data, 1 n, 2 cmp, 3 data, 4 n, 5 cmp, 6 blockSize, 7 a, 8 b, 9 m] -/
def slices_stableCmpFunc_int__c : SCode :=
  (.seq (.ops [⟨(some 6), .mov (.c (.int .i64 20)), none, false, []⟩] none [0, 1, 2, 6])
  (.seq (.ops [⟨(some 10), .mov (.t 6), none, false, []⟩,
    ⟨(some 7), .mov (.c (.int .i64 0)), none, false, []⟩,
    ⟨(some 8), .mov (.t 10), none, false, []⟩] none [0, 1, 2, 6, 7, 8])
  (.seq (.block 0 (.loop [0, 1, 2, 6] [7, 8] 0
    (.seq (.seq (.ops [⟨(some 11), .mov (.t 8), none, false, []⟩,
      ⟨(some 12), .mov (.t 1), none, false, []⟩,
      ⟨(some 13), .bin .none .leq (.t 11) (.t 12), none, false, []⟩] none [0, 1, 2, 6, 7, 8, 13])
    (.cond (.t 13)
      .skip
      (.exit 0)))
    (.block 1 (.seq (.ops [⟨(some 14), .mov (.t 0), none, false, []⟩,
      ⟨(some 15), .mov (.t 7), none, false, []⟩,
      ⟨(some 16), .mov (.t 8), none, false, []⟩,
      ⟨(some 17), .mov (.t 2), none, false, []⟩,
      ⟨(some 18), .call f_slices_insertionSortCmpFunc_int_ [(.t 14), (.t 15), (.t 16), (.t 17)], none, false, []⟩] none [0, 1, 2, 6, 8])
    (.seq (.ops [⟨(some 19), .mov (.t 8), none, false, []⟩,
      ⟨(some 7), .mov (.t 19), none, false, []⟩] none [0, 1, 2, 6, 7, 8])
    (.ops [⟨(some 20), .mov (.t 8), none, false, []⟩,
      ⟨(some 21), .mov (.t 6), none, false, []⟩,
      ⟨(some 22), .bin .none .add (.t 20) (.t 21), none, false, []⟩,
      ⟨(some 8), .mov (.t 22), none, false, []⟩] none [0, 1, 2, 6, 7, 8])))))))
  (.seq (.ops [⟨(some 23), .mov (.t 0), none, false, []⟩,
    ⟨(some 24), .mov (.t 7), none, false, []⟩,
    ⟨(some 25), .mov (.t 1), none, false, []⟩,
    ⟨(some 26), .mov (.t 2), none, false, []⟩,
    ⟨(some 27), .call f_slices_insertionSortCmpFunc_int_ [(.t 23), (.t 24), (.t 25), (.t 26)], none, false, []⟩] none [0, 1, 2, 6])
  (.block 2 (.loop [0, 1, 2] [6] 0
    (.seq (.seq (.ops [⟨(some 28), .mov (.t 6), none, false, []⟩,
      ⟨(some 29), .mov (.t 1), none, false, []⟩,
      ⟨(some 30), .bin .none .lss (.t 28) (.t 29), none, false, []⟩] none [0, 1, 2, 6, 30])
    (.cond (.t 30)
      .skip
      (.exit 2)))
    (.block 3 (.seq (.ops [⟨(some 31), .mov (.t 6), none, false, []⟩,
      ⟨(some 32), .bin .none .mul (.c (.int .i64 2)) (.t 31), none, false, []⟩,
      ⟨(some 7), .mov (.c (.int .i64 0)), none, false, []⟩,
      ⟨(some 8), .mov (.t 32), none, false, []⟩] none [0, 1, 2, 6, 7, 8])
    (.seq (.block 4 (.loop [0, 1, 2, 6] [7, 8] 0
      (.seq (.seq (.ops [⟨(some 33), .mov (.t 8), none, false, []⟩,
        ⟨(some 34), .mov (.t 1), none, false, []⟩,
        ⟨(some 35), .bin .none .leq (.t 33) (.t 34), none, false, []⟩] none [0, 1, 2, 6, 7, 8, 35])
      (.cond (.t 35)
        .skip
        (.exit 4)))
      (.block 5 (.seq (.ops [⟨(some 36), .mov (.t 0), none, false, []⟩,
        ⟨(some 37), .mov (.t 7), none, false, []⟩,
        ⟨(some 38), .mov (.t 7), none, false, []⟩,
        ⟨(some 39), .mov (.t 6), none, false, []⟩,
        ⟨(some 40), .bin .none .add (.t 38) (.t 39), none, false, []⟩,
        ⟨(some 41), .mov (.t 8), none, false, []⟩,
        ⟨(some 42), .mov (.t 2), none, false, []⟩,
        ⟨(some 43), .call f_slices_symMergeCmpFunc_int_ [(.t 36), (.t 37), (.t 40), (.t 41), (.t 42)], none, false, []⟩] none [0, 1, 2, 6, 8])
      (.seq (.ops [⟨(some 44), .mov (.t 8), none, false, []⟩,
        ⟨(some 7), .mov (.t 44), none, false, []⟩] none [0, 1, 2, 6, 7, 8])
      (.ops [⟨(some 45), .mov (.t 8), none, false, []⟩,
        ⟨(some 46), .mov (.t 6), none, false, []⟩,
        ⟨(some 47), .bin .none .mul (.c (.int .i64 2)) (.t 46), none, false, []⟩,
        ⟨(some 48), .bin .none .add (.t 45) (.t 47), none, false, []⟩,
        ⟨(some 8), .mov (.t 48), none, false, []⟩] none [0, 1, 2, 6, 7, 8])))))))
    (.join [0, 1, 2, 6] [] 0 (.seq (.ops [⟨(some 49), .mov (.t 7), none, false, []⟩,
        ⟨(some 50), .mov (.t 6), none, false, []⟩,
        ⟨(some 51), .bin .none .add (.t 49) (.t 50), none, false, []⟩,
        ⟨(some 9), .mov (.t 51), none, false, []⟩] none [0, 1, 2, 6, 7, 9])
      (.seq (.ops [⟨(some 52), .mov (.t 9), none, false, []⟩,
        ⟨(some 53), .mov (.t 1), none, false, []⟩,
        ⟨(some 54), .bin .none .lss (.t 52) (.t 53), none, false, []⟩] none [0, 1, 2, 6, 7, 9, 54])
      (.cond (.t 54)
        (.ops [⟨(some 55), .mov (.t 0), none, false, []⟩,
          ⟨(some 56), .mov (.t 7), none, false, []⟩,
          ⟨(some 57), .mov (.t 9), none, false, []⟩,
          ⟨(some 58), .mov (.t 1), none, false, []⟩,
          ⟨(some 59), .mov (.t 2), none, false, []⟩,
          ⟨(some 60), .call f_slices_symMergeCmpFunc_int_ [(.t 55), (.t 56), (.t 57), (.t 58), (.t 59)], none, false, []⟩] none [0, 1, 2, 6])
        .skip)))
    (.ops [⟨(some 61), .mov (.t 6), none, false, []⟩,
      ⟨(some 62), .bin .none .mul (.t 61) (.c (.int .i64 2)), none, false, []⟩,
      ⟨(some 6), .mov (.t 62), none, false, []⟩] none [0, 1, 2, 6]))))))))))))
def slices_stableCmpFunc_int__r : List RRes := []
def slices_stableCmpFunc_int__hi : Hi := ⟨[], [(0, "data"), (1, "n"), (2, "cmp"), (3, "data"), (4, "n"), (5, "cmp"), (6, "blockSize"), (7, "a"), (8, "b"), (9, "m")]⟩
def slices_stableCmpFunc_int__an : An := (.seq .d (.seq .d (.seq (.loop [0, 2] [] [] .d) (.seq .d (.loop [0, 2] [] [] (.seq .d (.seq .d (.seq (.loop [0, 2] [] [] .d) .d))))))))
def slices_stableCmpFunc_int__fi : Fi := ⟨63, slices_stableCmpFunc_int__c, slices_stableCmpFunc_int__r, slices_stableCmpFunc_int__an, slices_stableCmpFunc_int__hi, none⟩
theorem slices_stableCmpFunc_int__ok : FiOk Try.prog f_slices_stableCmpFunc_int_ slices_stableCmpFunc_int__fi :=
  ⟨fun _ => by kernel_rfl, fun _ h hlen => fun_sound (by kernel_rfl) (fn := Try.f32) (draw_sound _ _) Try.func32 rfl (by kernel_rfl : comp Try.prog 63 _ slices_stableCmpFunc_int__c = some slices_stableCmpFunc_int__c) (by kernel_rfl : cRes Try.prog Try.f32.results.toList = some slices_stableCmpFunc_int__r) hlen h, fun _ h => nomatch h⟩

/-- slices.insertionSortCmpFunc[int]: slots [0 data, 1 a, 2 b, 3 cmp, 4 data, 5 a, 6 b, 7 cmp, 8 i, 9 j] -/
def slices_insertionSortCmpFunc_int__c : SCode :=
  (.seq (.ops [⟨(some 10), .mov (.t 1), none, false, []⟩,
    ⟨(some 11), .bin .none .add (.t 10) (.c (.int .i64 1)), none, false, []⟩,
    ⟨(some 8), .mov (.t 11), none, false, []⟩] none [0, 1, 2, 3, 8])
  (.block 0 (.loop [0, 1, 2, 3] [8] 0
    (.seq (.seq (.ops [⟨(some 12), .mov (.t 8), none, false, []⟩,
      ⟨(some 13), .mov (.t 2), none, false, []⟩,
      ⟨(some 14), .bin .none .lss (.t 12) (.t 13), none, false, []⟩] none [0, 1, 2, 3, 8, 14])
    (.cond (.t 14)
      .skip
      (.exit 0)))
    (.seq (.block 1 (.seq (.ops [⟨(some 17), .mov (.t 8), none, false, []⟩,
      ⟨(some 9), .mov (.t 17), none, false, []⟩] none [0, 1, 2, 3, 8, 9])
    (.block 2 (.loop [0, 1, 2, 3, 8] [9] 0
      (.seq (.seq (.ops [⟨(some 18), .mov (.t 9), none, false, []⟩,
        ⟨(some 19), .mov (.t 1), none, false, []⟩,
        ⟨(some 20), .bin .none .gtr (.t 18) (.t 19), none, false, []⟩,
        ⟨(some 21), .mov (.t 20), none, true, []⟩,
        ⟨(some 22), .mov (.t 3), (some (21, true)), false, []⟩,
        ⟨(some 23), .mov (.t 0), (some (21, true)), false, []⟩,
        ⟨(some 24), .mov (.t 9), (some (21, true)), false, []⟩,
        ⟨(some 25), .iaddr 1 none (.t 23) (.t 24), (some (21, true)), false, []⟩,
        ⟨(some 26), .load 1 false (.t 25), (some (21, true)), false, []⟩,
        ⟨(some 27), .mov (.t 0), (some (21, true)), false, []⟩,
        ⟨(some 28), .mov (.t 9), (some (21, true)), false, []⟩,
        ⟨(some 29), .bin .none .sub (.t 28) (.c (.int .i64 1)), (some (21, true)), false, []⟩,
        ⟨(some 30), .iaddr 1 none (.t 27) (.t 29), (some (21, true)), false, []⟩,
        ⟨(some 31), .load 1 false (.t 30), (some (21, true)), false, []⟩,
        ⟨(some 32), .callv (.t 22) [(.t 26), (.t 31)], (some (21, true)), false, []⟩,
        ⟨(some 33), .bin .none .lss (.t 32) (.c (.int .i64 0)), (some (21, true)), false, []⟩,
        ⟨(some 34), .pick (.t 21) (.t 33) (.c (.bool false)), none, false, []⟩] (some (0, 0, [0, 1, 2, 3, 4, 5, 6, 7, 8, 9, 10, 11, 12, 13, 14, 15, 16])) [0, 1, 2, 3, 8, 9, 34])
      (.cond (.t 34)
        .skip
        (.exit 2)))
      (.seq (.block 3 (.ops [⟨(some 37), .mov (.t 0), none, false, []⟩,
        ⟨(some 38), .mov (.t 9), none, false, []⟩,
        ⟨(some 39), .mov (.t 0), none, false, []⟩,
        ⟨(some 40), .mov (.t 9), none, false, []⟩,
        ⟨(some 41), .bin .none .sub (.t 40) (.c (.int .i64 1)), none, false, []⟩,
        ⟨(some 42), .mov (.t 0), none, false, []⟩,
        ⟨(some 43), .mov (.t 9), none, false, []⟩,
        ⟨(some 44), .bin .none .sub (.t 43) (.c (.int .i64 1)), none, false, []⟩,
        ⟨(some 45), .iaddr 1 none (.t 42) (.t 44), none, false, []⟩,
        ⟨(some 46), .load 1 false (.t 45), none, false, []⟩,
        ⟨(some 47), .mov (.t 0), none, false, []⟩,
        ⟨(some 48), .mov (.t 9), none, false, []⟩,
        ⟨(some 49), .iaddr 1 none (.t 47) (.t 48), none, false, []⟩,
        ⟨(some 50), .load 1 false (.t 49), none, false, []⟩,
        ⟨(some 51), .iaddr 1 none (.t 37) (.t 38), none, false, []⟩,
        ⟨none, .store 1 (.t 51) (.t 46), none, false, []⟩,
        ⟨(some 52), .iaddr 1 none (.t 39) (.t 41), none, false, []⟩,
        ⟨none, .store 1 (.t 52) (.t 50), none, false, []⟩] (some (0, 0, [0, 1, 2, 3, 4, 5, 6, 7, 8, 9, 10, 11, 12, 13, 14, 15, 16, 17])) [0, 1, 2, 3, 8, 9]))
      (.ops [⟨(some 35), .mov (.t 9), none, false, []⟩,
        ⟨(some 36), .bin .none .sub (.t 35) (.c (.int .i64 1)), none, false, []⟩,
        ⟨(some 9), .mov (.t 36), none, false, []⟩] none [0, 1, 2, 3, 8, 9])))))))
    (.ops [⟨(some 15), .mov (.t 8), none, false, []⟩,
      ⟨(some 16), .bin .none .add (.t 15) (.c (.int .i64 1)), none, false, []⟩,
      ⟨(some 8), .mov (.t 16), none, false, []⟩] none [0, 1, 2, 3, 8]))))))
def slices_insertionSortCmpFunc_int__r : List RRes := []
def slices_insertionSortCmpFunc_int__hi : Hi := ⟨[], [(0, "data"), (1, "a"), (2, "b"), (3, "cmp"), (4, "data"), (5, "a"), (6, "b"), (7, "cmp"), (8, "i"), (9, "j")]⟩
def slices_insertionSortCmpFunc_int__an : An := (.seq .d (.loop [3, 0] [] [] (.seq .d (.seq (.seq .d (.loop [3, 0] [] [] .d)) .d))))
def slices_insertionSortCmpFunc_int__fi : Fi := ⟨53, slices_insertionSortCmpFunc_int__c, slices_insertionSortCmpFunc_int__r, slices_insertionSortCmpFunc_int__an, slices_insertionSortCmpFunc_int__hi, none⟩
theorem slices_insertionSortCmpFunc_int__ok : FiOk Try.prog f_slices_insertionSortCmpFunc_int_ slices_insertionSortCmpFunc_int__fi :=
  ⟨fun _ => by kernel_rfl, fun _ h hlen => fun_sound (by kernel_rfl) (fn := Try.f41) (draw_sound _ _) Try.func41 rfl (by kernel_rfl : comp Try.prog 53 _ slices_insertionSortCmpFunc_int__c = some slices_insertionSortCmpFunc_int__c) (by kernel_rfl : cRes Try.prog Try.f41.results.toList = some slices_insertionSortCmpFunc_int__r) hlen h, fun _ h => nomatch h⟩

/-- slices.symMergeCmpFunc[int]: slots [0 data, 1 a, 2 m, 3 b, 4 cmp, 5 data, 6 a, 7 m, 8 b, 9 cmp, 10 i, 11 j, 12 h, 13 k, 14 i, 15 j, 16 h, 17 k, 18 mid, 19 n, 20 start, 21 r, 22 p, 23 c, 24 end] -/
def slices_symMergeCmpFunc_int__c : SCode :=
  (.seq (.seq (.ops [⟨(some 25), .mov (.t 2), none, false, []⟩,
    ⟨(some 26), .mov (.t 1), none, false, []⟩,
    ⟨(some 27), .bin .none .sub (.t 25) (.t 26), none, false, []⟩,
    ⟨(some 28), .bin .none .eql (.t 27) (.c (.int .i64 1)), none, false, []⟩] none [0, 1, 2, 3, 4, 28])
  (.cond (.t 28)
    (.seq (.ops [⟨(some 29), .mov (.t 2), none, false, []⟩,
      ⟨(some 10), .mov (.t 29), none, false, []⟩] none [0, 1, 3, 4, 10])
    (.seq (.ops [⟨(some 30), .mov (.t 3), none, false, []⟩,
      ⟨(some 11), .mov (.t 30), none, false, []⟩] none [0, 1, 4, 10, 11])
    (.seq (.block 0 (.loop [0, 1, 4] [10, 11] 0
      (.seq (.seq (.ops [⟨(some 31), .mov (.t 10), none, false, []⟩,
        ⟨(some 32), .mov (.t 11), none, false, []⟩,
        ⟨(some 33), .bin .none .lss (.t 31) (.t 32), none, false, []⟩] none [0, 1, 4, 10, 11, 33])
      (.cond (.t 33)
        .skip
        (.exit 0)))
      (.block 1 (.seq (.ops [⟨(some 34), .mov (.t 10), none, false, []⟩,
        ⟨(some 35), .mov (.t 11), none, false, []⟩,
        ⟨(some 36), .bin .none .add (.t 34) (.t 35), none, false, []⟩,
        ⟨(some 37), .conv .u64 (.t 36), none, false, []⟩,
        ⟨(some 38), .bin .none .shr (.t 37) (.c (.int .u64 1)), none, false, []⟩,
        ⟨(some 39), .conv .i64 (.t 38), none, false, []⟩,
        ⟨(some 12), .mov (.t 39), none, false, []⟩] none [0, 1, 4, 10, 11, 12])
      (.seq (.ops [⟨(some 40), .mov (.t 4), none, false, []⟩,
        ⟨(some 41), .mov (.t 0), none, false, []⟩,
        ⟨(some 42), .mov (.t 12), none, false, []⟩,
        ⟨(some 43), .iaddr 1 none (.t 41) (.t 42), none, false, []⟩,
        ⟨(some 44), .load 1 false (.t 43), none, false, []⟩,
        ⟨(some 45), .mov (.t 0), none, false, []⟩,
        ⟨(some 46), .mov (.t 1), none, false, []⟩,
        ⟨(some 47), .iaddr 1 none (.t 45) (.t 46), none, false, []⟩,
        ⟨(some 48), .load 1 false (.t 47), none, false, []⟩,
        ⟨(some 49), .callv (.t 40) [(.t 44), (.t 48)], none, false, []⟩,
        ⟨(some 50), .bin .none .lss (.t 49) (.c (.int .i64 0)), none, false, []⟩] (some (0, 0, [0, 1, 2, 3, 4, 5, 6, 7, 8, 9, 10])) [0, 1, 4, 10, 11, 12, 50])
      (.cond (.t 50)
        (.ops [⟨(some 51), .mov (.t 12), none, false, []⟩,
          ⟨(some 52), .bin .none .add (.t 51) (.c (.int .i64 1)), none, false, []⟩,
          ⟨(some 10), .mov (.t 52), none, false, []⟩] none [0, 1, 4, 10, 11])
        (.ops [⟨(some 53), .mov (.t 12), none, false, []⟩,
          ⟨(some 11), .mov (.t 53), none, false, []⟩] none [0, 1, 4, 10, 11]))))))))
    (.seq (.seq (.ops [⟨(some 54), .mov (.t 1), none, false, []⟩,
      ⟨(some 13), .mov (.t 54), none, false, []⟩] none [0, 10, 13])
    (.block 2 (.loop [0, 10] [13] 0
      (.seq (.seq (.ops [⟨(some 55), .mov (.t 13), none, false, []⟩,
        ⟨(some 56), .mov (.t 10), none, false, []⟩,
        ⟨(some 57), .bin .none .sub (.t 56) (.c (.int .i64 1)), none, false, []⟩,
        ⟨(some 58), .bin .none .lss (.t 55) (.t 57), none, false, []⟩] none [0, 10, 13, 58])
      (.cond (.t 58)
        .skip
        (.exit 2)))
      (.seq (.block 3 (.ops [⟨(some 61), .mov (.t 0), none, false, []⟩,
        ⟨(some 62), .mov (.t 13), none, false, []⟩,
        ⟨(some 63), .mov (.t 0), none, false, []⟩,
        ⟨(some 64), .mov (.t 13), none, false, []⟩,
        ⟨(some 65), .bin .none .add (.t 64) (.c (.int .i64 1)), none, false, []⟩,
        ⟨(some 66), .mov (.t 0), none, false, []⟩,
        ⟨(some 67), .mov (.t 13), none, false, []⟩,
        ⟨(some 68), .bin .none .add (.t 67) (.c (.int .i64 1)), none, false, []⟩,
        ⟨(some 69), .iaddr 1 none (.t 66) (.t 68), none, false, []⟩,
        ⟨(some 70), .load 1 false (.t 69), none, false, []⟩,
        ⟨(some 71), .mov (.t 0), none, false, []⟩,
        ⟨(some 72), .mov (.t 13), none, false, []⟩,
        ⟨(some 73), .iaddr 1 none (.t 71) (.t 72), none, false, []⟩,
        ⟨(some 74), .load 1 false (.t 73), none, false, []⟩,
        ⟨(some 75), .iaddr 1 none (.t 61) (.t 62), none, false, []⟩,
        ⟨none, .store 1 (.t 75) (.t 70), none, false, []⟩,
        ⟨(some 76), .iaddr 1 none (.t 63) (.t 65), none, false, []⟩,
        ⟨none, .store 1 (.t 76) (.t 74), none, false, []⟩] (some (0, 0, [0, 1, 2, 3, 4, 5, 6, 7, 8, 9, 10, 11, 12, 13, 14, 15, 16, 17])) [0, 10, 13]))
      (.ops [⟨(some 59), .mov (.t 13), none, false, []⟩,
        ⟨(some 60), .bin .none .add (.t 59) (.c (.int .i64 1)), none, false, []⟩,
        ⟨(some 13), .mov (.t 60), none, false, []⟩] none [0, 10, 13]))))))
    .ret))))
    .skip))
  (.seq (.seq (.ops [⟨(some 77), .mov (.t 3), none, false, []⟩,
    ⟨(some 78), .mov (.t 2), none, false, []⟩,
    ⟨(some 79), .bin .none .sub (.t 77) (.t 78), none, false, []⟩,
    ⟨(some 80), .bin .none .eql (.t 79) (.c (.int .i64 1)), none, false, []⟩] none [0, 1, 2, 3, 4, 80])
  (.cond (.t 80)
    (.seq (.ops [⟨(some 81), .mov (.t 1), none, false, []⟩,
      ⟨(some 14), .mov (.t 81), none, false, []⟩] none [0, 2, 4, 14])
    (.seq (.ops [⟨(some 82), .mov (.t 2), none, false, []⟩,
      ⟨(some 15), .mov (.t 82), none, false, []⟩] none [0, 2, 4, 14, 15])
    (.seq (.block 4 (.loop [0, 2, 4] [14, 15] 0
      (.seq (.seq (.ops [⟨(some 83), .mov (.t 14), none, false, []⟩,
        ⟨(some 84), .mov (.t 15), none, false, []⟩,
        ⟨(some 85), .bin .none .lss (.t 83) (.t 84), none, false, []⟩] none [0, 2, 4, 14, 15, 85])
      (.cond (.t 85)
        .skip
        (.exit 4)))
      (.block 5 (.seq (.ops [⟨(some 86), .mov (.t 14), none, false, []⟩,
        ⟨(some 87), .mov (.t 15), none, false, []⟩,
        ⟨(some 88), .bin .none .add (.t 86) (.t 87), none, false, []⟩,
        ⟨(some 89), .conv .u64 (.t 88), none, false, []⟩,
        ⟨(some 90), .bin .none .shr (.t 89) (.c (.int .u64 1)), none, false, []⟩,
        ⟨(some 91), .conv .i64 (.t 90), none, false, []⟩,
        ⟨(some 16), .mov (.t 91), none, false, []⟩] none [0, 2, 4, 14, 15, 16])
      (.seq (.ops [⟨(some 92), .mov (.t 4), none, false, []⟩,
        ⟨(some 93), .mov (.t 0), none, false, []⟩,
        ⟨(some 94), .mov (.t 2), none, false, []⟩,
        ⟨(some 95), .iaddr 1 none (.t 93) (.t 94), none, false, []⟩,
        ⟨(some 96), .load 1 false (.t 95), none, false, []⟩,
        ⟨(some 97), .mov (.t 0), none, false, []⟩,
        ⟨(some 98), .mov (.t 16), none, false, []⟩,
        ⟨(some 99), .iaddr 1 none (.t 97) (.t 98), none, false, []⟩,
        ⟨(some 100), .load 1 false (.t 99), none, false, []⟩,
        ⟨(some 101), .callv (.t 92) [(.t 96), (.t 100)], none, false, []⟩,
        ⟨(some 102), .bin .none .lss (.t 101) (.c (.int .i64 0)), none, false, []⟩,
        ⟨(some 103), .not (.t 102), none, false, []⟩] (some (0, 0, [0, 1, 2, 3, 4, 5, 6, 7, 8, 9, 10, 11])) [0, 2, 4, 14, 15, 16, 103])
      (.cond (.t 103)
        (.ops [⟨(some 104), .mov (.t 16), none, false, []⟩,
          ⟨(some 105), .bin .none .add (.t 104) (.c (.int .i64 1)), none, false, []⟩,
          ⟨(some 14), .mov (.t 105), none, false, []⟩] none [0, 2, 4, 14, 15])
        (.ops [⟨(some 106), .mov (.t 16), none, false, []⟩,
          ⟨(some 15), .mov (.t 106), none, false, []⟩] none [0, 2, 4, 14, 15]))))))))
    (.seq (.seq (.ops [⟨(some 107), .mov (.t 2), none, false, []⟩,
      ⟨(some 17), .mov (.t 107), none, false, []⟩] none [0, 14, 17])
    (.block 6 (.loop [0, 14] [17] 0
      (.seq (.seq (.ops [⟨(some 108), .mov (.t 17), none, false, []⟩,
        ⟨(some 109), .mov (.t 14), none, false, []⟩,
        ⟨(some 110), .bin .none .gtr (.t 108) (.t 109), none, false, []⟩] none [0, 14, 17, 110])
      (.cond (.t 110)
        .skip
        (.exit 6)))
      (.seq (.block 7 (.ops [⟨(some 113), .mov (.t 0), none, false, []⟩,
        ⟨(some 114), .mov (.t 17), none, false, []⟩,
        ⟨(some 115), .mov (.t 0), none, false, []⟩,
        ⟨(some 116), .mov (.t 17), none, false, []⟩,
        ⟨(some 117), .bin .none .sub (.t 116) (.c (.int .i64 1)), none, false, []⟩,
        ⟨(some 118), .mov (.t 0), none, false, []⟩,
        ⟨(some 119), .mov (.t 17), none, false, []⟩,
        ⟨(some 120), .bin .none .sub (.t 119) (.c (.int .i64 1)), none, false, []⟩,
        ⟨(some 121), .iaddr 1 none (.t 118) (.t 120), none, false, []⟩,
        ⟨(some 122), .load 1 false (.t 121), none, false, []⟩,
        ⟨(some 123), .mov (.t 0), none, false, []⟩,
        ⟨(some 124), .mov (.t 17), none, false, []⟩,
        ⟨(some 125), .iaddr 1 none (.t 123) (.t 124), none, false, []⟩,
        ⟨(some 126), .load 1 false (.t 125), none, false, []⟩,
        ⟨(some 127), .iaddr 1 none (.t 113) (.t 114), none, false, []⟩,
        ⟨none, .store 1 (.t 127) (.t 122), none, false, []⟩,
        ⟨(some 128), .iaddr 1 none (.t 115) (.t 117), none, false, []⟩,
        ⟨none, .store 1 (.t 128) (.t 126), none, false, []⟩] (some (0, 0, [0, 1, 2, 3, 4, 5, 6, 7, 8, 9, 10, 11, 12, 13, 14, 15, 16, 17])) [0, 14, 17]))
      (.ops [⟨(some 111), .mov (.t 17), none, false, []⟩,
        ⟨(some 112), .bin .none .sub (.t 111) (.c (.int .i64 1)), none, false, []⟩,
        ⟨(some 17), .mov (.t 112), none, false, []⟩] none [0, 14, 17]))))))
    .ret))))
    .skip))
  (.seq (.ops [⟨(some 129), .mov (.t 1), none, false, []⟩,
    ⟨(some 130), .mov (.t 3), none, false, []⟩,
    ⟨(some 131), .bin .none .add (.t 129) (.t 130), none, false, []⟩,
    ⟨(some 132), .conv .u64 (.t 131), none, false, []⟩,
    ⟨(some 133), .bin .none .shr (.t 132) (.c (.int .u64 1)), none, false, []⟩,
    ⟨(some 134), .conv .i64 (.t 133), none, false, []⟩,
    ⟨(some 18), .mov (.t 134), none, false, []⟩] none [0, 1, 2, 3, 4, 18])
  (.seq (.ops [⟨(some 135), .mov (.t 18), none, false, []⟩,
    ⟨(some 136), .mov (.t 2), none, false, []⟩,
    ⟨(some 137), .bin .none .add (.t 135) (.t 136), none, false, []⟩,
    ⟨(some 19), .mov (.t 137), none, false, []⟩] none [0, 1, 2, 3, 4, 18, 19])
  (.seq (.ops [⟨(some 20), .mov (.c (.int .i64 0)), none, false, []⟩,
    ⟨(some 21), .mov (.c (.int .i64 0)), none, false, []⟩] none [0, 1, 2, 3, 4, 18, 19])
  (.join [0, 1, 2, 3, 4, 18, 19] [20, 21] 0 (.seq (.ops [⟨(some 138), .mov (.t 2), none, false, []⟩,
      ⟨(some 139), .mov (.t 18), none, false, []⟩,
      ⟨(some 140), .bin .none .gtr (.t 138) (.t 139), none, false, []⟩] none [0, 1, 2, 3, 4, 18, 19, 140])
    (.cond (.t 140)
      (.seq (.ops [⟨(some 141), .mov (.t 19), none, false, []⟩,
        ⟨(some 142), .mov (.t 3), none, false, []⟩,
        ⟨(some 143), .bin .none .sub (.t 141) (.t 142), none, false, []⟩,
        ⟨(some 20), .mov (.t 143), none, false, []⟩] none [0, 1, 2, 3, 4, 18, 19, 20])
      (.ops [⟨(some 144), .mov (.t 18), none, false, []⟩,
        ⟨(some 21), .mov (.t 144), none, false, []⟩] none [0, 1, 2, 3, 4, 18, 19, 20, 21]))
      (.seq (.ops [⟨(some 145), .mov (.t 1), none, false, []⟩,
        ⟨(some 20), .mov (.t 145), none, false, []⟩] none [0, 1, 2, 3, 4, 18, 19, 20])
      (.ops [⟨(some 146), .mov (.t 2), none, false, []⟩,
        ⟨(some 21), .mov (.t 146), none, false, []⟩] none [0, 1, 2, 3, 4, 18, 19, 20, 21]))))
  (.seq (.ops [⟨(some 147), .mov (.t 19), none, false, []⟩,
    ⟨(some 148), .bin .none .sub (.t 147) (.c (.int .i64 1)), none, false, []⟩,
    ⟨(some 22), .mov (.t 148), none, false, []⟩] none [0, 1, 2, 3, 4, 18, 19, 20, 21, 22])
  (.seq (.block 8 (.loop [0, 1, 2, 3, 4, 18, 19, 22] [20, 21] 0
    (.seq (.seq (.ops [⟨(some 149), .mov (.t 20), none, false, []⟩,
      ⟨(some 150), .mov (.t 21), none, false, []⟩,
      ⟨(some 151), .bin .none .lss (.t 149) (.t 150), none, false, []⟩] none [0, 1, 2, 3, 4, 18, 19, 20, 21, 22, 151])
    (.cond (.t 151)
      .skip
      (.exit 8)))
    (.block 9 (.seq (.ops [⟨(some 152), .mov (.t 20), none, false, []⟩,
      ⟨(some 153), .mov (.t 21), none, false, []⟩,
      ⟨(some 154), .bin .none .add (.t 152) (.t 153), none, false, []⟩,
      ⟨(some 155), .conv .u64 (.t 154), none, false, []⟩,
      ⟨(some 156), .bin .none .shr (.t 155) (.c (.int .u64 1)), none, false, []⟩,
      ⟨(some 157), .conv .i64 (.t 156), none, false, []⟩,
      ⟨(some 23), .mov (.t 157), none, false, []⟩] none [0, 1, 2, 3, 4, 18, 19, 20, 21, 22, 23])
    (.seq (.ops [⟨(some 158), .mov (.t 4), none, false, []⟩,
      ⟨(some 159), .mov (.t 0), none, false, []⟩,
      ⟨(some 160), .mov (.t 22), none, false, []⟩,
      ⟨(some 161), .mov (.t 23), none, false, []⟩,
      ⟨(some 162), .bin .none .sub (.t 160) (.t 161), none, false, []⟩,
      ⟨(some 163), .iaddr 1 none (.t 159) (.t 162), none, false, []⟩,
      ⟨(some 164), .load 1 false (.t 163), none, false, []⟩,
      ⟨(some 165), .mov (.t 0), none, false, []⟩,
      ⟨(some 166), .mov (.t 23), none, false, []⟩,
      ⟨(some 167), .iaddr 1 none (.t 165) (.t 166), none, false, []⟩,
      ⟨(some 168), .load 1 false (.t 167), none, false, []⟩,
      ⟨(some 169), .callv (.t 158) [(.t 164), (.t 168)], none, false, []⟩,
      ⟨(some 170), .bin .none .lss (.t 169) (.c (.int .i64 0)), none, false, []⟩,
      ⟨(some 171), .not (.t 170), none, false, []⟩] (some (0, 0, [0, 1, 2, 3, 4, 5, 6, 7, 8, 9, 10, 11, 12, 13])) [0, 1, 2, 3, 4, 18, 19, 20, 21, 22, 23, 171])
    (.cond (.t 171)
      (.ops [⟨(some 172), .mov (.t 23), none, false, []⟩,
        ⟨(some 173), .bin .none .add (.t 172) (.c (.int .i64 1)), none, false, []⟩,
        ⟨(some 20), .mov (.t 173), none, false, []⟩] none [0, 1, 2, 3, 4, 18, 19, 20, 21, 22])
      (.ops [⟨(some 174), .mov (.t 23), none, false, []⟩,
        ⟨(some 21), .mov (.t 174), none, false, []⟩] none [0, 1, 2, 3, 4, 18, 19, 20, 21, 22]))))))))
  (.seq (.ops [⟨(some 175), .mov (.t 19), none, false, []⟩,
    ⟨(some 176), .mov (.t 20), none, false, []⟩,
    ⟨(some 177), .bin .none .sub (.t 175) (.t 176), none, false, []⟩,
    ⟨(some 24), .mov (.t 177), none, false, []⟩] none [0, 1, 2, 3, 4, 18, 20, 24])
  (.join [0, 1, 3, 4, 18, 20, 24] [] 0 (.seq (.ops [⟨(some 178), .mov (.t 20), none, false, []⟩,
      ⟨(some 179), .mov (.t 2), none, false, []⟩,
      ⟨(some 180), .bin .none .lss (.t 178) (.t 179), none, false, []⟩,
      ⟨(some 181), .mov (.t 180), none, true, []⟩,
      ⟨(some 182), .mov (.t 2), (some (181, true)), false, []⟩,
      ⟨(some 183), .mov (.t 24), (some (181, true)), false, []⟩,
      ⟨(some 184), .bin .none .lss (.t 182) (.t 183), (some (181, true)), false, []⟩,
      ⟨(some 185), .pick (.t 181) (.t 184) (.c (.bool false)), none, false, []⟩] none [0, 1, 2, 3, 4, 18, 20, 24, 185])
    (.cond (.t 185)
      (.ops [⟨(some 186), .mov (.t 0), none, false, []⟩,
        ⟨(some 187), .mov (.t 20), none, false, []⟩,
        ⟨(some 188), .mov (.t 2), none, false, []⟩,
        ⟨(some 189), .mov (.t 24), none, false, []⟩,
        ⟨(some 190), .mov (.t 4), none, false, []⟩,
        ⟨(some 191), .call f_slices_rotateCmpFunc_int_ [(.t 186), (.t 187), (.t 188), (.t 189), (.t 190)], none, false, []⟩] none [0, 1, 3, 4, 18, 20, 24])
      .skip))
  (.join [0, 3, 4, 18, 24] [] 0 (.seq (.ops [⟨(some 192), .mov (.t 1), none, false, []⟩,
      ⟨(some 193), .mov (.t 20), none, false, []⟩,
      ⟨(some 194), .bin .none .lss (.t 192) (.t 193), none, false, []⟩,
      ⟨(some 195), .mov (.t 194), none, true, []⟩,
      ⟨(some 196), .mov (.t 20), (some (195, true)), false, []⟩,
      ⟨(some 197), .mov (.t 18), (some (195, true)), false, []⟩,
      ⟨(some 198), .bin .none .lss (.t 196) (.t 197), (some (195, true)), false, []⟩,
      ⟨(some 199), .pick (.t 195) (.t 198) (.c (.bool false)), none, false, []⟩] none [0, 1, 3, 4, 18, 20, 24, 199])
    (.cond (.t 199)
      (.ops [⟨(some 200), .mov (.t 0), none, false, []⟩,
        ⟨(some 201), .mov (.t 1), none, false, []⟩,
        ⟨(some 202), .mov (.t 20), none, false, []⟩,
        ⟨(some 203), .mov (.t 18), none, false, []⟩,
        ⟨(some 204), .mov (.t 4), none, false, []⟩,
        ⟨(some 205), .call f_slices_symMergeCmpFunc_int_ [(.t 200), (.t 201), (.t 202), (.t 203), (.t 204)], none, false, []⟩] none [0, 3, 4, 18, 24])
      .skip))
  (.seq (.ops [⟨(some 206), .mov (.t 18), none, false, []⟩,
    ⟨(some 207), .mov (.t 24), none, false, []⟩,
    ⟨(some 208), .bin .none .lss (.t 206) (.t 207), none, false, []⟩,
    ⟨(some 209), .mov (.t 208), none, true, []⟩,
    ⟨(some 210), .mov (.t 24), (some (209, true)), false, []⟩,
    ⟨(some 211), .mov (.t 3), (some (209, true)), false, []⟩,
    ⟨(some 212), .bin .none .lss (.t 210) (.t 211), (some (209, true)), false, []⟩,
    ⟨(some 213), .pick (.t 209) (.t 212) (.c (.bool false)), none, false, []⟩] none [0, 3, 4, 18, 24, 213])
  (.cond (.t 213)
    (.ops [⟨(some 214), .mov (.t 0), none, false, []⟩,
      ⟨(some 215), .mov (.t 18), none, false, []⟩,
      ⟨(some 216), .mov (.t 24), none, false, []⟩,
      ⟨(some 217), .mov (.t 3), none, false, []⟩,
      ⟨(some 218), .mov (.t 4), none, false, []⟩,
      ⟨(some 219), .call f_slices_symMergeCmpFunc_int_ [(.t 214), (.t 215), (.t 216), (.t 217), (.t 218)], none, false, []⟩] none [])
    .skip)))))))))))))
def slices_symMergeCmpFunc_int__r : List RRes := []
def slices_symMergeCmpFunc_int__hi : Hi := ⟨[], [(0, "data"), (1, "a"), (2, "m"), (3, "b"), (4, "cmp"), (5, "data"), (6, "a"), (7, "m"), (8, "b"), (9, "cmp"), (10, "i"), (11, "j"), (12, "h"), (13, "k"), (14, "i"), (15, "j"), (16, "h"), (17, "k"), (18, "mid"), (19, "n"), (20, "start"), (21, "r"), (22, "p"), (23, "c"), (24, "end")]⟩
def slices_symMergeCmpFunc_int__an : An := (.seq (.seq .d (.seq (.seq .d (.seq .d (.seq (.loop [4] [] [] .d) (.seq (.seq .d (.loop [0] [] [] .d)) .d)))) .d)) (.seq (.seq .d (.seq (.seq .d (.seq .d (.seq (.loop [4] [] [] .d) (.seq (.seq .d (.loop [0] [] [] .d)) .d)))) .d)) (.seq .d (.seq .d (.seq .d (.seq .d (.seq .d (.seq (.loop [4] [] [] .d) .d))))))))
def slices_symMergeCmpFunc_int__fi : Fi := ⟨220, slices_symMergeCmpFunc_int__c, slices_symMergeCmpFunc_int__r, slices_symMergeCmpFunc_int__an, slices_symMergeCmpFunc_int__hi, none⟩
theorem slices_symMergeCmpFunc_int__ok : FiOk Try.prog f_slices_symMergeCmpFunc_int_ slices_symMergeCmpFunc_int__fi :=
  ⟨fun _ => by kernel_rfl, fun _ h hlen => fun_sound (by kernel_rfl) (fn := Try.f42) (draw_sound _ _) Try.func42 rfl (by kernel_rfl : comp Try.prog 220 _ slices_symMergeCmpFunc_int__c = some slices_symMergeCmpFunc_int__c) (by kernel_rfl : cRes Try.prog Try.f42.results.toList = some slices_symMergeCmpFunc_int__r) hlen h, fun _ h => nomatch h⟩

/-- slices.rotateCmpFunc[int]: slots [0 data, 1 a, 2 m, 3 b, 4 cmp, 5 data, 6 a, 7 m, 8 b, 9 cmp, 10 i, 11 j] -/
def slices_rotateCmpFunc_int__c : SCode :=
  (.seq (.ops [⟨(some 12), .mov (.t 2), none, false, []⟩,
    ⟨(some 13), .mov (.t 1), none, false, []⟩,
    ⟨(some 14), .bin .none .sub (.t 12) (.t 13), none, false, []⟩,
    ⟨(some 10), .mov (.t 14), none, false, []⟩] none [0, 2, 3, 4, 10])
  (.seq (.ops [⟨(some 15), .mov (.t 3), none, false, []⟩,
    ⟨(some 16), .mov (.t 2), none, false, []⟩,
    ⟨(some 17), .bin .none .sub (.t 15) (.t 16), none, false, []⟩,
    ⟨(some 11), .mov (.t 17), none, false, []⟩] none [0, 2, 4, 10, 11])
  (.seq (.block 0 (.loop [0, 2, 4] [10, 11] 0
    (.seq (.seq (.ops [⟨(some 18), .mov (.t 10), none, false, []⟩,
      ⟨(some 19), .mov (.t 11), none, false, []⟩,
      ⟨(some 20), .bin .none .neq (.t 18) (.t 19), none, false, []⟩] none [0, 2, 4, 10, 11, 20])
    (.cond (.t 20)
      .skip
      (.exit 0)))
    (.block 1 (.seq (.ops [⟨(some 21), .mov (.t 10), none, false, []⟩,
      ⟨(some 22), .mov (.t 11), none, false, []⟩,
      ⟨(some 23), .bin .none .gtr (.t 21) (.t 22), none, false, []⟩] none [0, 2, 4, 10, 11, 23])
    (.cond (.t 23)
      (.seq (.ops [⟨(some 24), .mov (.t 0), none, false, []⟩,
        ⟨(some 25), .mov (.t 2), none, false, []⟩,
        ⟨(some 26), .mov (.t 10), none, false, []⟩,
        ⟨(some 27), .bin .none .sub (.t 25) (.t 26), none, false, []⟩,
        ⟨(some 28), .mov (.t 2), none, false, []⟩,
        ⟨(some 29), .mov (.t 11), none, false, []⟩,
        ⟨(some 30), .mov (.t 4), none, false, []⟩,
        ⟨(some 31), .call f_slices_swapRangeCmpFunc_int_ [(.t 24), (.t 27), (.t 28), (.t 29), (.t 30)], none, false, []⟩] none [0, 2, 4, 10, 11])
      (.ops [⟨(some 32), .mov (.t 10), none, false, []⟩,
        ⟨(some 33), .mov (.t 11), none, false, []⟩,
        ⟨(some 34), .bin .none .sub (.t 32) (.t 33), none, false, []⟩,
        ⟨(some 10), .mov (.t 34), none, false, []⟩] none [0, 2, 4, 10, 11]))
      (.seq (.ops [⟨(some 35), .mov (.t 0), none, false, []⟩,
        ⟨(some 36), .mov (.t 2), none, false, []⟩,
        ⟨(some 37), .mov (.t 10), none, false, []⟩,
        ⟨(some 38), .bin .none .sub (.t 36) (.t 37), none, false, []⟩,
        ⟨(some 39), .mov (.t 2), none, false, []⟩,
        ⟨(some 40), .mov (.t 11), none, false, []⟩,
        ⟨(some 41), .bin .none .add (.t 39) (.t 40), none, false, []⟩,
        ⟨(some 42), .mov (.t 10), none, false, []⟩,
        ⟨(some 43), .bin .none .sub (.t 41) (.t 42), none, false, []⟩,
        ⟨(some 44), .mov (.t 10), none, false, []⟩,
        ⟨(some 45), .mov (.t 4), none, false, []⟩,
        ⟨(some 46), .call f_slices_swapRangeCmpFunc_int_ [(.t 35), (.t 38), (.t 43), (.t 44), (.t 45)], none, false, []⟩] none [0, 2, 4, 10, 11])
      (.ops [⟨(some 47), .mov (.t 11), none, false, []⟩,
        ⟨(some 48), .mov (.t 10), none, false, []⟩,
        ⟨(some 49), .bin .none .sub (.t 47) (.t 48), none, false, []⟩,
        ⟨(some 11), .mov (.t 49), none, false, []⟩] none [0, 2, 4, 10, 11]))))))))
  (.ops [⟨(some 50), .mov (.t 0), none, false, []⟩,
    ⟨(some 51), .mov (.t 2), none, false, []⟩,
    ⟨(some 52), .mov (.t 10), none, false, []⟩,
    ⟨(some 53), .bin .none .sub (.t 51) (.t 52), none, false, []⟩,
    ⟨(some 54), .mov (.t 2), none, false, []⟩,
    ⟨(some 55), .mov (.t 10), none, false, []⟩,
    ⟨(some 56), .mov (.t 4), none, false, []⟩,
    ⟨(some 57), .call f_slices_swapRangeCmpFunc_int_ [(.t 50), (.t 53), (.t 54), (.t 55), (.t 56)], none, false, []⟩] none []))))
def slices_rotateCmpFunc_int__r : List RRes := []
def slices_rotateCmpFunc_int__hi : Hi := ⟨[], [(0, "data"), (1, "a"), (2, "m"), (3, "b"), (4, "cmp"), (5, "data"), (6, "a"), (7, "m"), (8, "b"), (9, "cmp"), (10, "i"), (11, "j")]⟩
def slices_rotateCmpFunc_int__an : An := (.seq .d (.seq .d (.seq (.loop [0, 4] [] [] .d) .d)))
def slices_rotateCmpFunc_int__fi : Fi := ⟨58, slices_rotateCmpFunc_int__c, slices_rotateCmpFunc_int__r, slices_rotateCmpFunc_int__an, slices_rotateCmpFunc_int__hi, none⟩
theorem slices_rotateCmpFunc_int__ok : FiOk Try.prog f_slices_rotateCmpFunc_int_ slices_rotateCmpFunc_int__fi :=
  ⟨fun _ => by kernel_rfl, fun _ h hlen => fun_sound (by kernel_rfl) (fn := Try.f47) (draw_sound _ _) Try.func47 rfl (by kernel_rfl : comp Try.prog 58 _ slices_rotateCmpFunc_int__c = some slices_rotateCmpFunc_int__c) (by kernel_rfl : cRes Try.prog Try.f47.results.toList = some slices_rotateCmpFunc_int__r) hlen h, fun _ h => nomatch h⟩

/-- slices.swapRangeCmpFunc[int]: slots [0 data, 1 a, 2 b, 3 n, 4 cmp, 5 data, 6 a, 7 b, 8 n, 9 cmp, 10 i] -/
def slices_swapRangeCmpFunc_int__c : SCode :=
  (.seq (.ops [⟨(some 10), .mov (.c (.int .i64 0)), none, false, []⟩] none [0, 1, 2, 3, 10])
  (.block 0 (.loop [0, 1, 2, 3] [10] 0
    (.seq (.seq (.ops [⟨(some 11), .mov (.t 10), none, false, []⟩,
      ⟨(some 12), .mov (.t 3), none, false, []⟩,
      ⟨(some 13), .bin .none .lss (.t 11) (.t 12), none, false, []⟩] none [0, 1, 2, 3, 10, 13])
    (.cond (.t 13)
      .skip
      (.exit 0)))
    (.seq (.block 1 (.ops [⟨(some 16), .mov (.t 0), none, false, []⟩,
      ⟨(some 17), .mov (.t 1), none, false, []⟩,
      ⟨(some 18), .mov (.t 10), none, false, []⟩,
      ⟨(some 19), .bin .none .add (.t 17) (.t 18), none, false, []⟩,
      ⟨(some 20), .mov (.t 0), none, false, []⟩,
      ⟨(some 21), .mov (.t 2), none, false, []⟩,
      ⟨(some 22), .mov (.t 10), none, false, []⟩,
      ⟨(some 23), .bin .none .add (.t 21) (.t 22), none, false, []⟩,
      ⟨(some 24), .mov (.t 0), none, false, []⟩,
      ⟨(some 25), .mov (.t 2), none, false, []⟩,
      ⟨(some 26), .mov (.t 10), none, false, []⟩,
      ⟨(some 27), .bin .none .add (.t 25) (.t 26), none, false, []⟩,
      ⟨(some 28), .iaddr 1 none (.t 24) (.t 27), none, false, []⟩,
      ⟨(some 29), .load 1 false (.t 28), none, false, []⟩,
      ⟨(some 30), .mov (.t 0), none, false, []⟩,
      ⟨(some 31), .mov (.t 1), none, false, []⟩,
      ⟨(some 32), .mov (.t 10), none, false, []⟩,
      ⟨(some 33), .bin .none .add (.t 31) (.t 32), none, false, []⟩,
      ⟨(some 34), .iaddr 1 none (.t 30) (.t 33), none, false, []⟩,
      ⟨(some 35), .load 1 false (.t 34), none, false, []⟩,
      ⟨(some 36), .iaddr 1 none (.t 16) (.t 19), none, false, []⟩,
      ⟨none, .store 1 (.t 36) (.t 29), none, false, []⟩,
      ⟨(some 37), .iaddr 1 none (.t 20) (.t 23), none, false, []⟩,
      ⟨none, .store 1 (.t 37) (.t 35), none, false, []⟩] (some (0, 0, [0, 1, 2, 3, 4, 5, 6, 7, 8, 9, 10, 11, 12, 13, 14, 15, 16, 17, 18, 19, 20, 21, 22, 23])) [0, 1, 2, 3, 10]))
    (.ops [⟨(some 14), .mov (.t 10), none, false, []⟩,
      ⟨(some 15), .bin .none .add (.t 14) (.c (.int .i64 1)), none, false, []⟩,
      ⟨(some 10), .mov (.t 15), none, false, []⟩] none [0, 1, 2, 3, 10]))))))
def slices_swapRangeCmpFunc_int__r : List RRes := []
def slices_swapRangeCmpFunc_int__hi : Hi := ⟨[], [(0, "data"), (1, "a"), (2, "b"), (3, "n"), (4, "cmp"), (5, "data"), (6, "a"), (7, "b"), (8, "n"), (9, "cmp"), (10, "i")]⟩
def slices_swapRangeCmpFunc_int__an : An := (.seq .d (.loop [0] [] [] .d))
def slices_swapRangeCmpFunc_int__fi : Fi := ⟨38, slices_swapRangeCmpFunc_int__c, slices_swapRangeCmpFunc_int__r, slices_swapRangeCmpFunc_int__an, slices_swapRangeCmpFunc_int__hi, none⟩
theorem slices_swapRangeCmpFunc_int__ok : FiOk Try.prog f_slices_swapRangeCmpFunc_int_ slices_swapRangeCmpFunc_int__fi :=
  ⟨fun _ => by kernel_rfl, fun _ h hlen => fun_sound (by kernel_rfl) (fn := Try.f66) (draw_sound _ _) Try.func66 rfl (by kernel_rfl : comp Try.prog 38 _ slices_swapRangeCmpFunc_int__c = some slices_swapRangeCmpFunc_int__c) (by kernel_rfl : cRes Try.prog Try.f66.results.toList = some slices_swapRangeCmpFunc_int__r) hlen h, fun _ h => nomatch h⟩

end Go.Proofs.Ytoiebdgnfjgcpaa.M
