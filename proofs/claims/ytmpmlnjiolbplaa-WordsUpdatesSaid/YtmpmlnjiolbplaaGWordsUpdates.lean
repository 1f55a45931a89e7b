/- The functions' simplified code, printed by a program of the claim's author; each is checked against the program's own code. Conditions: none. -/
import Derived.Test.YtmpmlnjiolbplaaProg
import Derived.Test.YtmpmlnjiolbplaaVyM
set_option linter.unusedVariables false
set_option maxRecDepth 100000
namespace Go.Proofs.Ytmpmlnjiolbplaa
open Go.Vc
abbrev f_gosem_cut_init : Nat := 2
abbrev f_law_WordsAlls : Nat := 3
abbrev f_law_WordsUpdates : Nat := 4
abbrev f_words_All : Nat := 5
abbrev f_ref_WordsAll : Nat := 6
abbrev f_ref_SameWords : Nat := 7
abbrev f_words_Update : Nat := 8
abbrev f_ref_WordsUpdate : Nat := 9
abbrev f_words_Of : Nat := 10
abbrev f__words_Table__List : Nat := 11
abbrev f_ref_wordAt : Nat := 12
abbrev f_sort_Slice : Nat := 13
abbrev f_ref_WordsAll_1 : Nat := 14
abbrev f_words_Update_1 : Nat := 15
abbrev f_slices_Equal___int_int_ : Nat := 16
abbrev f_slices_EqualFunc___api_Word___api_Word_api_Word_api_Word_ : Nat := 17
abbrev f_edit_Check : Nat := 18
abbrev f_words_Around : Nat := 19
abbrev f_edit_Made : Nat := 20
abbrev f_words_Each : Nat := 21
abbrev f_words_Update_2 : Nat := 22
abbrev f_slices_Sort___int_int_ : Nat := 23
abbrev f_ref_EditFault : Nat := 24
abbrev f_ref_editMade : Nat := 25
abbrev f_words_Of_1 : Nat := 26
abbrev f_slices_Sorted_string_ : Nat := 27
abbrev f_maps_Keys_words_Table_string___int_ : Nat := 28
abbrev f_slices_Clone___int_int_ : Nat := 29
abbrev f_ref_letter : Nat := 30
abbrev f_math_bits_Len : Nat := 34
abbrev f_sort_pdqsort_func : Nat := 35
abbrev f_words_part : Nat := 36
abbrev f_slices_pdqsortOrdered_int_ : Nat := 37
abbrev f_slices_Collect_string_ : Nat := 38
abbrev f_slices_Sort___string_string_ : Nat := 39
abbrev f_maps_Keys_words_Table_string___int__1 : Nat := 40
abbrev f_internal_reflectlite_Swapper_1 : Nat := 41
abbrev f_internal_reflectlite_Swapper_2 : Nat := 42
abbrev f_internal_reflectlite_Swapper_3 : Nat := 43
abbrev f_internal_reflectlite_Swapper_4 : Nat := 44
abbrev f_internal_reflectlite_Swapper_5 : Nat := 45
abbrev f_internal_reflectlite_Swapper_6 : Nat := 46
abbrev f_internal_reflectlite_Swapper_7 : Nat := 47
abbrev f_internal_reflectlite_Swapper_8 : Nat := 48
abbrev f_internal_reflectlite_Swapper_9 : Nat := 49
abbrev f_math_bits_Len32 : Nat := 50
abbrev f_math_bits_Len64 : Nat := 51
abbrev f_sort_insertionSort_func : Nat := 52
abbrev f_sort_heapSort_func : Nat := 53
abbrev f_sort_breakPatterns_func : Nat := 54
abbrev f_sort_choosePivot_func : Nat := 55
abbrev f_sort_reverseRange_func : Nat := 56
abbrev f_sort_partialInsertionSort_func : Nat := 57
abbrev f_sort_partitionEqual_func : Nat := 58
abbrev f_sort_partition_func : Nat := 59
abbrev f_slices_insertionSortOrdered_int_ : Nat := 60
abbrev f_slices_heapSortOrdered_int_ : Nat := 61
abbrev f_slices_breakPatternsOrdered_int_ : Nat := 62
abbrev f_slices_choosePivotOrdered_int_ : Nat := 63
abbrev f_slices_reverseRangeOrdered_int_ : Nat := 64
abbrev f_slices_partialInsertionSortOrdered_int_ : Nat := 65
abbrev f_cmp_Less_int_ : Nat := 66
abbrev f_slices_partitionEqualOrdered_int_ : Nat := 67
abbrev f_slices_partitionOrdered_int_ : Nat := 68
abbrev f_slices_AppendSeq___string_string_ : Nat := 69
abbrev f_slices_pdqsortOrdered_string_ : Nat := 70
abbrev f_sort_siftDown_func : Nat := 71
abbrev f_sort_nextPowerOfTwo : Nat := 72
abbrev f___sort_xorshift__Next : Nat := 73
abbrev f_sort_medianAdjacent_func : Nat := 74
abbrev f_sort_median_func : Nat := 75
abbrev f_slices_siftDownOrdered_int_ : Nat := 76
abbrev f_slices_nextPowerOfTwo : Nat := 77
abbrev f___slices_xorshift__Next : Nat := 78
abbrev f_slices_medianAdjacentOrdered_int_ : Nat := 79
abbrev f_slices_medianOrdered_int_ : Nat := 80
abbrev f_cmp_isNaN_int_ : Nat := 81
abbrev f_slices_insertionSortOrdered_string_ : Nat := 82
abbrev f_slices_heapSortOrdered_string_ : Nat := 83
abbrev f_slices_breakPatternsOrdered_string_ : Nat := 84
abbrev f_slices_choosePivotOrdered_string_ : Nat := 85
abbrev f_slices_reverseRangeOrdered_string_ : Nat := 86
abbrev f_slices_partialInsertionSortOrdered_string_ : Nat := 87
abbrev f_cmp_Less_string_ : Nat := 88
abbrev f_slices_partitionEqualOrdered_string_ : Nat := 89
abbrev f_slices_partitionOrdered_string_ : Nat := 90
abbrev f_sort_order2_func : Nat := 91
abbrev f_slices_order2Ordered_int_ : Nat := 92
abbrev f_slices_siftDownOrdered_string_ : Nat := 93
abbrev f_slices_medianAdjacentOrdered_string_ : Nat := 94
abbrev f_slices_medianOrdered_string_ : Nat := 95
abbrev f_cmp_isNaN_string_ : Nat := 96
abbrev f_slices_order2Ordered_string_ : Nat := 97

/-- fustian/words.part: slots [0 c, 1 c] -/
def words_part_c : SCode :=
  (.seq (.ops [⟨(some 2), .mov (.c (.bool false)), none, false, []⟩] none [0])
  (.seq (.ops [⟨(some 3), .mov (.t 0), none, false, []⟩,
    ⟨(some 4), .bin .none .geq (.t 3) (.c (.int .u8 97)), none, false, []⟩,
    ⟨(some 5), .mov (.t 4), none, true, []⟩,
    ⟨(some 6), .mov (.t 0), (some (5, true)), false, []⟩,
    ⟨(some 7), .bin .none .leq (.t 6) (.c (.int .u8 122)), (some (5, true)), false, []⟩,
    ⟨(some 8), .pick (.t 5) (.t 7) (.c (.bool false)), none, false, []⟩,
    ⟨(some 9), .mov (.t 8), none, true, []⟩,
    ⟨(some 10), .mov (.t 0), (some (9, false)), false, []⟩,
    ⟨(some 11), .bin .none .geq (.t 10) (.c (.int .u8 65)), (some (9, false)), false, []⟩,
    ⟨(some 12), .mov (.t 11), (some (9, false)), true, []⟩,
    ⟨(some 13), .mov (.t 0), (some (12, true)), false, []⟩,
    ⟨(some 14), .bin .none .leq (.t 13) (.c (.int .u8 90)), (some (12, true)), false, []⟩,
    ⟨(some 15), .pick (.t 12) (.t 14) (.c (.bool false)), (some (9, false)), false, []⟩,
    ⟨(some 16), .pick (.t 9) (.c (.bool true)) (.t 15), none, false, []⟩,
    ⟨(some 17), .mov (.t 16), none, true, []⟩,
    ⟨(some 18), .mov (.t 0), (some (17, false)), false, []⟩,
    ⟨(some 19), .bin .none .geq (.t 18) (.c (.int .u8 48)), (some (17, false)), false, []⟩,
    ⟨(some 20), .mov (.t 19), (some (17, false)), true, []⟩,
    ⟨(some 21), .mov (.t 0), (some (20, true)), false, []⟩,
    ⟨(some 22), .bin .none .leq (.t 21) (.c (.int .u8 57)), (some (20, true)), false, []⟩,
    ⟨(some 23), .pick (.t 20) (.t 22) (.c (.bool false)), (some (17, false)), false, []⟩,
    ⟨(some 24), .pick (.t 17) (.c (.bool true)) (.t 23), none, false, []⟩,
    ⟨(some 2), .mov (.t 24), none, false, []⟩] none [2])
  .ret))
def words_part_r : List RRes := [.tmp 2]
def words_part_hi : Hi := ⟨[], [(0, "c"), (1, "c")]⟩
def words_part_an : An := .d
def words_part_fi : Fi := ⟨25, words_part_c, words_part_r, words_part_an, words_part_hi, none⟩
theorem words_part_ok : FiOk Try.prog f_words_part words_part_fi :=
  ⟨fun _ => by kernel_rfl, fun _ h hlen => fun_sound (by kernel_rfl) (fn := Try.f36) (draw_sound _ _) Try.func36 rfl (by kernel_rfl : comp Try.prog 25 _ words_part_c = some words_part_c) (by kernel_rfl : cRes Try.prog Try.f36.results.toList = some words_part_r) hlen h, fun _ h => nomatch h⟩

/-- fustian/words.Around: slots [0 text, 1 lo, 2 hi, 3 text, 4 lo, 5 hi] -/
def words_Around_c : SCode :=
  (.seq (.ops [⟨(some 6), .mov (.c (.int .i64 0)), none, false, []⟩,
    ⟨(some 7), .mov (.c (.int .i64 0)), none, false, []⟩] none [0, 1, 2])
  (.seq (.block 0 (.loop [0, 2] [1] 0
    (.seq (.seq (.ops [⟨(some 8), .mov (.t 1), none, false, []⟩,
      ⟨(some 9), .bin .none .gtr (.t 8) (.c (.int .i64 0)), none, false, []⟩,
      ⟨(some 10), .mov (.t 9), none, true, []⟩,
      ⟨(some 11), .mov (.t 0), (some (10, true)), false, []⟩,
      ⟨(some 12), .mov (.t 1), (some (10, true)), false, []⟩,
      ⟨(some 13), .bin .none .sub (.t 12) (.c (.int .i64 1)), (some (10, true)), false, []⟩,
      ⟨(some 14), .index 1 none false (.t 11) (.t 13), (some (10, true)), false, []⟩,
      ⟨(some 15), .call f_words_part [(.t 14)], (some (10, true)), false, []⟩,
      ⟨(some 16), .pick (.t 10) (.t 15) (.c (.bool false)), none, false, []⟩] none [0, 1, 2, 16])
    (.cond (.t 16)
      .skip
      (.exit 0)))
    (.block 1 (.ops [⟨(some 17), .mov (.t 1), none, false, []⟩,
      ⟨(some 18), .bin .none .sub (.t 17) (.c (.int .i64 1)), none, false, []⟩,
      ⟨(some 1), .mov (.t 18), none, false, []⟩] none [0, 1, 2])))))
  (.seq (.block 2 (.loop [0, 1] [2] 0
    (.seq (.seq (.ops [⟨(some 19), .mov (.t 2), none, false, []⟩,
      ⟨(some 20), .mov (.t 0), none, false, []⟩,
      ⟨(some 21), .len true (.t 20), none, false, []⟩,
      ⟨(some 22), .bin .none .lss (.t 19) (.t 21), none, false, []⟩,
      ⟨(some 23), .mov (.t 22), none, true, []⟩,
      ⟨(some 24), .mov (.t 0), (some (23, true)), false, []⟩,
      ⟨(some 25), .mov (.t 2), (some (23, true)), false, []⟩,
      ⟨(some 26), .index 1 none false (.t 24) (.t 25), (some (23, true)), false, []⟩,
      ⟨(some 27), .call f_words_part [(.t 26)], (some (23, true)), false, []⟩,
      ⟨(some 28), .pick (.t 23) (.t 27) (.c (.bool false)), none, false, []⟩] none [0, 1, 2, 28])
    (.cond (.t 28)
      .skip
      (.exit 2)))
    (.block 3 (.ops [⟨(some 29), .mov (.t 2), none, false, []⟩,
      ⟨(some 30), .bin .none .add (.t 29) (.c (.int .i64 1)), none, false, []⟩,
      ⟨(some 2), .mov (.t 30), none, false, []⟩] none [0, 1, 2])))))
  (.seq (.ops [⟨(some 31), .mov (.t 1), none, false, []⟩,
    ⟨(some 32), .mov (.t 2), none, false, []⟩,
    ⟨(some 6), .mov (.t 31), none, false, []⟩,
    ⟨(some 7), .mov (.t 32), none, false, []⟩] none [6, 7])
  .ret))))
def words_Around_r : List RRes := [.tmp 6, .tmp 7]
def words_Around_hi : Hi := ⟨[], [(0, "text"), (1, "lo"), (2, "hi"), (3, "text"), (4, "lo"), (5, "hi")]⟩
def words_Around_an : An := (.seq .d (.seq (.loop [] [] [] .d) (.seq (.loop [] [] [] .d) .d)))
def words_Around_fi : Fi := ⟨33, words_Around_c, words_Around_r, words_Around_an, words_Around_hi, none⟩
theorem words_Around_ok : FiOk Try.prog f_words_Around words_Around_fi :=
  ⟨fun _ => by kernel_rfl, fun _ h hlen => fun_sound (by kernel_rfl) (fn := Try.f19) (draw_sound _ _) Try.func19 rfl (by kernel_rfl : comp Try.prog 33 _ words_Around_c = some words_Around_c) (by kernel_rfl : cRes Try.prog Try.f19.results.toList = some words_Around_r) hlen h, fun _ h => nomatch h⟩

/-- slices.Equal[[]int,int]: slots [0 s1, 1 s2, 2 s1, 3 s2, 5 i] -/
def slices_Equal___int_int__c : SCode :=
  (.seq (.ops [⟨(some 4), .mov (.c (.bool false)), none, false, []⟩] none [0, 1])
  (.seq (.seq (.ops [⟨(some 6), .mov (.t 0), none, false, []⟩,
    ⟨(some 7), .len false (.t 6), none, false, []⟩,
    ⟨(some 8), .mov (.t 1), none, false, []⟩,
    ⟨(some 9), .len false (.t 8), none, false, []⟩,
    ⟨(some 10), .bin .none .neq (.t 7) (.t 9), none, false, []⟩] none [0, 1, 10])
  (.cond (.t 10)
    (.seq (.ops [⟨(some 4), .mov (.c (.bool false)), none, false, []⟩] none [4])
    .ret)
    .skip))
  (.seq (.seq (.ops [⟨(some 11), .mov (.t 0), none, false, []⟩,
    ⟨(some 12), .len false (.t 11), none, false, []⟩,
    ⟨(some 13), .mov (.c (.int .i64 0)), none, false, []⟩] none [0, 1, 12, 13])
  (.block 0 (.loop [0, 1, 12] [13] 0
    (.seq (.ops [⟨(some 14), .bin .none .lss (.t 13) (.t 12), none, false, []⟩] none [0, 1, 12, 13, 14])
    (.seq (.cond (.t 14)
      .skip
      (.exit 0))
    (.seq (.block 1 (.seq (.ops [⟨(some 15), .mov (.t 13), none, false, []⟩,
      ⟨(some 5), .mov (.t 15), none, false, []⟩] none [0, 1, 5, 12, 13])
    (.seq (.ops [⟨(some 16), .mov (.t 0), none, false, []⟩,
      ⟨(some 17), .mov (.t 5), none, false, []⟩,
      ⟨(some 18), .iaddr 1 none (.t 16) (.t 17), none, false, []⟩,
      ⟨(some 19), .load 1 false (.t 18), none, false, []⟩,
      ⟨(some 20), .mov (.t 1), none, false, []⟩,
      ⟨(some 21), .mov (.t 5), none, false, []⟩,
      ⟨(some 22), .iaddr 1 none (.t 20) (.t 21), none, false, []⟩,
      ⟨(some 23), .load 1 false (.t 22), none, false, []⟩,
      ⟨(some 24), .bin .none .neq (.t 19) (.t 23), none, false, []⟩] (some (0, 0, [0, 1, 2, 3, 4, 5, 6, 7, 8])) [0, 1, 12, 13, 24])
    (.cond (.t 24)
      (.seq (.ops [⟨(some 4), .mov (.c (.bool false)), none, false, []⟩] none [4])
      .ret)
      .skip))))
    (.ops [⟨(some 25), .bin .none .add (.t 13) (.c (.int .i64 1)), none, false, []⟩,
      ⟨(some 13), .mov (.t 25), none, false, []⟩] none [0, 1, 12, 13])))))))
  (.seq (.ops [⟨(some 4), .mov (.c (.bool true)), none, false, []⟩] none [4])
  .ret))))
def slices_Equal___int_int__r : List RRes := [.tmp 4]
def slices_Equal___int_int__hi : Hi := ⟨[], [(0, "s1"), (1, "s2"), (2, "s1"), (3, "s2"), (5, "i")]⟩
def slices_Equal___int_int__an : An := (.seq .d (.seq .d (.seq (.seq .d (.loop [] [] [] .d)) .d)))
def slices_Equal___int_int__fi : Fi := ⟨26, slices_Equal___int_int__c, slices_Equal___int_int__r, slices_Equal___int_int__an, slices_Equal___int_int__hi, none⟩
theorem slices_Equal___int_int__ok : FiOk Try.prog f_slices_Equal___int_int_ slices_Equal___int_int__fi :=
  ⟨fun _ => by kernel_rfl, fun _ h hlen => fun_sound (by kernel_rfl) (fn := Try.f16) (draw_sound _ _) Try.func16 rfl (by kernel_rfl : comp Try.prog 26 _ slices_Equal___int_int__c = some slices_Equal___int_int__c) (by kernel_rfl : cRes Try.prog Try.f16.results.toList = some slices_Equal___int_int__r) hlen h, fun _ h => nomatch h⟩

/-- fustian/words.Update$1: slots [0 a, 1 b, 2 a, 3 b] -/
def words_Update_1_c : SCode :=
  (.seq (.ops [⟨(some 2), .box 0 (.t 0), none, false, []⟩,
    ⟨(some 3), .box 0 (.t 1), none, false, []⟩,
    ⟨(some 4), .mov (.c (.bool false)), none, false, []⟩] none [2, 3])
  (.seq (.ops [⟨(some 5), .faddr 0 (.t 2), none, false, []⟩,
    ⟨(some 6), .load 1 false (.t 5), none, false, []⟩,
    ⟨(some 7), .faddr 0 (.t 3), none, false, []⟩,
    ⟨(some 8), .load 1 false (.t 7), none, false, []⟩,
    ⟨(some 9), .bin .none .eql (.t 6) (.t 8), none, false, []⟩,
    ⟨(some 10), .mov (.t 9), none, true, []⟩,
    ⟨(some 11), .faddr 1 (.t 2), (some (10, true)), false, []⟩,
    ⟨(some 12), .load 1 false (.t 11), (some (10, true)), false, []⟩,
    ⟨(some 13), .faddr 1 (.t 3), (some (10, true)), false, []⟩,
    ⟨(some 14), .load 1 false (.t 13), (some (10, true)), false, []⟩,
    ⟨(some 15), .call f_slices_Equal___int_int_ [(.t 12), (.t 14)], (some (10, true)), false, []⟩,
    ⟨(some 16), .pick (.t 10) (.t 15) (.c (.bool false)), none, false, []⟩,
    ⟨(some 4), .mov (.t 16), none, false, []⟩] none [4])
  .ret))
def words_Update_1_r : List RRes := [.tmp 4]
def words_Update_1_hi : Hi := ⟨[(2, (.st (.cons .str (.cons (.sl (.int .i64)) .nil)))), (3, (.st (.cons .str (.cons (.sl (.int .i64)) .nil))))], [(0, "a"), (1, "b"), (2, "a"), (3, "b")]⟩
def words_Update_1_an : An := .d
def words_Update_1_fi : Fi := ⟨17, words_Update_1_c, words_Update_1_r, words_Update_1_an, words_Update_1_hi, none⟩
theorem words_Update_1_ok : FiOk Try.prog f_words_Update_1 words_Update_1_fi :=
  ⟨fun _ => by kernel_rfl, fun _ h hlen => fun_sound (by kernel_rfl) (fn := Try.f15) (draw_sound _ _) Try.func15 rfl (by kernel_rfl : comp Try.prog 17 _ words_Update_1_c = some words_Update_1_c) (by kernel_rfl : cRes Try.prog Try.f15.results.toList = some words_Update_1_r) hlen h, fun _ h => nomatch h⟩

/-- fustian/edit.Check: slots [0 size, 1 e, 2 size, 3 e] -/
def edit_Check_c : SCode :=
  (.seq (.ops [⟨(some 3), .box 0 (.t 1), none, false, []⟩,
    ⟨(some 4), .mov (.c (.int .i64 0)), none, false, []⟩] none [0, 3])
  (.seq (.block 0 (.seq (.ops [⟨(some 6), .mov (.t 0), none, false, []⟩,
    ⟨(some 7), .bin .none .lss (.t 6) (.c (.int .i64 0)), none, false, []⟩,
    ⟨(some 8), .mov (.t 7), none, true, []⟩,
    ⟨(some 9), .mov (.t 0), (some (8, false)), false, []⟩,
    ⟨(some 10), .bin .none .gtr (.t 9) (.c (.int .i64 600)), (some (8, false)), false, []⟩,
    ⟨(some 11), .pick (.t 8) (.c (.bool true)) (.t 10), none, false, []⟩,
    ⟨(some 12), .mov (.t 11), none, true, []⟩,
    ⟨(some 13), .faddr 0 (.t 3), (some (12, false)), false, []⟩,
    ⟨(some 14), .load 1 false (.t 13), (some (12, false)), false, []⟩,
    ⟨(some 15), .bin .none .lss (.t 14) (.c (.int .i64 0)), (some (12, false)), false, []⟩,
    ⟨(some 16), .pick (.t 12) (.c (.bool true)) (.t 15), none, false, []⟩,
    ⟨(some 17), .mov (.t 16), none, true, []⟩,
    ⟨(some 18), .faddr 0 (.t 3), (some (17, false)), false, []⟩,
    ⟨(some 19), .load 1 false (.t 18), (some (17, false)), false, []⟩,
    ⟨(some 20), .mov (.t 0), (some (17, false)), false, []⟩,
    ⟨(some 21), .bin .none .gtr (.t 19) (.t 20), (some (17, false)), false, []⟩,
    ⟨(some 22), .pick (.t 17) (.c (.bool true)) (.t 21), none, false, []⟩,
    ⟨(some 23), .mov (.t 22), none, true, []⟩,
    ⟨(some 24), .faddr 1 (.t 3), (some (23, false)), false, []⟩,
    ⟨(some 25), .load 1 false (.t 24), (some (23, false)), false, []⟩,
    ⟨(some 26), .bin .none .lss (.t 25) (.c (.int .i64 0)), (some (23, false)), false, []⟩,
    ⟨(some 27), .pick (.t 23) (.c (.bool true)) (.t 26), none, false, []⟩,
    ⟨(some 28), .mov (.t 27), none, true, []⟩,
    ⟨(some 29), .faddr 1 (.t 3), (some (28, false)), false, []⟩,
    ⟨(some 30), .load 1 false (.t 29), (some (28, false)), false, []⟩,
    ⟨(some 31), .mov (.t 0), (some (28, false)), false, []⟩,
    ⟨(some 32), .faddr 0 (.t 3), (some (28, false)), false, []⟩,
    ⟨(some 33), .load 1 false (.t 32), (some (28, false)), false, []⟩,
    ⟨(some 34), .bin .none .sub (.t 31) (.t 33), (some (28, false)), false, []⟩,
    ⟨(some 35), .bin .none .gtr (.t 30) (.t 34), (some (28, false)), false, []⟩,
    ⟨(some 36), .pick (.t 28) (.c (.bool true)) (.t 35), none, false, []⟩,
    ⟨(some 5), .mov (.t 36), none, false, []⟩] none [0, 3, 5])
  (.cond (.t 5)
    (.seq (.ops [⟨(some 4), .mov (.c (.int .i64 2)), none, false, []⟩] none [4])
    .ret)
    (.seq (.ops [⟨(some 38), .mov (.t 0), none, false, []⟩,
      ⟨(some 39), .faddr 1 (.t 3), none, false, []⟩,
      ⟨(some 40), .load 1 false (.t 39), none, false, []⟩,
      ⟨(some 41), .bin .none .sub (.t 38) (.t 40), none, false, []⟩,
      ⟨(some 42), .faddr 2 (.t 3), none, false, []⟩,
      ⟨(some 43), .load 1 false (.t 42), none, false, []⟩,
      ⟨(some 44), .len true (.t 43), none, false, []⟩,
      ⟨(some 45), .bin .none .add (.t 41) (.t 44), none, false, []⟩,
      ⟨(some 46), .bin .none .gtr (.t 45) (.c (.int .i64 600)), none, false, []⟩,
      ⟨(some 37), .mov (.t 46), none, false, []⟩] none [37])
    (.cond (.t 37)
      (.seq (.ops [⟨(some 4), .mov (.c (.int .i64 1)), none, false, []⟩] none [4])
      .ret)
      .skip)))))
  (.seq (.ops [⟨(some 4), .mov (.c (.int .i64 0)), none, false, []⟩] none [4])
  .ret)))
def edit_Check_r : List RRes := [.tmp 4]
def edit_Check_hi : Hi := ⟨[(3, (.st (.cons (.int .i64) (.cons (.int .i64) (.cons .str .nil)))))], [(0, "size"), (1, "e"), (2, "size"), (3, "e")]⟩
def edit_Check_an : An := .d
def edit_Check_fi : Fi := ⟨47, edit_Check_c, edit_Check_r, edit_Check_an, edit_Check_hi, none⟩
theorem edit_Check_ok : FiOk Try.prog f_edit_Check edit_Check_fi :=
  ⟨fun _ => by kernel_rfl, fun _ h hlen => fun_sound (by kernel_rfl) (fn := Try.f18) (draw_sound _ _) Try.func18 rfl (by kernel_rfl : comp Try.prog 47 _ edit_Check_c = some edit_Check_c) (by kernel_rfl : cRes Try.prog Try.f18.results.toList = some edit_Check_r) hlen h, fun _ h => nomatch h⟩

/-- fustian/edit.Made: slots [0 text, 1 e, 2 text, 3 e] -/
def edit_Made_c : SCode :=
  (.seq (.ops [⟨(some 3), .box 0 (.t 1), none, false, []⟩,
    ⟨(some 4), .mov (.c (.str [])), none, false, []⟩] none [0, 3])
  (.seq (.ops [⟨(some 5), .mov (.t 0), none, false, []⟩,
    ⟨(some 6), .faddr 0 (.t 3), none, false, []⟩,
    ⟨(some 7), .load 1 false (.t 6), none, false, []⟩,
    ⟨(some 8), .slice 0 (.t 5) none (some (.t 7)), none, false, []⟩,
    ⟨(some 9), .faddr 2 (.t 3), none, false, []⟩,
    ⟨(some 10), .load 1 false (.t 9), none, false, []⟩,
    ⟨(some 11), .bin .none .add (.t 8) (.t 10), none, false, []⟩,
    ⟨(some 12), .mov (.t 0), none, false, []⟩,
    ⟨(some 13), .faddr 0 (.t 3), none, false, []⟩,
    ⟨(some 14), .load 1 false (.t 13), none, false, []⟩,
    ⟨(some 15), .faddr 1 (.t 3), none, false, []⟩,
    ⟨(some 16), .load 1 false (.t 15), none, false, []⟩,
    ⟨(some 17), .bin .none .add (.t 14) (.t 16), none, false, []⟩,
    ⟨(some 18), .slice 0 (.t 12) (some (.t 17)) none, none, false, []⟩,
    ⟨(some 19), .bin .none .add (.t 11) (.t 18), none, false, []⟩,
    ⟨(some 4), .mov (.t 19), none, false, []⟩] (some (0, 0, [0, 1, 2, 3, 4, 5, 6, 7, 8, 9, 10, 11, 12, 13, 14, 15])) [4])
  .ret))
def edit_Made_r : List RRes := [.tmp 4]
def edit_Made_hi : Hi := ⟨[(3, (.st (.cons (.int .i64) (.cons (.int .i64) (.cons .str .nil)))))], [(0, "text"), (1, "e"), (2, "text"), (3, "e")]⟩
def edit_Made_an : An := .d
def edit_Made_fi : Fi := ⟨20, edit_Made_c, edit_Made_r, edit_Made_an, edit_Made_hi, none⟩
theorem edit_Made_ok : FiOk Try.prog f_edit_Made edit_Made_fi :=
  ⟨fun _ => by kernel_rfl, fun _ h hlen => fun_sound (by kernel_rfl) (fn := Try.f20) (draw_sound _ _) Try.func20 rfl (by kernel_rfl : comp Try.prog 20 _ edit_Made_c = some edit_Made_c) (by kernel_rfl : cRes Try.prog Try.f20.results.toList = some edit_Made_r) hlen h, fun _ h => nomatch h⟩

/-- fustian/fustianref.letter: slots [0 c, 1 c] -/
def ref_letter_c : SCode :=
  (.seq (.ops [⟨(some 2), .mov (.c (.bool false)), none, false, []⟩] none [0])
  (.seq (.ops [⟨(some 3), .mov (.t 0), none, false, []⟩,
    ⟨(some 4), .bin .none .leq (.c (.int .u8 97)) (.t 3), none, false, []⟩,
    ⟨(some 5), .mov (.t 4), none, true, []⟩,
    ⟨(some 6), .mov (.t 0), (some (5, true)), false, []⟩,
    ⟨(some 7), .bin .none .leq (.t 6) (.c (.int .u8 122)), (some (5, true)), false, []⟩,
    ⟨(some 8), .pick (.t 5) (.t 7) (.c (.bool false)), none, false, []⟩,
    ⟨(some 9), .mov (.t 8), none, true, []⟩,
    ⟨(some 10), .mov (.t 0), (some (9, false)), false, []⟩,
    ⟨(some 11), .bin .none .leq (.c (.int .u8 65)) (.t 10), (some (9, false)), false, []⟩,
    ⟨(some 12), .mov (.t 11), (some (9, false)), true, []⟩,
    ⟨(some 13), .mov (.t 0), (some (12, true)), false, []⟩,
    ⟨(some 14), .bin .none .leq (.t 13) (.c (.int .u8 90)), (some (12, true)), false, []⟩,
    ⟨(some 15), .pick (.t 12) (.t 14) (.c (.bool false)), (some (9, false)), false, []⟩,
    ⟨(some 16), .pick (.t 9) (.c (.bool true)) (.t 15), none, false, []⟩,
    ⟨(some 17), .mov (.t 16), none, true, []⟩,
    ⟨(some 18), .mov (.t 0), (some (17, false)), false, []⟩,
    ⟨(some 19), .bin .none .leq (.c (.int .u8 48)) (.t 18), (some (17, false)), false, []⟩,
    ⟨(some 20), .mov (.t 19), (some (17, false)), true, []⟩,
    ⟨(some 21), .mov (.t 0), (some (20, true)), false, []⟩,
    ⟨(some 22), .bin .none .leq (.t 21) (.c (.int .u8 57)), (some (20, true)), false, []⟩,
    ⟨(some 23), .pick (.t 20) (.t 22) (.c (.bool false)), (some (17, false)), false, []⟩,
    ⟨(some 24), .pick (.t 17) (.c (.bool true)) (.t 23), none, false, []⟩,
    ⟨(some 2), .mov (.t 24), none, false, []⟩] none [2])
  .ret))
def ref_letter_r : List RRes := [.tmp 2]
def ref_letter_hi : Hi := ⟨[], [(0, "c"), (1, "c")]⟩
def ref_letter_an : An := .d
def ref_letter_fi : Fi := ⟨25, ref_letter_c, ref_letter_r, ref_letter_an, ref_letter_hi, none⟩
theorem ref_letter_ok : FiOk Try.prog f_ref_letter ref_letter_fi :=
  ⟨fun _ => by kernel_rfl, fun _ h hlen => fun_sound (by kernel_rfl) (fn := Try.f30) (draw_sound _ _) Try.func30 rfl (by kernel_rfl : comp Try.prog 25 _ ref_letter_c = some ref_letter_c) (by kernel_rfl : cRes Try.prog Try.f30.results.toList = some ref_letter_r) hlen h, fun _ h => nomatch h⟩

/-- fustian/fustianref.wordAt: slots [0 text, 1 at, 2 text, 3 at, 5 end] -/
def ref_wordAt_c : SCode :=
  (.seq (.ops [⟨(some 4), .mov (.c (.str [])), none, false, []⟩] none [0, 1])
  (.seq (.seq (.ops [⟨(some 6), .mov (.t 1), none, false, []⟩,
    ⟨(some 7), .bin .none .gtr (.t 6) (.c (.int .i64 0)), none, false, []⟩,
    ⟨(some 8), .mov (.t 7), none, true, []⟩,
    ⟨(some 9), .mov (.t 0), (some (8, true)), false, []⟩,
    ⟨(some 10), .mov (.t 1), (some (8, true)), false, []⟩,
    ⟨(some 11), .bin .none .sub (.t 10) (.c (.int .i64 1)), (some (8, true)), false, []⟩,
    ⟨(some 12), .index 1 none false (.t 9) (.t 11), (some (8, true)), false, []⟩,
    ⟨(some 13), .call f_ref_letter [(.t 12)], (some (8, true)), false, []⟩,
    ⟨(some 14), .pick (.t 8) (.t 13) (.c (.bool false)), none, false, []⟩] none [0, 1, 14])
  (.cond (.t 14)
    (.seq (.ops [⟨(some 4), .mov (.c (.str [])), none, false, []⟩] none [4])
    .ret)
    .skip))
  (.seq (.ops [⟨(some 15), .mov (.t 1), none, false, []⟩,
    ⟨(some 5), .mov (.t 15), none, false, []⟩] none [0, 1, 5])
  (.seq (.block 0 (.loop [0, 1] [5] 0
    (.seq (.seq (.ops [⟨(some 16), .mov (.t 5), none, false, []⟩,
      ⟨(some 17), .mov (.t 0), none, false, []⟩,
      ⟨(some 18), .len true (.t 17), none, false, []⟩,
      ⟨(some 19), .bin .none .lss (.t 16) (.t 18), none, false, []⟩,
      ⟨(some 20), .mov (.t 19), none, true, []⟩,
      ⟨(some 21), .mov (.t 0), (some (20, true)), false, []⟩,
      ⟨(some 22), .mov (.t 5), (some (20, true)), false, []⟩,
      ⟨(some 23), .index 1 none false (.t 21) (.t 22), (some (20, true)), false, []⟩,
      ⟨(some 24), .call f_ref_letter [(.t 23)], (some (20, true)), false, []⟩,
      ⟨(some 25), .pick (.t 20) (.t 24) (.c (.bool false)), none, false, []⟩] none [0, 1, 5, 25])
    (.cond (.t 25)
      .skip
      (.exit 0)))
    (.block 1 (.ops [⟨(some 26), .mov (.t 5), none, false, []⟩,
      ⟨(some 27), .bin .none .add (.t 26) (.c (.int .i64 1)), none, false, []⟩,
      ⟨(some 5), .mov (.t 27), none, false, []⟩] none [0, 1, 5])))))
  (.seq (.seq (.ops [⟨(some 28), .mov (.t 5), none, false, []⟩,
    ⟨(some 29), .mov (.t 1), none, false, []⟩,
    ⟨(some 30), .bin .none .sub (.t 28) (.t 29), none, false, []⟩,
    ⟨(some 31), .bin .none .gtr (.t 30) (.c (.int .i64 12)), none, false, []⟩] none [0, 1, 5, 31])
  (.cond (.t 31)
    (.seq (.ops [⟨(some 4), .mov (.c (.str [])), none, false, []⟩] none [4])
    .ret)
    .skip))
  (.seq (.ops [⟨(some 32), .mov (.t 0), none, false, []⟩,
    ⟨(some 33), .mov (.t 1), none, false, []⟩,
    ⟨(some 34), .mov (.t 5), none, false, []⟩,
    ⟨(some 35), .slice 0 (.t 32) (some (.t 33)) (some (.t 34)), none, false, []⟩,
    ⟨(some 4), .mov (.t 35), none, false, []⟩] none [4])
  .ret))))))
def ref_wordAt_r : List RRes := [.tmp 4]
def ref_wordAt_hi : Hi := ⟨[], [(0, "text"), (1, "at"), (2, "text"), (3, "at"), (5, "end")]⟩
def ref_wordAt_an : An := (.seq .d (.seq .d (.seq .d (.seq (.loop [] [] [] .d) .d))))
def ref_wordAt_fi : Fi := ⟨36, ref_wordAt_c, ref_wordAt_r, ref_wordAt_an, ref_wordAt_hi, none⟩
theorem ref_wordAt_ok : FiOk Try.prog f_ref_wordAt ref_wordAt_fi :=
  ⟨fun _ => by kernel_rfl, fun _ h hlen => fun_sound (by kernel_rfl) (fn := Try.f12) (draw_sound _ _) Try.func12 rfl (by kernel_rfl : comp Try.prog 36 _ ref_wordAt_c = some ref_wordAt_c) (by kernel_rfl : cRes Try.prog Try.f12.results.toList = some ref_wordAt_r) hlen h, fun _ h => nomatch h⟩

/-- fustian/fustianref.SameWords: slots [0 a, 1 b, 2 a, 3 b, 5 i, 6 k] -/
def ref_SameWords_c : SCode :=
  (.seq (.ops [⟨(some 4), .mov (.c (.bool false)), none, false, []⟩] none [0, 1])
  (.seq (.seq (.ops [⟨(some 7), .mov (.t 0), none, false, []⟩,
    ⟨(some 8), .len false (.t 7), none, false, []⟩,
    ⟨(some 9), .mov (.t 1), none, false, []⟩,
    ⟨(some 10), .len false (.t 9), none, false, []⟩,
    ⟨(some 11), .bin .none .neq (.t 8) (.t 10), none, false, []⟩] none [0, 1, 11])
  (.cond (.t 11)
    (.seq (.ops [⟨(some 4), .mov (.c (.bool false)), none, false, []⟩] none [4])
    .ret)
    .skip))
  (.seq (.seq (.ops [⟨(some 12), .mov (.t 0), none, false, []⟩,
    ⟨(some 13), .len false (.t 12), none, false, []⟩,
    ⟨(some 14), .mov (.c (.int .i64 0)), none, false, []⟩] none [0, 1, 13, 14])
  (.block 0 (.loop [0, 1, 13] [14] 0
    (.seq (.ops [⟨(some 15), .bin .none .lss (.t 14) (.t 13), none, false, []⟩] none [0, 1, 13, 14, 15])
    (.seq (.cond (.t 15)
      .skip
      (.exit 0))
    (.seq (.block 1 (.seq (.ops [⟨(some 16), .mov (.t 14), none, false, []⟩,
      ⟨(some 5), .mov (.t 16), none, false, []⟩] none [0, 1, 5, 13, 14])
    (.seq (.seq (.ops [⟨(some 17), .mov (.t 0), none, false, []⟩,
      ⟨(some 18), .mov (.t 5), none, false, []⟩,
      ⟨(some 19), .iaddr 2 none (.t 17) (.t 18), none, false, []⟩,
      ⟨(some 20), .faddr 0 (.t 19), none, false, []⟩,
      ⟨(some 21), .load 1 false (.t 20), none, false, []⟩,
      ⟨(some 22), .mov (.t 1), none, false, []⟩,
      ⟨(some 23), .mov (.t 5), none, false, []⟩,
      ⟨(some 24), .iaddr 2 none (.t 22) (.t 23), none, false, []⟩,
      ⟨(some 25), .faddr 0 (.t 24), none, false, []⟩,
      ⟨(some 26), .load 1 false (.t 25), none, false, []⟩,
      ⟨(some 27), .bin .none .neq (.t 21) (.t 26), none, false, []⟩,
      ⟨(some 28), .mov (.t 27), none, true, []⟩,
      ⟨(some 29), .mov (.t 0), (some (28, false)), false, []⟩,
      ⟨(some 30), .mov (.t 5), (some (28, false)), false, []⟩,
      ⟨(some 31), .iaddr 2 none (.t 29) (.t 30), (some (28, false)), false, []⟩,
      ⟨(some 32), .faddr 1 (.t 31), (some (28, false)), false, []⟩,
      ⟨(some 33), .load 1 false (.t 32), (some (28, false)), false, []⟩,
      ⟨(some 34), .len false (.t 33), (some (28, false)), false, []⟩,
      ⟨(some 35), .mov (.t 1), (some (28, false)), false, []⟩,
      ⟨(some 36), .mov (.t 5), (some (28, false)), false, []⟩,
      ⟨(some 37), .iaddr 2 none (.t 35) (.t 36), (some (28, false)), false, []⟩,
      ⟨(some 38), .faddr 1 (.t 37), (some (28, false)), false, []⟩,
      ⟨(some 39), .load 1 false (.t 38), (some (28, false)), false, []⟩,
      ⟨(some 40), .len false (.t 39), (some (28, false)), false, []⟩,
      ⟨(some 41), .bin .none .neq (.t 34) (.t 40), (some (28, false)), false, []⟩,
      ⟨(some 42), .pick (.t 28) (.c (.bool true)) (.t 41), none, false, []⟩] (some (0, 0, [0, 1, 2, 3, 4, 5, 6, 7, 8, 9, 10, 11, 12, 13, 14, 15, 16, 17, 18, 19, 20, 21, 22, 23, 24, 25])) [0, 1, 5, 13, 14, 42])
    (.cond (.t 42)
      (.seq (.ops [⟨(some 4), .mov (.c (.bool false)), none, false, []⟩] none [4])
      .ret)
      .skip))
    (.seq (.ops [⟨(some 43), .mov (.t 0), none, false, []⟩,
      ⟨(some 44), .mov (.t 5), none, false, []⟩,
      ⟨(some 45), .iaddr 2 none (.t 43) (.t 44), none, false, []⟩,
      ⟨(some 46), .faddr 1 (.t 45), none, false, []⟩,
      ⟨(some 47), .load 1 false (.t 46), none, false, []⟩,
      ⟨(some 48), .len false (.t 47), none, false, []⟩,
      ⟨(some 49), .mov (.c (.int .i64 0)), none, false, []⟩] none [0, 1, 5, 13, 14, 48, 49])
    (.block 2 (.loop [0, 1, 5, 13, 14, 48] [49] 0
      (.seq (.ops [⟨(some 50), .bin .none .lss (.t 49) (.t 48), none, false, []⟩] none [0, 1, 5, 13, 14, 48, 49, 50])
      (.seq (.cond (.t 50)
        .skip
        (.exit 2))
      (.seq (.block 3 (.seq (.ops [⟨(some 51), .mov (.t 49), none, false, []⟩,
        ⟨(some 6), .mov (.t 51), none, false, []⟩] none [0, 1, 5, 6, 13, 14, 48, 49])
      (.seq (.ops [⟨(some 52), .mov (.t 0), none, false, []⟩,
        ⟨(some 53), .mov (.t 5), none, false, []⟩,
        ⟨(some 54), .iaddr 2 none (.t 52) (.t 53), none, false, []⟩,
        ⟨(some 55), .faddr 1 (.t 54), none, false, []⟩,
        ⟨(some 56), .load 1 false (.t 55), none, false, []⟩,
        ⟨(some 57), .mov (.t 6), none, false, []⟩,
        ⟨(some 58), .iaddr 1 none (.t 56) (.t 57), none, false, []⟩,
        ⟨(some 59), .load 1 false (.t 58), none, false, []⟩,
        ⟨(some 60), .mov (.t 1), none, false, []⟩,
        ⟨(some 61), .mov (.t 5), none, false, []⟩,
        ⟨(some 62), .iaddr 2 none (.t 60) (.t 61), none, false, []⟩,
        ⟨(some 63), .faddr 1 (.t 62), none, false, []⟩,
        ⟨(some 64), .load 1 false (.t 63), none, false, []⟩,
        ⟨(some 65), .mov (.t 6), none, false, []⟩,
        ⟨(some 66), .iaddr 1 none (.t 64) (.t 65), none, false, []⟩,
        ⟨(some 67), .load 1 false (.t 66), none, false, []⟩,
        ⟨(some 68), .bin .none .neq (.t 59) (.t 67), none, false, []⟩] (some (0, 0, [0, 1, 2, 3, 4, 5, 6, 7, 8, 9, 10, 11, 12, 13, 14, 15, 16])) [0, 1, 5, 13, 14, 48, 49, 68])
      (.cond (.t 68)
        (.seq (.ops [⟨(some 4), .mov (.c (.bool false)), none, false, []⟩] none [4])
        .ret)
        .skip))))
      (.ops [⟨(some 69), .bin .none .add (.t 49) (.c (.int .i64 1)), none, false, []⟩,
        ⟨(some 49), .mov (.t 69), none, false, []⟩] none [0, 1, 5, 13, 14, 48, 49]))))))))))
    (.ops [⟨(some 70), .bin .none .add (.t 14) (.c (.int .i64 1)), none, false, []⟩,
      ⟨(some 14), .mov (.t 70), none, false, []⟩] none [0, 1, 13, 14])))))))
  (.seq (.ops [⟨(some 4), .mov (.c (.bool true)), none, false, []⟩] none [4])
  .ret))))
def ref_SameWords_r : List RRes := [.tmp 4]
def ref_SameWords_hi : Hi := ⟨[], [(0, "a"), (1, "b"), (2, "a"), (3, "b"), (5, "i"), (6, "k")]⟩
def ref_SameWords_an : An := (.seq .d (.seq .d (.seq (.seq .d (.loop [] [] [] (.seq .d (.seq .d (.seq (.seq .d (.seq .d (.seq .d (.loop [] [] [] .d)))) .d))))) .d)))
def ref_SameWords_fi : Fi := ⟨71, ref_SameWords_c, ref_SameWords_r, ref_SameWords_an, ref_SameWords_hi, none⟩
theorem ref_SameWords_ok : FiOk Try.prog f_ref_SameWords ref_SameWords_fi :=
  ⟨fun _ => by kernel_rfl, fun _ h hlen => fun_sound (by kernel_rfl) (fn := Try.f7) (draw_sound _ _) Try.func7 rfl (by kernel_rfl : comp Try.prog 71 _ ref_SameWords_c = some ref_SameWords_c) (by kernel_rfl : cRes Try.prog Try.f7.results.toList = some ref_SameWords_r) hlen h, fun _ h => nomatch h⟩

/-- fustian/fustianref.EditFault: slots [0 size, 1 e, 2 size, 3 e] -/
def ref_EditFault_c : SCode :=
  (.seq (.ops [⟨(some 3), .box 0 (.t 1), none, false, []⟩,
    ⟨(some 4), .mov (.c (.int .i64 0)), none, false, []⟩] none [0, 3])
  (.seq (.seq (.ops [⟨(some 5), .mov (.t 0), none, false, []⟩,
    ⟨(some 6), .bin .none .lss (.t 5) (.c (.int .i64 0)), none, false, []⟩,
    ⟨(some 7), .mov (.t 6), none, true, []⟩,
    ⟨(some 8), .mov (.t 0), (some (7, false)), false, []⟩,
    ⟨(some 9), .bin .none .gtr (.t 8) (.c (.int .i64 600)), (some (7, false)), false, []⟩,
    ⟨(some 10), .pick (.t 7) (.c (.bool true)) (.t 9), none, false, []⟩,
    ⟨(some 11), .mov (.t 10), none, true, []⟩,
    ⟨(some 12), .faddr 0 (.t 3), (some (11, false)), false, []⟩,
    ⟨(some 13), .load 1 false (.t 12), (some (11, false)), false, []⟩,
    ⟨(some 14), .bin .none .lss (.t 13) (.c (.int .i64 0)), (some (11, false)), false, []⟩,
    ⟨(some 15), .pick (.t 11) (.c (.bool true)) (.t 14), none, false, []⟩,
    ⟨(some 16), .mov (.t 15), none, true, []⟩,
    ⟨(some 17), .faddr 1 (.t 3), (some (16, false)), false, []⟩,
    ⟨(some 18), .load 1 false (.t 17), (some (16, false)), false, []⟩,
    ⟨(some 19), .bin .none .lss (.t 18) (.c (.int .i64 0)), (some (16, false)), false, []⟩,
    ⟨(some 20), .pick (.t 16) (.c (.bool true)) (.t 19), none, false, []⟩,
    ⟨(some 21), .mov (.t 20), none, true, []⟩,
    ⟨(some 22), .faddr 0 (.t 3), (some (21, false)), false, []⟩,
    ⟨(some 23), .load 1 false (.t 22), (some (21, false)), false, []⟩,
    ⟨(some 24), .mov (.t 0), (some (21, false)), false, []⟩,
    ⟨(some 25), .bin .none .gtr (.t 23) (.t 24), (some (21, false)), false, []⟩,
    ⟨(some 26), .pick (.t 21) (.c (.bool true)) (.t 25), none, false, []⟩,
    ⟨(some 27), .mov (.t 26), none, true, []⟩,
    ⟨(some 28), .faddr 1 (.t 3), (some (27, false)), false, []⟩,
    ⟨(some 29), .load 1 false (.t 28), (some (27, false)), false, []⟩,
    ⟨(some 30), .mov (.t 0), (some (27, false)), false, []⟩,
    ⟨(some 31), .bin .none .gtr (.t 29) (.t 30), (some (27, false)), false, []⟩,
    ⟨(some 32), .pick (.t 27) (.c (.bool true)) (.t 31), none, false, []⟩,
    ⟨(some 33), .mov (.t 32), none, true, []⟩,
    ⟨(some 34), .faddr 0 (.t 3), (some (33, false)), false, []⟩,
    ⟨(some 35), .load 1 false (.t 34), (some (33, false)), false, []⟩,
    ⟨(some 36), .faddr 1 (.t 3), (some (33, false)), false, []⟩,
    ⟨(some 37), .load 1 false (.t 36), (some (33, false)), false, []⟩,
    ⟨(some 38), .bin .none .add (.t 35) (.t 37), (some (33, false)), false, []⟩,
    ⟨(some 39), .mov (.t 0), (some (33, false)), false, []⟩,
    ⟨(some 40), .bin .none .gtr (.t 38) (.t 39), (some (33, false)), false, []⟩,
    ⟨(some 41), .pick (.t 33) (.c (.bool true)) (.t 40), none, false, []⟩] none [0, 3, 41])
  (.cond (.t 41)
    (.seq (.ops [⟨(some 4), .mov (.c (.int .i64 2)), none, false, []⟩] none [4])
    .ret)
    .skip))
  (.seq (.seq (.ops [⟨(some 42), .mov (.t 0), none, false, []⟩,
    ⟨(some 43), .faddr 2 (.t 3), none, false, []⟩,
    ⟨(some 44), .load 1 false (.t 43), none, false, []⟩,
    ⟨(some 45), .len true (.t 44), none, false, []⟩,
    ⟨(some 46), .bin .none .add (.t 42) (.t 45), none, false, []⟩,
    ⟨(some 47), .faddr 1 (.t 3), none, false, []⟩,
    ⟨(some 48), .load 1 false (.t 47), none, false, []⟩,
    ⟨(some 49), .bin .none .sub (.t 46) (.t 48), none, false, []⟩,
    ⟨(some 50), .bin .none .gtr (.t 49) (.c (.int .i64 600)), none, false, []⟩] none [50])
  (.cond (.t 50)
    (.seq (.ops [⟨(some 4), .mov (.c (.int .i64 1)), none, false, []⟩] none [4])
    .ret)
    .skip))
  (.seq (.ops [⟨(some 4), .mov (.c (.int .i64 0)), none, false, []⟩] none [4])
  .ret))))
def ref_EditFault_r : List RRes := [.tmp 4]
def ref_EditFault_hi : Hi := ⟨[(3, (.st (.cons (.int .i64) (.cons (.int .i64) (.cons .str .nil)))))], [(0, "size"), (1, "e"), (2, "size"), (3, "e")]⟩
def ref_EditFault_an : An := .d
def ref_EditFault_fi : Fi := ⟨51, ref_EditFault_c, ref_EditFault_r, ref_EditFault_an, ref_EditFault_hi, none⟩
theorem ref_EditFault_ok : FiOk Try.prog f_ref_EditFault ref_EditFault_fi :=
  ⟨fun _ => by kernel_rfl, fun _ h hlen => fun_sound (by kernel_rfl) (fn := Try.f24) (draw_sound _ _) Try.func24 rfl (by kernel_rfl : comp Try.prog 51 _ ref_EditFault_c = some ref_EditFault_c) (by kernel_rfl : cRes Try.prog Try.f24.results.toList = some ref_EditFault_r) hlen h, fun _ h => nomatch h⟩

/-- fustian/fustianref.editMade: slots [0 text, 1 e, 2 text, 3 e, 5 out, 6 i] -/
def ref_editMade_c : SCode :=
  (.seq (.ops [⟨(some 3), .box 0 (.t 1), none, false, []⟩,
    ⟨(some 4), .mov (.c (.str [])), none, false, []⟩] none [0, 3])
  (.seq (.ops [⟨(some 5), .mov (.c (.str [])), none, false, []⟩] none [0, 3, 5])
  (.seq (.seq (.ops [⟨(some 6), .mov (.c (.int .i64 0)), none, false, []⟩] none [0, 3, 5, 6])
  (.block 0 (.loop [0, 3] [5, 6] 1
    (.seq (.seq (.ops [⟨(some 7), .mov (.t 6), none, false, []⟩,
      ⟨(some 8), .mov (.t 0), none, false, []⟩,
      ⟨(some 9), .len true (.t 8), none, false, []⟩,
      ⟨(some 10), .bin .none .leq (.t 7) (.t 9), none, false, []⟩] none [0, 3, 5, 6, 10])
    (.cond (.t 10)
      .skip
      (.exit 0)))
    (.join [0, 3, 6] [5] 1 (.block 1 (.join [0, 3, 6] [5] 1 (.seq (.ops [⟨(some 13), .mov (.t 6), none, false, []⟩,
          ⟨(some 14), .faddr 0 (.t 3), none, false, []⟩,
          ⟨(some 15), .load 1 false (.t 14), none, false, []⟩,
          ⟨(some 16), .bin .none .eql (.t 13) (.t 15), none, false, []⟩] none [0, 3, 5, 6, 16])
        (.cond (.t 16)
          (.ops [⟨(some 17), .mov (.t 5), none, false, []⟩,
            ⟨(some 18), .faddr 2 (.t 3), none, false, []⟩,
            ⟨(some 19), .load 1 false (.t 18), none, false, []⟩,
            ⟨(some 20), .bin .none .add (.t 17) (.t 19), none, false, []⟩,
            ⟨(some 5), .mov (.t 20), none, false, []⟩] none [0, 3, 5, 6])
          .skip))
      (.seq (.ops [⟨(some 21), .mov (.t 6), none, false, []⟩,
        ⟨(some 22), .mov (.t 0), none, false, []⟩,
        ⟨(some 23), .len true (.t 22), none, false, []⟩,
        ⟨(some 24), .bin .none .lss (.t 21) (.t 23), none, false, []⟩,
        ⟨(some 25), .mov (.t 24), none, true, []⟩,
        ⟨(some 26), .mov (.t 6), (some (25, true)), false, []⟩,
        ⟨(some 27), .faddr 0 (.t 3), (some (25, true)), false, []⟩,
        ⟨(some 28), .load 1 false (.t 27), (some (25, true)), false, []⟩,
        ⟨(some 29), .bin .none .lss (.t 26) (.t 28), (some (25, true)), false, []⟩,
        ⟨(some 30), .mov (.t 29), (some (25, true)), true, []⟩,
        ⟨(some 31), .mov (.t 6), (some (30, false)), false, []⟩,
        ⟨(some 32), .faddr 0 (.t 3), (some (30, false)), false, []⟩,
        ⟨(some 33), .load 1 false (.t 32), (some (30, false)), false, []⟩,
        ⟨(some 34), .faddr 1 (.t 3), (some (30, false)), false, []⟩,
        ⟨(some 35), .load 1 false (.t 34), (some (30, false)), false, []⟩,
        ⟨(some 36), .bin .none .add (.t 33) (.t 35), (some (30, false)), false, []⟩,
        ⟨(some 37), .bin .none .geq (.t 31) (.t 36), (some (30, false)), false, []⟩,
        ⟨(some 38), .pick (.t 30) (.c (.bool true)) (.t 37), (some (25, true)), false, []⟩,
        ⟨(some 39), .pick (.t 25) (.t 38) (.c (.bool false)), none, false, []⟩] none [0, 3, 5, 6, 39])
      (.cond (.t 39)
        (.ops [⟨(some 40), .mov (.t 5), none, false, []⟩,
          ⟨(some 41), .mov (.t 0), none, false, []⟩,
          ⟨(some 42), .mov (.t 6), none, false, []⟩,
          ⟨(some 43), .mov (.t 6), none, false, []⟩,
          ⟨(some 44), .bin .none .add (.t 43) (.c (.int .i64 1)), none, false, []⟩,
          ⟨(some 45), .slice 0 (.t 41) (some (.t 42)) (some (.t 44)), none, false, []⟩,
          ⟨(some 46), .bin .none .add (.t 40) (.t 45), none, false, []⟩,
          ⟨(some 5), .mov (.t 46), none, false, []⟩] none [0, 3, 5, 6])
        .skip))))
    (.ops [⟨(some 11), .mov (.t 6), none, false, []⟩,
      ⟨(some 12), .bin .none .add (.t 11) (.c (.int .i64 1)), none, false, []⟩,
      ⟨(some 6), .mov (.t 12), none, false, []⟩] none [0, 3, 5, 6]))))))
  (.seq (.ops [⟨(some 47), .mov (.t 5), none, false, []⟩,
    ⟨(some 4), .mov (.t 47), none, false, []⟩] none [4])
  .ret))))
def ref_editMade_r : List RRes := [.tmp 4]
def ref_editMade_hi : Hi := ⟨[(3, (.st (.cons (.int .i64) (.cons (.int .i64) (.cons .str .nil)))))], [(0, "text"), (1, "e"), (2, "text"), (3, "e"), (5, "out"), (6, "i")]⟩
def ref_editMade_an : An := (.seq .d (.seq .d (.seq (.seq .d (.loop [] [] [] .d)) .d)))
def ref_editMade_fi : Fi := ⟨48, ref_editMade_c, ref_editMade_r, ref_editMade_an, ref_editMade_hi, none⟩
theorem ref_editMade_ok : FiOk Try.prog f_ref_editMade ref_editMade_fi :=
  ⟨fun _ => by kernel_rfl, fun _ h hlen => fun_sound (by kernel_rfl) (fn := Try.f25) (draw_sound _ _) Try.func25 rfl (by kernel_rfl : comp Try.prog 48 _ ref_editMade_c = some ref_editMade_c) (by kernel_rfl : cRes Try.prog Try.f25.results.toList = some ref_editMade_r) hlen h, fun _ h => nomatch h⟩

/-- fustian/fustianref.WordsUpdate: slots [0 text, 1 words, 2 e, 3 text, 4 words, 5 e, 8 l, 9 f, 10 f] -/
def ref_WordsUpdate_c : SCode :=
  (.seq (.ops [⟨(some 5), .box 0 (.t 2), none, false, []⟩,
    ⟨(some 6), .mov (.c .nils), none, false, []⟩,
    ⟨(some 7), .mov (.c (.int .i64 0)), none, false, []⟩] none [0, 1, 5])
  (.seq (.ops [⟨(some 12), .mov (.t 0), none, false, []⟩,
    ⟨(some 13), .call f_ref_WordsAll [(.t 12)], none, false, []⟩,
    ⟨(some 11), .mov (.t 13), none, false, []⟩,
    ⟨(some 14), .extract (.t 11) 0, none, false, []⟩,
    ⟨(some 15), .extract (.t 11) 1, none, false, []⟩,
    ⟨(some 8), .mov (.t 14), none, false, []⟩,
    ⟨(some 9), .mov (.t 15), none, false, []⟩] none [0, 1, 5, 8, 9])
  (.seq (.seq (.ops [⟨(some 16), .mov (.t 9), none, false, []⟩,
    ⟨(some 17), .bin .none .neq (.t 16) (.c (.int .i64 0)), none, false, []⟩] none [0, 1, 5, 8, 9, 17])
  (.cond (.t 17)
    (.seq (.ops [⟨(some 18), .mov (.t 9), none, false, []⟩,
      ⟨(some 6), .mov (.c .nils), none, false, []⟩,
      ⟨(some 7), .mov (.t 18), none, false, []⟩] none [6, 7])
    .ret)
    .skip))
  (.seq (.seq (.ops [⟨(some 19), .mov (.t 8), none, false, []⟩,
    ⟨(some 20), .mov (.t 1), none, false, []⟩,
    ⟨(some 21), .call f_ref_SameWords [(.t 19), (.t 20)], none, false, []⟩,
    ⟨(some 22), .not (.t 21), none, false, []⟩] none [0, 5, 22])
  (.cond (.t 22)
    (.seq (.ops [⟨(some 6), .mov (.c .nils), none, false, []⟩,
      ⟨(some 7), .mov (.c (.int .i64 4)), none, false, []⟩] none [6, 7])
    .ret)
    .skip))
  (.seq (.seq (.ops [⟨(some 23), .mov (.t 0), none, false, []⟩,
    ⟨(some 24), .len true (.t 23), none, false, []⟩,
    ⟨(some 25), .load 3 true (.t 5), none, false, []⟩,
    ⟨(some 26), .call f_ref_EditFault [(.t 24), (.t 25)], none, false, []⟩,
    ⟨(some 10), .mov (.t 26), none, false, []⟩] none [0, 5, 10])
  (.seq (.ops [⟨(some 27), .mov (.t 10), none, false, []⟩,
    ⟨(some 28), .bin .none .neq (.t 27) (.c (.int .i64 0)), none, false, []⟩] none [0, 5, 10, 28])
  (.cond (.t 28)
    (.seq (.ops [⟨(some 29), .mov (.t 10), none, false, []⟩,
      ⟨(some 6), .mov (.c .nils), none, false, []⟩,
      ⟨(some 7), .mov (.t 29), none, false, []⟩] none [6, 7])
    .ret)
    .skip)))
  (.seq (.ops [⟨(some 30), .mov (.t 0), none, false, []⟩,
    ⟨(some 31), .load 3 true (.t 5), none, false, []⟩,
    ⟨(some 32), .call f_ref_editMade [(.t 30), (.t 31)], none, false, []⟩,
    ⟨(some 33), .call f_ref_WordsAll [(.t 32)], none, false, []⟩,
    ⟨(some 34), .extract (.t 33) 0, none, false, []⟩,
    ⟨(some 35), .extract (.t 33) 1, none, false, []⟩,
    ⟨(some 6), .mov (.t 34), none, false, []⟩,
    ⟨(some 7), .mov (.t 35), none, false, []⟩] none [6, 7])
  .ret))))))
def ref_WordsUpdate_r : List RRes := [.tmp 6, .tmp 7]
def ref_WordsUpdate_hi : Hi := ⟨[(5, (.st (.cons (.int .i64) (.cons (.int .i64) (.cons .str .nil)))))], [(0, "text"), (1, "words"), (2, "e"), (3, "text"), (4, "words"), (5, "e"), (8, "l"), (9, "f"), (10, "f")]⟩
def ref_WordsUpdate_an : An := .d
def ref_WordsUpdate_fi : Fi := ⟨36, ref_WordsUpdate_c, ref_WordsUpdate_r, ref_WordsUpdate_an, ref_WordsUpdate_hi, none⟩
theorem ref_WordsUpdate_ok : FiOk Try.prog f_ref_WordsUpdate ref_WordsUpdate_fi :=
  ⟨fun _ => by kernel_rfl, fun _ h hlen => fun_sound (by kernel_rfl) (fn := Try.f9) (draw_sound _ _) Try.func9 rfl (by kernel_rfl : comp Try.prog 36 _ ref_WordsUpdate_c = some ref_WordsUpdate_c) (by kernel_rfl : cRes Try.prog Try.f9.results.toList = some ref_WordsUpdate_r) hlen h, fun _ h => nomatch h⟩

/-- fustian/fustianlaw.WordsUpdates: slots [0 text, 1 l, 2 e, 3 text, 4 l, 5 e, 7 x, 8 f, 9 y, 10 g] -/
def law_WordsUpdates_c : SCode :=
  (.seq (.ops [⟨(some 5), .box 0 (.t 2), none, false, []⟩,
    ⟨(some 6), .mov (.c (.bool false)), none, false, []⟩] none [0, 1, 5])
  (.seq (.ops [⟨(some 12), .mov (.t 0), none, false, []⟩,
    ⟨(some 13), .mov (.t 1), none, false, []⟩,
    ⟨(some 14), .load 3 true (.t 5), none, false, []⟩,
    ⟨(some 15), .call f_words_Update [(.t 12), (.t 13), (.t 14)], none, false, []⟩,
    ⟨(some 11), .mov (.t 15), none, false, []⟩,
    ⟨(some 16), .extract (.t 11) 0, none, false, []⟩,
    ⟨(some 17), .extract (.t 11) 1, none, false, []⟩,
    ⟨(some 7), .mov (.t 16), none, false, []⟩,
    ⟨(some 8), .mov (.t 17), none, false, []⟩] none [0, 1, 5, 7, 8])
  (.seq (.ops [⟨(some 19), .mov (.t 0), none, false, []⟩,
    ⟨(some 20), .mov (.t 1), none, false, []⟩,
    ⟨(some 21), .load 3 true (.t 5), none, false, []⟩,
    ⟨(some 22), .call f_ref_WordsUpdate [(.t 19), (.t 20), (.t 21)], none, false, []⟩,
    ⟨(some 18), .mov (.t 22), none, false, []⟩,
    ⟨(some 23), .extract (.t 18) 0, none, false, []⟩,
    ⟨(some 24), .extract (.t 18) 1, none, false, []⟩,
    ⟨(some 9), .mov (.t 23), none, false, []⟩,
    ⟨(some 10), .mov (.t 24), none, false, []⟩] none [7, 8, 9, 10])
  (.seq (.ops [⟨(some 25), .mov (.t 7), none, false, []⟩,
    ⟨(some 26), .mov (.t 9), none, false, []⟩,
    ⟨(some 27), .call f_ref_SameWords [(.t 25), (.t 26)], none, false, []⟩,
    ⟨(some 28), .mov (.t 27), none, true, []⟩,
    ⟨(some 29), .mov (.t 8), (some (28, true)), false, []⟩,
    ⟨(some 30), .mov (.t 10), (some (28, true)), false, []⟩,
    ⟨(some 31), .bin .none .eql (.t 29) (.t 30), (some (28, true)), false, []⟩,
    ⟨(some 32), .pick (.t 28) (.t 31) (.c (.bool false)), none, false, []⟩,
    ⟨(some 6), .mov (.t 32), none, false, []⟩] none [6])
  .ret))))
def law_WordsUpdates_r : List RRes := [.tmp 6]
def law_WordsUpdates_hi : Hi := ⟨[(5, (.st (.cons (.int .i64) (.cons (.int .i64) (.cons .str .nil)))))], [(0, "text"), (1, "l"), (2, "e"), (3, "text"), (4, "l"), (5, "e"), (7, "x"), (8, "f"), (9, "y"), (10, "g")]⟩
def law_WordsUpdates_an : An := .d
def law_WordsUpdates_fi : Fi := ⟨33, law_WordsUpdates_c, law_WordsUpdates_r, law_WordsUpdates_an, law_WordsUpdates_hi, none⟩
theorem law_WordsUpdates_ok : FiOk Try.prog f_law_WordsUpdates law_WordsUpdates_fi :=
  ⟨fun _ => by kernel_rfl, fun _ h hlen => fun_sound (by kernel_rfl) (fn := Try.f4) (draw_sound _ _) Try.func4 rfl (by kernel_rfl : comp Try.prog 33 _ law_WordsUpdates_c = some law_WordsUpdates_c) (by kernel_rfl : cRes Try.prog Try.f4.results.toList = some law_WordsUpdates_r) hlen h, fun _ h => nomatch h⟩

end Go.Proofs.Ytmpmlnjiolbplaa
