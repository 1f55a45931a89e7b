/- The functions' simplified code, printed by a program of the claim's author; each is checked against the program's own code. Conditions: none. -/
import Derived.Test.YtmpmlnjiolbplaaProg
import Derived.Test.YtmpmlnjiolbplaaVyM
import Derived.Test.YtmpmlnjiolbplaaVx4
set_option linter.unusedVariables false
set_option maxRecDepth 100000
namespace Go.Proofs.Ytmpmlnjiolbplaa.R
open Go.Vc
abbrev f_gosem_cut_init : Nat := 2
abbrev f_law_WordsAlls : Nat := 3
abbrev f_law_WordsUpdates : Nat := 4
abbrev f_words_All : Nat := 5
abbrev f_ref_WordsAll : Nat := 6
abbrev f_ref_SameWords : Nat := 7
abbrev f_words_Update : Nat := 8
abbrev f_ref_WordsUpdate : Nat := 9
abbrev f_words_Of : Nat := 10
abbrev f__words_Table__List : Nat := 11
abbrev f_ref_wordAt : Nat := 12
abbrev f_sort_Slice : Nat := 13
abbrev f_ref_WordsAll_1 : Nat := 14
abbrev f_words_Update_1 : Nat := 15
abbrev f_slices_Equal___int_int_ : Nat := 16
abbrev f_slices_EqualFunc___api_Word___api_Word_api_Word_api_Word_ : Nat := 17
abbrev f_edit_Check : Nat := 18
abbrev f_words_Around : Nat := 19
abbrev f_edit_Made : Nat := 20
abbrev f_words_Each : Nat := 21
abbrev f_words_Update_2 : Nat := 22
abbrev f_slices_Sort___int_int_ : Nat := 23
abbrev f_ref_EditFault : Nat := 24
abbrev f_ref_editMade : Nat := 25
abbrev f_words_Of_1 : Nat := 26
abbrev f_slices_Sorted_string_ : Nat := 27
abbrev f_maps_Keys_words_Table_string___int_ : Nat := 28
abbrev f_slices_Clone___int_int_ : Nat := 29
abbrev f_ref_letter : Nat := 30
abbrev f_math_bits_Len : Nat := 34
abbrev f_sort_pdqsort_func : Nat := 35
abbrev f_words_part : Nat := 36
abbrev f_slices_pdqsortOrdered_int_ : Nat := 37
abbrev f_slices_Collect_string_ : Nat := 38
abbrev f_slices_Sort___string_string_ : Nat := 39
abbrev f_maps_Keys_words_Table_string___int__1 : Nat := 40
abbrev f_internal_reflectlite_Swapper_1 : Nat := 41
abbrev f_internal_reflectlite_Swapper_2 : Nat := 42
abbrev f_internal_reflectlite_Swapper_3 : Nat := 43
abbrev f_internal_reflectlite_Swapper_4 : Nat := 44
abbrev f_internal_reflectlite_Swapper_5 : Nat := 45
abbrev f_internal_reflectlite_Swapper_6 : Nat := 46
abbrev f_internal_reflectlite_Swapper_7 : Nat := 47
abbrev f_internal_reflectlite_Swapper_8 : Nat := 48
abbrev f_internal_reflectlite_Swapper_9 : Nat := 49
abbrev f_math_bits_Len32 : Nat := 50
abbrev f_math_bits_Len64 : Nat := 51
abbrev f_sort_insertionSort_func : Nat := 52
abbrev f_sort_heapSort_func : Nat := 53
abbrev f_sort_breakPatterns_func : Nat := 54
abbrev f_sort_choosePivot_func : Nat := 55
abbrev f_sort_reverseRange_func : Nat := 56
abbrev f_sort_partialInsertionSort_func : Nat := 57
abbrev f_sort_partitionEqual_func : Nat := 58
abbrev f_sort_partition_func : Nat := 59
abbrev f_slices_insertionSortOrdered_int_ : Nat := 60
abbrev f_slices_heapSortOrdered_int_ : Nat := 61
abbrev f_slices_breakPatternsOrdered_int_ : Nat := 62
abbrev f_slices_choosePivotOrdered_int_ : Nat := 63
abbrev f_slices_reverseRangeOrdered_int_ : Nat := 64
abbrev f_slices_partialInsertionSortOrdered_int_ : Nat := 65
abbrev f_cmp_Less_int_ : Nat := 66
abbrev f_slices_partitionEqualOrdered_int_ : Nat := 67
abbrev f_slices_partitionOrdered_int_ : Nat := 68
abbrev f_slices_AppendSeq___string_string_ : Nat := 69
abbrev f_slices_pdqsortOrdered_string_ : Nat := 70
abbrev f_sort_siftDown_func : Nat := 71
abbrev f_sort_nextPowerOfTwo : Nat := 72
abbrev f___sort_xorshift__Next : Nat := 73
abbrev f_sort_medianAdjacent_func : Nat := 74
abbrev f_sort_median_func : Nat := 75
abbrev f_slices_siftDownOrdered_int_ : Nat := 76
abbrev f_slices_nextPowerOfTwo : Nat := 77
abbrev f___slices_xorshift__Next : Nat := 78
abbrev f_slices_medianAdjacentOrdered_int_ : Nat := 79
abbrev f_slices_medianOrdered_int_ : Nat := 80
abbrev f_cmp_isNaN_int_ : Nat := 81
abbrev f_slices_insertionSortOrdered_string_ : Nat := 82
abbrev f_slices_heapSortOrdered_string_ : Nat := 83
abbrev f_slices_breakPatternsOrdered_string_ : Nat := 84
abbrev f_slices_choosePivotOrdered_string_ : Nat := 85
abbrev f_slices_reverseRangeOrdered_string_ : Nat := 86
abbrev f_slices_partialInsertionSortOrdered_string_ : Nat := 87
abbrev f_cmp_Less_string_ : Nat := 88
abbrev f_slices_partitionEqualOrdered_string_ : Nat := 89
abbrev f_slices_partitionOrdered_string_ : Nat := 90
abbrev f_sort_order2_func : Nat := 91
abbrev f_slices_order2Ordered_int_ : Nat := 92
abbrev f_slices_siftDownOrdered_string_ : Nat := 93
abbrev f_slices_medianAdjacentOrdered_string_ : Nat := 94
abbrev f_slices_medianOrdered_string_ : Nat := 95
abbrev f_cmp_isNaN_string_ : Nat := 96
abbrev f_slices_order2Ordered_string_ : Nat := 97

/-- fustian/fustianref.WordsAll: slots [0 text, 1 text, 4 out, 5 at, 6 w, 7 found, 8 i] -/
def ref_WordsAll_c : SCode :=
  (.seq (.ops [⟨(some 2), .mov (.c .nils), none, false, []⟩,
    ⟨(some 3), .mov (.c (.int .i64 0)), none, false, []⟩] none [0])
  (.seq (.seq (.ops [⟨(some 9), .mov (.t 0), none, false, []⟩,
    ⟨(some 10), .len true (.t 9), none, false, []⟩,
    ⟨(some 11), .bin .none .gtr (.t 10) (.c (.int .i64 600)), none, false, []⟩] none [0, 11])
  (.cond (.t 11)
    (.seq (.ops [⟨(some 2), .mov (.c .nils), none, false, []⟩,
      ⟨(some 3), .mov (.c (.int .i64 1)), none, false, []⟩] none [2, 3])
    .ret)
    .skip))
  (.seq (.ops [⟨(some 4), .alloc 0 [.nils], none, false, []⟩] none [0, 4])
  (.seq (.seq (.ops [⟨(some 12), .mov (.t 0), none, false, []⟩,
    ⟨(some 13), .len true (.t 12), none, false, []⟩,
    ⟨(some 14), .mov (.c (.int .i64 0)), none, false, []⟩] none [0, 4, 13, 14])
  (.block 0 (.loop [0, 4, 13] [14] 1
    (.seq (.ops [⟨(some 15), .bin .none .lss (.t 14) (.t 13), none, false, []⟩] none [0, 4, 13, 14, 15])
    (.seq (.cond (.t 15)
      .skip
      (.exit 0))
    (.join [0, 4, 13, 14] [] 2 (.block 1 (.seq (.ops [⟨(some 16), .mov (.t 14), none, false, []⟩,
        ⟨(some 5), .mov (.t 16), none, false, []⟩] none [0, 4, 5, 13, 14])
      (.seq (.ops [⟨(some 17), .mov (.t 0), none, false, []⟩,
        ⟨(some 18), .mov (.t 5), none, false, []⟩,
        ⟨(some 19), .call f_ref_wordAt [(.t 17), (.t 18)], none, false, []⟩,
        ⟨(some 6), .mov (.t 19), none, false, []⟩] none [0, 4, 5, 6, 13, 14])
      (.seq (.seq (.ops [⟨(some 20), .mov (.t 6), none, false, []⟩,
        ⟨(some 21), .bin .none .eql (.t 20) (.c (.str [])), none, false, []⟩] none [0, 4, 5, 6, 13, 14, 21])
      (.cond (.t 21)
        (.exit 1)
        .skip))
      (.seq (.ops [⟨(some 7), .mov (.c (.bool false)), none, false, []⟩] none [0, 4, 5, 6, 7, 13, 14])
      (.seq (.seq (.ops [⟨(some 22), .load 1 false (.t 4), none, false, []⟩,
        ⟨(some 23), .len false (.t 22), none, false, []⟩,
        ⟨(some 24), .mov (.c (.int .i64 0)), none, false, []⟩] none [0, 4, 5, 6, 7, 13, 14, 23, 24])
      (.block 2 (.loop [0, 4, 5, 6, 13, 14, 23] [7, 24] 1
        (.seq (.ops [⟨(some 25), .bin .none .lss (.t 24) (.t 23), none, false, []⟩] none [0, 4, 5, 6, 7, 13, 14, 23, 24, 25])
        (.seq (.cond (.t 25)
          .skip
          (.exit 2))
        (.join [0, 4, 5, 6, 13, 14, 23, 24] [7] 1 (.block 3 (.seq (.ops [⟨(some 26), .mov (.t 24), none, false, []⟩,
            ⟨(some 8), .mov (.t 26), none, false, []⟩] none [0, 4, 5, 6, 7, 8, 13, 14, 23, 24])
          (.seq (.ops [⟨(some 27), .load 1 false (.t 4), none, false, []⟩,
            ⟨(some 28), .mov (.t 8), none, false, []⟩,
            ⟨(some 29), .iaddr 2 none (.t 27) (.t 28), none, false, []⟩,
            ⟨(some 30), .faddr 0 (.t 29), none, false, []⟩,
            ⟨(some 31), .load 1 false (.t 30), none, false, []⟩,
            ⟨(some 32), .mov (.t 6), none, false, []⟩,
            ⟨(some 33), .bin .none .eql (.t 31) (.t 32), none, false, []⟩] none [0, 4, 5, 6, 7, 8, 13, 14, 23, 24, 33])
          (.cond (.t 33)
            (.seq (.ops [⟨(some 34), .load 1 false (.t 4), none, false, []⟩,
              ⟨(some 35), .mov (.t 8), none, false, []⟩,
              ⟨(some 36), .load 1 false (.t 4), none, false, []⟩,
              ⟨(some 37), .mov (.t 8), none, false, []⟩,
              ⟨(some 38), .iaddr 2 none (.t 36) (.t 37), none, false, []⟩,
              ⟨(some 39), .faddr 1 (.t 38), none, false, []⟩,
              ⟨(some 40), .load 1 false (.t 39), none, false, []⟩,
              ⟨(some 41), .mov (.t 5), none, false, []⟩,
              ⟨(some 42), .bslice true 1 1 [(.int .i64 0)] [(0, 1, (.t 41))], none, false, []⟩,
              ⟨(some 43), .append 1 8 (.t 40) (.t 42), none, false, [(34, 1, false, (.t 4))]⟩,
              ⟨none, .again 34 1 false (.t 4), none, false, []⟩,
              ⟨(some 44), .iaddr 2 none (.t 34) (.t 35), none, false, []⟩,
              ⟨(some 45), .faddr 1 (.t 44), none, false, []⟩,
              ⟨none, .store 1 (.t 45) (.t 43), none, false, []⟩] (some (0, 0, [0, 1, 2, 3, 4, 5, 6, 7, 8, 9, 10, 11, 12])) [0, 4, 5, 6, 13, 14, 23, 24])
            (.ops [⟨(some 7), .mov (.c (.bool true)), none, false, []⟩] none [0, 4, 5, 6, 7, 13, 14, 23, 24]))
            .skip))))
        (.ops [⟨(some 46), .bin .none .add (.t 24) (.c (.int .i64 1)), none, false, []⟩,
          ⟨(some 24), .mov (.t 46), none, false, []⟩] none [0, 4, 5, 6, 7, 13, 14, 23, 24])))))))
      (.seq (.ops [⟨(some 47), .mov (.t 7), none, false, []⟩,
        ⟨(some 48), .not (.t 47), none, false, []⟩] none [0, 4, 5, 6, 13, 14, 48])
      (.cond (.t 48)
        (.ops [⟨(some 49), .load 1 false (.t 4), none, false, []⟩,
          ⟨(some 50), .mov (.t 6), none, false, []⟩,
          ⟨(some 51), .mov (.t 5), none, false, []⟩,
          ⟨(some 52), .bslice false 1 1 [(.int .i64 0)] [(0, 1, (.t 51))], none, false, []⟩,
          ⟨(some 53), .build [(.str []), .nils] [(0, 1, (.t 50)), (1, 1, (.t 52))], none, false, []⟩,
          ⟨(some 54), .bslice true 1 2 [(.str []), .nils] [(0, 2, (.t 53))], none, false, []⟩,
          ⟨(some 55), .append 2 40 (.t 49) (.t 54), none, false, []⟩,
          ⟨none, .store 1 (.t 4) (.t 55), none, false, []⟩] none [0, 4, 13, 14])
        .skip))))))))
    (.ops [⟨(some 56), .bin .none .add (.t 14) (.c (.int .i64 1)), none, false, []⟩,
      ⟨(some 14), .mov (.t 56), none, false, []⟩] none [0, 4, 13, 14])))))))
  (.seq (.ops [⟨(some 57), .load 1 false (.t 4), none, false, []⟩,
    ⟨(some 58), .mkif 22 (.t 57), none, false, []⟩,
    ⟨(some 59), .mkfunc (.func f_ref_WordsAll_1) [] [(.t 4)], none, false, []⟩,
    ⟨(some 60), .call f_sort_Slice [(.t 58), (.t 59)], none, false, []⟩] none [4])
  (.seq (.ops [⟨(some 61), .load 1 false (.t 4), none, false, []⟩,
    ⟨(some 2), .mov (.t 61), none, false, []⟩,
    ⟨(some 3), .mov (.c (.int .i64 0)), none, false, []⟩] none [2, 3])
  .ret))))))
def ref_WordsAll_r : List RRes := [.tmp 2, .tmp 3]
def ref_WordsAll_hi : Hi := ⟨[(42, (.int .i64)), (43, (.int .i64)), (52, (.int .i64)), (54, (.st (.cons .str (.cons (.sl (.int .i64)) .nil)))), (55, (.st (.cons .str (.cons (.sl (.int .i64)) .nil)))), (4, (.sl (.st (.cons .str (.cons (.sl (.int .i64)) .nil)))))], [(0, "text"), (1, "text"), (4, "out"), (5, "at"), (6, "w"), (7, "found"), (8, "i")]⟩
def ref_WordsAll_an : An := (.seq .d (.seq .d (.seq .d (.seq (.seq .d (.loop [4] [] [] (.seq .d (.seq .d (.seq (.seq .d (.seq .d (.seq .d (.seq .d (.seq (.seq .d (.loop [4] [] [] .d)) .d))))) .d))))) .d))))
def ref_WordsAll_fi : Fi := ⟨62, ref_WordsAll_c, ref_WordsAll_r, ref_WordsAll_an, ref_WordsAll_hi, none⟩
theorem ref_WordsAll_ok : FiOk Try.prog f_ref_WordsAll ref_WordsAll_fi :=
  ⟨fun _ => by kernel_rfl, fun _ h hlen => fun_sound (by kernel_rfl) (fn := Try.f6) (draw_sound _ _) Try.func6 rfl (by kernel_rfl : comp Try.prog 62 _ ref_WordsAll_c = some ref_WordsAll_c) (by kernel_rfl : cRes Try.prog Try.f6.results.toList = some ref_WordsAll_r) hlen h, fun _ h => nomatch h⟩

/-- fustian/fustianref.WordsAll$1: slots [0 i, 1 k, 3 i, 4 k] -/
def ref_WordsAll_1_c : SCode :=
  (.seq (.ops [⟨(some 5), .mov (.c (.bool false)), none, false, []⟩] none [0, 1, 2])
  (.seq (.ops [⟨(some 6), .load 1 false (.t 2), none, false, []⟩,
    ⟨(some 7), .mov (.t 0), none, false, []⟩,
    ⟨(some 8), .iaddr 2 none (.t 6) (.t 7), none, false, []⟩,
    ⟨(some 9), .faddr 0 (.t 8), none, false, []⟩,
    ⟨(some 10), .load 1 false (.t 9), none, false, []⟩,
    ⟨(some 11), .load 1 false (.t 2), none, false, []⟩,
    ⟨(some 12), .mov (.t 1), none, false, []⟩,
    ⟨(some 13), .iaddr 2 none (.t 11) (.t 12), none, false, []⟩,
    ⟨(some 14), .faddr 0 (.t 13), none, false, []⟩,
    ⟨(some 15), .load 1 false (.t 14), none, false, []⟩,
    ⟨(some 16), .bin .none .lss (.t 10) (.t 15), none, false, []⟩,
    ⟨(some 5), .mov (.t 16), none, false, []⟩] (some (0, 0, [0, 1, 2, 3, 4, 5, 6, 7, 8, 9, 10, 11])) [5])
  .ret))
def ref_WordsAll_1_r : List RRes := [.tmp 5]
def ref_WordsAll_1_hi : Hi := ⟨[], [(0, "i"), (1, "k"), (3, "i"), (4, "k")]⟩
def ref_WordsAll_1_an : An := .d
def ref_WordsAll_1_fi : Fi := ⟨17, ref_WordsAll_1_c, ref_WordsAll_1_r, ref_WordsAll_1_an, ref_WordsAll_1_hi, none⟩
theorem ref_WordsAll_1_ok : FiOk Try.prog f_ref_WordsAll_1 ref_WordsAll_1_fi :=
  ⟨fun _ => by kernel_rfl, fun _ h hlen => fun_sound (by kernel_rfl) (fn := Try.f14) (draw_sound _ _) Try.func14 rfl (by kernel_rfl : comp Try.prog 17 _ ref_WordsAll_1_c = some ref_WordsAll_1_c) (by kernel_rfl : cRes Try.prog Try.f14.results.toList = some ref_WordsAll_1_r) hlen h, fun _ h => nomatch h⟩

end Go.Proofs.Ytmpmlnjiolbplaa.R
