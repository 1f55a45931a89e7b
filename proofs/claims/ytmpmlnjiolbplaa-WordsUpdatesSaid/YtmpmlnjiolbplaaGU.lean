/- The functions' simplified code, printed by a program of the claim's author; each is checked against the program's own code. Conditions: none. -/
import Derived.Test.YtmpmlnjiolbplaaProg
import Derived.Test.YtmpmlnjiolbplaaVyM
import Derived.Test.YtmpmlnjiolbplaaVx4
set_option linter.unusedVariables false
set_option maxRecDepth 100000
namespace Go.Proofs.Ytmpmlnjiolbplaa.U
open Go.Vc
abbrev f_gosem_cut_init : Nat := 2
abbrev f_law_WordsAlls : Nat := 3
abbrev f_law_WordsUpdates : Nat := 4
abbrev f_words_All : Nat := 5
abbrev f_ref_WordsAll : Nat := 6
abbrev f_ref_SameWords : Nat := 7
abbrev f_words_Update : Nat := 8
abbrev f_ref_WordsUpdate : Nat := 9
abbrev f_words_Of : Nat := 10
abbrev f__words_Table__List : Nat := 11
abbrev f_ref_wordAt : Nat := 12
abbrev f_sort_Slice : Nat := 13
abbrev f_ref_WordsAll_1 : Nat := 14
abbrev f_words_Update_1 : Nat := 15
abbrev f_slices_Equal___int_int_ : Nat := 16
abbrev f_slices_EqualFunc___api_Word___api_Word_api_Word_api_Word_ : Nat := 17
abbrev f_edit_Check : Nat := 18
abbrev f_words_Around : Nat := 19
abbrev f_edit_Made : Nat := 20
abbrev f_words_Each : Nat := 21
abbrev f_words_Update_2 : Nat := 22
abbrev f_slices_Sort___int_int_ : Nat := 23
abbrev f_ref_EditFault : Nat := 24
abbrev f_ref_editMade : Nat := 25
abbrev f_words_Of_1 : Nat := 26
abbrev f_slices_Sorted_string_ : Nat := 27
abbrev f_maps_Keys_words_Table_string___int_ : Nat := 28
abbrev f_slices_Clone___int_int_ : Nat := 29
abbrev f_ref_letter : Nat := 30
abbrev f_math_bits_Len : Nat := 34
abbrev f_sort_pdqsort_func : Nat := 35
abbrev f_words_part : Nat := 36
abbrev f_slices_pdqsortOrdered_int_ : Nat := 37
abbrev f_slices_Collect_string_ : Nat := 38
abbrev f_slices_Sort___string_string_ : Nat := 39
abbrev f_maps_Keys_words_Table_string___int__1 : Nat := 40
abbrev f_internal_reflectlite_Swapper_1 : Nat := 41
abbrev f_internal_reflectlite_Swapper_2 : Nat := 42
abbrev f_internal_reflectlite_Swapper_3 : Nat := 43
abbrev f_internal_reflectlite_Swapper_4 : Nat := 44
abbrev f_internal_reflectlite_Swapper_5 : Nat := 45
abbrev f_internal_reflectlite_Swapper_6 : Nat := 46
abbrev f_internal_reflectlite_Swapper_7 : Nat := 47
abbrev f_internal_reflectlite_Swapper_8 : Nat := 48
abbrev f_internal_reflectlite_Swapper_9 : Nat := 49
abbrev f_math_bits_Len32 : Nat := 50
abbrev f_math_bits_Len64 : Nat := 51
abbrev f_sort_insertionSort_func : Nat := 52
abbrev f_sort_heapSort_func : Nat := 53
abbrev f_sort_breakPatterns_func : Nat := 54
abbrev f_sort_choosePivot_func : Nat := 55
abbrev f_sort_reverseRange_func : Nat := 56
abbrev f_sort_partialInsertionSort_func : Nat := 57
abbrev f_sort_partitionEqual_func : Nat := 58
abbrev f_sort_partition_func : Nat := 59
abbrev f_slices_insertionSortOrdered_int_ : Nat := 60
abbrev f_slices_heapSortOrdered_int_ : Nat := 61
abbrev f_slices_breakPatternsOrdered_int_ : Nat := 62
abbrev f_slices_choosePivotOrdered_int_ : Nat := 63
abbrev f_slices_reverseRangeOrdered_int_ : Nat := 64
abbrev f_slices_partialInsertionSortOrdered_int_ : Nat := 65
abbrev f_cmp_Less_int_ : Nat := 66
abbrev f_slices_partitionEqualOrdered_int_ : Nat := 67
abbrev f_slices_partitionOrdered_int_ : Nat := 68
abbrev f_slices_AppendSeq___string_string_ : Nat := 69
abbrev f_slices_pdqsortOrdered_string_ : Nat := 70
abbrev f_sort_siftDown_func : Nat := 71
abbrev f_sort_nextPowerOfTwo : Nat := 72
abbrev f___sort_xorshift__Next : Nat := 73
abbrev f_sort_medianAdjacent_func : Nat := 74
abbrev f_sort_median_func : Nat := 75
abbrev f_slices_siftDownOrdered_int_ : Nat := 76
abbrev f_slices_nextPowerOfTwo : Nat := 77
abbrev f___slices_xorshift__Next : Nat := 78
abbrev f_slices_medianAdjacentOrdered_int_ : Nat := 79
abbrev f_slices_medianOrdered_int_ : Nat := 80
abbrev f_cmp_isNaN_int_ : Nat := 81
abbrev f_slices_insertionSortOrdered_string_ : Nat := 82
abbrev f_slices_heapSortOrdered_string_ : Nat := 83
abbrev f_slices_breakPatternsOrdered_string_ : Nat := 84
abbrev f_slices_choosePivotOrdered_string_ : Nat := 85
abbrev f_slices_reverseRangeOrdered_string_ : Nat := 86
abbrev f_slices_partialInsertionSortOrdered_string_ : Nat := 87
abbrev f_cmp_Less_string_ : Nat := 88
abbrev f_slices_partitionEqualOrdered_string_ : Nat := 89
abbrev f_slices_partitionOrdered_string_ : Nat := 90
abbrev f_sort_order2_func : Nat := 91
abbrev f_slices_order2Ordered_int_ : Nat := 92
abbrev f_slices_siftDownOrdered_string_ : Nat := 93
abbrev f_slices_medianAdjacentOrdered_string_ : Nat := 94
abbrev f_slices_medianOrdered_string_ : Nat := 95
abbrev f_cmp_isNaN_string_ : Nat := 96
abbrev f_slices_order2Ordered_string_ : Nat := 97

/-- fustian/words.Update: slots [0 text, 1 words, 2 e, 3 text, 4 words, 5 e, 8 same, 9 f, 10 lo, 11 hi, 12 by, 13 t, 14 _, 15 w, 16 _, 17 at, 18 made, 19 _, 20 l] -/
def words_Update_c : SCode :=
  (.seq (.ops [⟨(some 5), .box 0 (.t 2), none, false, []⟩,
    ⟨(some 6), .mov (.c .nils), none, false, []⟩,
    ⟨(some 7), .mov (.c (.int .i64 0)), none, false, []⟩] none [0, 1, 5])
  (.seq (.seq (.ops [⟨(some 21), .mov (.t 0), none, false, []⟩,
    ⟨(some 22), .len true (.t 21), none, false, []⟩,
    ⟨(some 23), .bin .none .gtr (.t 22) (.c (.int .i64 600)), none, false, []⟩] none [0, 1, 5, 23])
  (.cond (.t 23)
    (.seq (.ops [⟨(some 6), .mov (.c .nils), none, false, []⟩,
      ⟨(some 7), .mov (.c (.int .i64 1)), none, false, []⟩] none [6, 7])
    .ret)
    .skip))
  (.seq (.ops [⟨(some 8), .mov (.c (.fn (.func f_words_Update_1) [] [])), none, false, []⟩] none [0, 1, 5, 8])
  (.seq (.seq (.ops [⟨(some 24), .mov (.t 1), none, false, []⟩,
    ⟨(some 25), .mov (.t 0), none, false, []⟩,
    ⟨(some 26), .call f_words_Of [(.t 25)], none, false, []⟩,
    ⟨(some 27), .call f__words_Table__List [(.t 26)], none, false, []⟩,
    ⟨(some 28), .mov (.t 8), none, false, []⟩,
    ⟨(some 29), .call f_slices_EqualFunc___api_Word___api_Word_api_Word_api_Word_ [(.t 24), (.t 27), (.t 28)], none, false, []⟩,
    ⟨(some 30), .not (.t 29), none, false, []⟩] none [0, 1, 5, 30])
  (.cond (.t 30)
    (.seq (.ops [⟨(some 6), .mov (.c .nils), none, false, []⟩,
      ⟨(some 7), .mov (.c (.int .i64 4)), none, false, []⟩] none [6, 7])
    .ret)
    .skip))
  (.seq (.seq (.ops [⟨(some 31), .mov (.t 0), none, false, []⟩,
    ⟨(some 32), .len true (.t 31), none, false, []⟩,
    ⟨(some 33), .load 3 true (.t 5), none, false, []⟩,
    ⟨(some 34), .call f_edit_Check [(.t 32), (.t 33)], none, false, []⟩,
    ⟨(some 9), .mov (.t 34), none, false, []⟩] none [0, 1, 5, 9])
  (.seq (.ops [⟨(some 35), .mov (.t 9), none, false, []⟩,
    ⟨(some 36), .bin .none .neq (.t 35) (.c (.int .i64 0)), none, false, []⟩] none [0, 1, 5, 9, 36])
  (.cond (.t 36)
    (.seq (.ops [⟨(some 37), .mov (.t 9), none, false, []⟩,
      ⟨(some 6), .mov (.c .nils), none, false, []⟩,
      ⟨(some 7), .mov (.t 37), none, false, []⟩] none [6, 7])
    .ret)
    .skip)))
  (.seq (.ops [⟨(some 39), .mov (.t 0), none, false, []⟩,
    ⟨(some 40), .faddr 0 (.t 5), none, false, []⟩,
    ⟨(some 41), .load 1 false (.t 40), none, false, []⟩,
    ⟨(some 42), .faddr 0 (.t 5), none, false, []⟩,
    ⟨(some 43), .load 1 false (.t 42), none, false, []⟩,
    ⟨(some 44), .faddr 1 (.t 5), none, false, []⟩,
    ⟨(some 45), .load 1 false (.t 44), none, false, []⟩,
    ⟨(some 46), .bin .none .add (.t 43) (.t 45), none, false, []⟩,
    ⟨(some 47), .call f_words_Around [(.t 39), (.t 41), (.t 46)], none, false, []⟩,
    ⟨(some 38), .mov (.t 47), none, false, []⟩,
    ⟨(some 48), .extract (.t 38) 0, none, false, []⟩,
    ⟨(some 49), .extract (.t 38) 1, none, false, []⟩,
    ⟨(some 10), .mov (.t 48), none, false, []⟩,
    ⟨(some 11), .mov (.t 49), none, false, []⟩] none [0, 1, 5, 10, 11])
  (.seq (.ops [⟨(some 50), .faddr 2 (.t 5), none, false, []⟩,
    ⟨(some 51), .load 1 false (.t 50), none, false, []⟩,
    ⟨(some 52), .len true (.t 51), none, false, []⟩,
    ⟨(some 53), .faddr 1 (.t 5), none, false, []⟩,
    ⟨(some 54), .load 1 false (.t 53), none, false, []⟩,
    ⟨(some 55), .bin .none .sub (.t 52) (.t 54), none, false, []⟩,
    ⟨(some 12), .mov (.t 55), none, false, []⟩] none [0, 1, 5, 10, 11, 12])
  (.seq (.ops [⟨(some 56), .mkmap, none, false, []⟩,
    ⟨(some 13), .alloc 0 [.nilm], none, false, []⟩,
    ⟨none, .store 1 (.t 13) (.t 56), none, false, []⟩] none [0, 1, 5, 10, 11, 12, 13])
  (.seq (.seq (.ops [⟨(some 57), .mov (.t 1), none, false, []⟩,
    ⟨(some 58), .len false (.t 57), none, false, []⟩,
    ⟨(some 59), .mov (.c (.int .i64 0)), none, false, []⟩] none [0, 5, 10, 11, 12, 13, 57, 58, 59])
  (.block 0 (.loop [0, 5, 10, 11, 12, 13, 57, 58] [59] 3
    (.seq (.ops [⟨(some 60), .bin .none .lss (.t 59) (.t 58), none, false, []⟩] none [0, 5, 10, 11, 12, 13, 57, 58, 59, 60])
    (.seq (.cond (.t 60)
      .skip
      (.exit 0))
    (.seq (.block 1 (.seq (.ops [⟨(some 61), .iaddr 2 none (.t 57) (.t 59), none, false, []⟩,
      ⟨(some 62), .load 2 true (.t 61), none, false, []⟩,
      ⟨(some 15), .alloc 0 [(.str []), .nils], none, false, []⟩,
      ⟨none, .store 2 (.t 15) (.t 62), none, false, []⟩] none [0, 5, 10, 11, 12, 13, 15, 57, 58, 59])
    (.seq (.ops [⟨(some 63), .faddr 1 (.t 15), none, false, []⟩,
      ⟨(some 64), .load 1 false (.t 63), none, false, []⟩,
      ⟨(some 65), .len false (.t 64), none, false, []⟩,
      ⟨(some 66), .mov (.c (.int .i64 0)), none, false, []⟩] none [0, 5, 10, 11, 12, 13, 15, 57, 58, 59, 64, 65, 66])
    (.block 2 (.loop [0, 5, 10, 11, 12, 13, 15, 57, 58, 59, 64, 65] [66] 4
      (.seq (.ops [⟨(some 67), .bin .none .lss (.t 66) (.t 65), none, false, []⟩] none [0, 5, 10, 11, 12, 13, 15, 57, 58, 59, 64, 65, 66, 67])
      (.seq (.cond (.t 67)
        .skip
        (.exit 2))
      (.join [0, 5, 10, 11, 12, 13, 15, 57, 58, 59, 64, 65, 66] [] 4 (.block 3 (.seq (.ops [⟨(some 68), .iaddr 1 none (.t 64) (.t 66), none, false, []⟩,
          ⟨(some 69), .load 1 false (.t 68), none, false, []⟩,
          ⟨(some 17), .mov (.t 69), none, false, []⟩] none [0, 5, 10, 11, 12, 13, 15, 17, 57, 58, 59, 64, 65, 66])
        (.block 4 (.seq (.ops [⟨(some 71), .mov (.t 17), none, false, []⟩,
          ⟨(some 72), .mov (.t 10), none, false, []⟩,
          ⟨(some 73), .bin .none .lss (.t 71) (.t 72), none, false, []⟩,
          ⟨(some 70), .mov (.t 73), none, false, []⟩] none [0, 5, 10, 11, 12, 13, 15, 17, 57, 58, 59, 64, 65, 66, 70])
        (.cond (.t 70)
          (.ops [⟨(some 74), .load 1 false (.t 13), none, false, []⟩,
            ⟨(some 75), .faddr 0 (.t 15), none, false, []⟩,
            ⟨(some 76), .load 1 false (.t 75), none, false, []⟩,
            ⟨(some 77), .load 1 false (.t 13), none, false, []⟩,
            ⟨(some 78), .faddr 0 (.t 15), none, false, []⟩,
            ⟨(some 79), .load 1 false (.t 78), none, false, []⟩,
            ⟨(some 80), .mlook .str false .nils (.t 77) (.t 79), none, false, []⟩,
            ⟨(some 81), .mov (.t 17), none, false, []⟩,
            ⟨(some 82), .bslice true 1 1 [(.int .i64 0)] [(0, 1, (.t 81))], none, false, []⟩,
            ⟨(some 83), .append 1 8 (.t 80) (.t 82), none, false, [(74, 1, false, (.t 13)), (76, 1, false, (.t 75))]⟩,
            ⟨none, .again 74 1 false (.t 13), none, false, []⟩,
            ⟨none, .again 76 1 false (.t 75), none, false, []⟩,
            ⟨none, .mupd .str (.t 74) (.t 76) (.t 83), none, false, []⟩] (some (0, 0, [0, 1, 2, 3, 4, 5, 6, 7, 8, 9, 10])) [0, 5, 10, 11, 12, 13, 15, 57, 58, 59, 64, 65, 66])
          (.seq (.ops [⟨(some 85), .mov (.t 17), none, false, []⟩,
            ⟨(some 86), .mov (.t 11), none, false, []⟩,
            ⟨(some 87), .bin .none .geq (.t 85) (.t 86), none, false, []⟩,
            ⟨(some 84), .mov (.t 87), none, false, []⟩] none [0, 5, 10, 11, 12, 13, 15, 17, 57, 58, 59, 64, 65, 66, 84])
          (.cond (.t 84)
            (.ops [⟨(some 88), .load 1 false (.t 13), none, false, []⟩,
              ⟨(some 89), .faddr 0 (.t 15), none, false, []⟩,
              ⟨(some 90), .load 1 false (.t 89), none, false, []⟩,
              ⟨(some 91), .load 1 false (.t 13), none, false, []⟩,
              ⟨(some 92), .faddr 0 (.t 15), none, false, []⟩,
              ⟨(some 93), .load 1 false (.t 92), none, false, []⟩,
              ⟨(some 94), .mlook .str false .nils (.t 91) (.t 93), none, false, []⟩,
              ⟨(some 95), .mov (.t 17), none, false, []⟩,
              ⟨(some 96), .mov (.t 12), none, false, []⟩,
              ⟨(some 97), .bin .none .add (.t 95) (.t 96), none, false, []⟩,
              ⟨(some 98), .bslice true 1 1 [(.int .i64 0)] [(0, 1, (.t 97))], none, false, []⟩,
              ⟨(some 99), .append 1 8 (.t 94) (.t 98), none, false, [(88, 1, false, (.t 13)), (90, 1, false, (.t 89))]⟩,
              ⟨none, .again 88 1 false (.t 13), none, false, []⟩,
              ⟨none, .again 90 1 false (.t 89), none, false, []⟩,
              ⟨none, .mupd .str (.t 88) (.t 90) (.t 99), none, false, []⟩] (some (0, 0, [0, 1, 2, 3, 4, 5, 6, 7, 8, 9, 10, 11, 12])) [0, 5, 10, 11, 12, 13, 15, 57, 58, 59, 64, 65, 66])
            .skip)))))))
      (.ops [⟨(some 100), .bin .none .add (.t 66) (.c (.int .i64 1)), none, false, []⟩,
        ⟨(some 66), .mov (.t 100), none, false, []⟩] none [0, 5, 10, 11, 12, 13, 15, 57, 58, 59, 64, 65, 66])))))))))
    (.ops [⟨(some 101), .bin .none .add (.t 59) (.c (.int .i64 1)), none, false, []⟩,
      ⟨(some 59), .mov (.t 101), none, false, []⟩] none [0, 5, 10, 11, 12, 13, 57, 58, 59])))))))
  (.seq (.ops [⟨(some 102), .mov (.t 0), none, false, []⟩,
    ⟨(some 103), .load 3 true (.t 5), none, false, []⟩,
    ⟨(some 104), .call f_edit_Made [(.t 102), (.t 103)], none, false, []⟩,
    ⟨(some 18), .mov (.t 104), none, false, []⟩] none [10, 11, 12, 13, 18])
  (.seq (.ops [⟨(some 105), .mov (.t 18), none, false, []⟩,
    ⟨(some 106), .mov (.t 10), none, false, []⟩,
    ⟨(some 107), .mov (.t 11), none, false, []⟩,
    ⟨(some 108), .mov (.t 12), none, false, []⟩,
    ⟨(some 109), .bin .none .add (.t 107) (.t 108), none, false, []⟩,
    ⟨(some 110), .mkfunc (.func f_words_Update_2) [] [(.t 13)], none, false, []⟩,
    ⟨(some 111), .call f_words_Each [(.t 105), (.t 106), (.t 109), (.t 110)], none, false, []⟩] none [13])
  (.seq (.seq (.ops [⟨(some 112), .load 1 false (.t 13), none, false, []⟩,
    ⟨(some 113), .mrange (.t 112), none, false, []⟩] none [13, 113])
  (.block 5 (.loop [13, 113] [] 4
    (.seq (.ops [⟨(some 114), .mnext (.t 113), none, false, []⟩,
      ⟨(some 115), .extract (.t 114) 0, none, false, []⟩] none [13, 113, 115])
    (.seq (.cond (.t 115)
      .skip
      (.exit 5))
    (.block 6 (.seq (.ops [⟨(some 116), .mentry (.t 113), none, false, []⟩,
      ⟨(some 117), .extract (.t 116) 1, none, false, []⟩,
      ⟨(some 20), .mov (.t 117), none, false, []⟩] none [13, 20, 113])
    (.ops [⟨(some 118), .mov (.t 20), none, false, []⟩,
      ⟨(some 119), .call f_slices_Sort___int_int_ [(.t 118)], none, false, []⟩] none [13, 113]))))))))
  (.seq (.ops [⟨(some 120), .load 1 false (.t 13), none, false, []⟩,
    ⟨(some 121), .call f__words_Table__List [(.t 120)], none, false, []⟩,
    ⟨(some 6), .mov (.t 121), none, false, []⟩,
    ⟨(some 7), .mov (.c (.int .i64 0)), none, false, []⟩] none [6, 7])
  .ret)))))))))))))
def words_Update_r : List RRes := [.tmp 6, .tmp 7]
def words_Update_hi : Hi := ⟨[(82, (.int .i64)), (83, (.int .i64)), (98, (.int .i64)), (99, (.int .i64)), (5, (.st (.cons (.int .i64) (.cons (.int .i64) (.cons .str .nil))))), (15, (.st (.cons .str (.cons (.sl (.int .i64)) .nil))))], [(0, "text"), (1, "words"), (2, "e"), (3, "text"), (4, "words"), (5, "e"), (8, "same"), (9, "f"), (10, "lo"), (11, "hi"), (12, "by"), (13, "t"), (15, "w"), (17, "at"), (18, "made"), (20, "l")]⟩
def words_Update_an : An := (.seq .d (.seq .d (.seq .d (.seq .d (.seq .d (.seq .d (.seq .d (.seq .d (.seq (.seq .d (.loop [] [] [] (.seq .d (.seq .d (.seq (.seq .d (.seq .d (.loop [] [] [] .d))) .d))))) (.seq .d (.seq .d (.seq (.seq .d (.loop [] [] [] .d)) .d))))))))))))
def words_Update_fi : Fi := ⟨122, words_Update_c, words_Update_r, words_Update_an, words_Update_hi, none⟩
theorem words_Update_ok : FiOk Try.prog f_words_Update words_Update_fi :=
  ⟨fun _ => by kernel_rfl, fun _ h hlen => fun_sound (by kernel_rfl) (fn := Try.f8) (draw_sound _ _) Try.func8 rfl (by kernel_rfl : comp Try.prog 122 _ words_Update_c = some words_Update_c) (by kernel_rfl : cRes Try.prog Try.f8.results.toList = some words_Update_r) hlen h, fun _ h => nomatch h⟩

/-- fustian/words.Update$2: slots [0 word, 1 at, 3 word, 4 at] -/
def words_Update_2_c : SCode :=
  (.ops [⟨(some 5), .load 1 false (.t 2), none, false, []⟩,
    ⟨(some 6), .mov (.t 0), none, false, []⟩,
    ⟨(some 7), .load 1 false (.t 2), none, false, []⟩,
    ⟨(some 8), .mov (.t 0), none, false, []⟩,
    ⟨(some 9), .mlook .str false .nils (.t 7) (.t 8), none, false, []⟩,
    ⟨(some 10), .mov (.t 1), none, false, []⟩,
    ⟨(some 11), .bslice true 1 1 [(.int .i64 0)] [(0, 1, (.t 10))], none, false, []⟩,
    ⟨(some 12), .append 1 8 (.t 9) (.t 11), none, false, [(5, 1, false, (.t 2))]⟩,
    ⟨none, .again 5 1 false (.t 2), none, false, []⟩,
    ⟨none, .mupd .str (.t 5) (.t 6) (.t 12), none, false, []⟩] (some (0, 0, [0, 1, 2, 3, 4, 5, 6, 7, 8])) [])
def words_Update_2_r : List RRes := []
def words_Update_2_hi : Hi := ⟨[(11, (.int .i64)), (12, (.int .i64))], [(0, "word"), (1, "at"), (3, "word"), (4, "at")]⟩
def words_Update_2_an : An := .d
def words_Update_2_fi : Fi := ⟨13, words_Update_2_c, words_Update_2_r, words_Update_2_an, words_Update_2_hi, none⟩
theorem words_Update_2_ok : FiOk Try.prog f_words_Update_2 words_Update_2_fi :=
  ⟨fun _ => by kernel_rfl, fun _ h hlen => fun_sound (by kernel_rfl) (fn := Try.f22) (draw_sound _ _) Try.func22 rfl (by kernel_rfl : comp Try.prog 13 _ words_Update_2_c = some words_Update_2_c) (by kernel_rfl : cRes Try.prog Try.f22.results.toList = some words_Update_2_r) hlen h, fun _ h => nomatch h⟩

/-- slices.EqualFunc[[]fustian/api.Word,[]fustian/api.Word,fustian/api.Word,fustian/api.Word]: slots [0 s1, 1 s2, 2 eq, 3 s1, 4 s2, 5 eq, 7 i, 8 v1, 9 v2] -/
def slices_EqualFunc___api_Word___api_Word_api_Word_api_Word__c : SCode :=
  (.seq (.ops [⟨(some 6), .mov (.c (.bool false)), none, false, []⟩] none [0, 1, 2])
  (.seq (.seq (.ops [⟨(some 10), .mov (.t 0), none, false, []⟩,
    ⟨(some 11), .len false (.t 10), none, false, []⟩,
    ⟨(some 12), .mov (.t 1), none, false, []⟩,
    ⟨(some 13), .len false (.t 12), none, false, []⟩,
    ⟨(some 14), .bin .none .neq (.t 11) (.t 13), none, false, []⟩] none [0, 1, 2, 14])
  (.cond (.t 14)
    (.seq (.ops [⟨(some 6), .mov (.c (.bool false)), none, false, []⟩] none [6])
    .ret)
    .skip))
  (.seq (.seq (.ops [⟨(some 15), .mov (.t 0), none, false, []⟩,
    ⟨(some 16), .len false (.t 15), none, false, []⟩,
    ⟨(some 17), .mov (.c (.int .i64 0)), none, false, []⟩] none [1, 2, 15, 16, 17])
  (.block 0 (.loop [1, 2, 15, 16] [17] 0
    (.seq (.ops [⟨(some 18), .bin .none .lss (.t 17) (.t 16), none, false, []⟩] none [1, 2, 15, 16, 17, 18])
    (.seq (.cond (.t 18)
      .skip
      (.exit 0))
    (.seq (.block 1 (.seq (.ops [⟨(some 19), .mov (.t 17), none, false, []⟩,
      ⟨(some 20), .iaddr 2 none (.t 15) (.t 17), none, false, []⟩,
      ⟨(some 21), .load 2 true (.t 20), none, false, []⟩,
      ⟨(some 8), .alloc 0 [(.str []), .nils], none, false, []⟩,
      ⟨(some 7), .mov (.t 19), none, false, []⟩,
      ⟨none, .store 2 (.t 8) (.t 21), none, false, []⟩] none [1, 2, 7, 8, 15, 16, 17])
    (.seq (.ops [⟨(some 22), .mov (.t 1), none, false, []⟩,
      ⟨(some 23), .mov (.t 7), none, false, []⟩,
      ⟨(some 24), .iaddr 2 none (.t 22) (.t 23), none, false, []⟩,
      ⟨(some 25), .load 2 true (.t 24), none, false, []⟩,
      ⟨(some 9), .alloc 0 [(.str []), .nils], none, false, []⟩,
      ⟨none, .store 2 (.t 9) (.t 25), none, false, []⟩] none [1, 2, 8, 9, 15, 16, 17])
    (.seq (.ops [⟨(some 26), .mov (.t 2), none, false, []⟩,
      ⟨(some 27), .load 2 true (.t 8), none, false, []⟩,
      ⟨(some 28), .load 2 true (.t 9), none, false, []⟩,
      ⟨(some 29), .callv (.t 26) [(.t 27), (.t 28)], none, false, []⟩,
      ⟨(some 30), .not (.t 29), none, false, []⟩] none [1, 2, 15, 16, 17, 30])
    (.cond (.t 30)
      (.seq (.ops [⟨(some 6), .mov (.c (.bool false)), none, false, []⟩] none [6])
      .ret)
      .skip)))))
    (.ops [⟨(some 31), .bin .none .add (.t 17) (.c (.int .i64 1)), none, false, []⟩,
      ⟨(some 17), .mov (.t 31), none, false, []⟩] none [1, 2, 15, 16, 17])))))))
  (.seq (.ops [⟨(some 6), .mov (.c (.bool true)), none, false, []⟩] none [6])
  .ret))))
def slices_EqualFunc___api_Word___api_Word_api_Word_api_Word__r : List RRes := [.tmp 6]
def slices_EqualFunc___api_Word___api_Word_api_Word_api_Word__hi : Hi := ⟨[(8, (.st (.cons .str (.cons (.sl (.int .i64)) .nil)))), (9, (.st (.cons .str (.cons (.sl (.int .i64)) .nil))))], [(0, "s1"), (1, "s2"), (2, "eq"), (3, "s1"), (4, "s2"), (5, "eq"), (7, "i"), (8, "v1"), (9, "v2")]⟩
def slices_EqualFunc___api_Word___api_Word_api_Word_api_Word__an : An := (.seq .d (.seq .d (.seq (.seq .d (.loop [2] [] [] .d)) .d)))
def slices_EqualFunc___api_Word___api_Word_api_Word_api_Word__fi : Fi := ⟨32, slices_EqualFunc___api_Word___api_Word_api_Word_api_Word__c, slices_EqualFunc___api_Word___api_Word_api_Word_api_Word__r, slices_EqualFunc___api_Word___api_Word_api_Word_api_Word__an, slices_EqualFunc___api_Word___api_Word_api_Word_api_Word__hi, none⟩
theorem slices_EqualFunc___api_Word___api_Word_api_Word_api_Word__ok : FiOk Try.prog f_slices_EqualFunc___api_Word___api_Word_api_Word_api_Word_ slices_EqualFunc___api_Word___api_Word_api_Word_api_Word__fi :=
  ⟨fun _ => by kernel_rfl, fun _ h hlen => fun_sound (by kernel_rfl) (fn := Try.f17) (draw_sound _ _) Try.func17 rfl (by kernel_rfl : comp Try.prog 32 _ slices_EqualFunc___api_Word___api_Word_api_Word_api_Word__c = some slices_EqualFunc___api_Word___api_Word_api_Word_api_Word__c) (by kernel_rfl : cRes Try.prog Try.f17.results.toList = some slices_EqualFunc___api_Word___api_Word_api_Word_api_Word__r) hlen h, fun _ h => nomatch h⟩

end Go.Proofs.Ytmpmlnjiolbplaa.U
