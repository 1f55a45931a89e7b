/- The functions' simplified code, printed by a program of the claim's author; each is checked against the program's own code. Conditions: none. -/
import Derived.Test.YtkemhbclkglmbaaProg
import Derived.Test.YtkemhbclkglmbaaVyM
set_option linter.unusedVariables false
set_option maxRecDepth 100000
namespace Go.Proofs.Ytkemhbclkglmbaa
open Go.Vc
abbrev f_gosem_cut_init : Nat := 2
abbrev f_law_CursorsNorms : Nat := 3
abbrev f_law_CursorsTypes : Nat := 4
abbrev f_law_CursorsFollows : Nat := 5
abbrev f_top_TopTyped : Nat := 6
abbrev f_law_FuzzyGuesses : Nat := 7
abbrev f_law_SuffixAgains : Nat := 8
abbrev f_law_SuffixFinds : Nat := 9
abbrev f_law_SuffixSorts : Nat := 10
abbrev f_law_SuffixCommons : Nat := 11
abbrev f_law_SuffixUnlikes : Nat := 12
abbrev f_law_RopeDepths : Nat := 13
abbrev f_law_RopeMeasures : Nat := 14
abbrev f_cursors_Norm : Nat := 15
abbrev f_ref_CursorsNorm : Nat := 16
abbrev f_law_sameCursors : Nat := 17
abbrev f_cursors_Type : Nat := 18
abbrev f_ref_CursorsType : Nat := 19
abbrev f_cursors_Follow : Nat := 20
abbrev f_ref_CursorsFollow : Nat := 21
abbrev f_keep_Few : Nat := 22
abbrev f_find_All : Nat := 23
abbrev f_find_Replace : Nat := 24
abbrev f_fuzzy_Guess : Nat := 25
abbrev f_ref_FuzzyGuess : Nat := 26
abbrev f_law_sameInts : Nat := 27
abbrev f_suffix_Again : Nat := 28
abbrev f_ref_SuffixAgain : Nat := 29
abbrev f_suffix_Find : Nat := 30
abbrev f_ref_FindAll : Nat := 31
abbrev f_suffix_Sort : Nat := 32
abbrev f_ref_SuffixSort : Nat := 33
abbrev f_suffix_Common : Nat := 34
abbrev f_ref_SuffixCommon : Nat := 35
abbrev f_suffix_Unlike : Nat := 36
abbrev f_ref_SuffixUnlike : Nat := 37
abbrev f_rope_Depths : Nat := 38
abbrev f_ref_RopePlayed : Nat := 39
abbrev f_rope_Measure : Nat := 40
abbrev f_ref_PosOf : Nat := 41
abbrev f_ref_PolyOf : Nat := 42
abbrev f_cursors_fault : Nat := 43
abbrev f_cursors_norm : Nat := 44
abbrev f_ref_cursorsFault : Nat := 45
abbrev f_ref_cursorsNormed : Nat := 46
abbrev f_cursors_lo : Nat := 47
abbrev f_cursors_hi : Nat := 48
abbrev f_edit_Check : Nat := 49
abbrev f_slices_Clone___api_Cursor_api_Cursor_ : Nat := 50
abbrev f_edit_Moved : Nat := 51
abbrev f_ref_EditFault : Nat := 52
abbrev f_ref_editPlace : Nat := 53
abbrev f_keep_Picked : Nat := 54
abbrev f_find_fault : Nat := 55
abbrev f_find_In : Nat := 56
abbrev f___strings_Builder__WriteString : Nat := 57
abbrev f___strings_Builder__Len : Nat := 58
abbrev f___strings_Builder__String : Nat := 59
abbrev f_fuzzy_long : Nat := 60
abbrev f_fuzzy_far : Nat := 61
abbrev f_slices_SortFunc___int_int_ : Nat := 62
abbrev f_fuzzy_Guess_1 : Nat := 63
abbrev f_cmp_Or_int_ : Nat := 64
abbrev f_cmp_Compare_int_ : Nat := 65
abbrev f_cmp_Compare_string_ : Nat := 66
abbrev f_sort_SliceStable : Nat := 67
abbrev f_ref_FuzzyGuess_1 : Nat := 68
abbrev f_ref_farOf : Nat := 69
abbrev f_suffix_fault : Nat := 70
abbrev f_suffix_sorted : Nat := 71
abbrev f_suffix_common : Nat := 72
abbrev f_ref_beginAlike : Nat := 73
abbrev f_sort_Search : Nat := 74
abbrev f_suffix_Find_1 : Nat := 75
abbrev f_strings_HasPrefix : Nat := 76
abbrev f_slices_Sorted_int_ : Nat := 77
abbrev f_slices_Values___int_int_ : Nat := 78
abbrev f_ref_findFault : Nat := 79
abbrev f_ref_standsAt : Nat := 80
abbrev f_ref_ends : Nat := 81
abbrev f_rope_play : Nat := 82
abbrev f___rope_Rope__Deep : Nat := 83
abbrev f_ref_RopePlayed_1 : Nat := 84
abbrev f___rope_Rope__Pos : Nat := 85
abbrev f___rope_Rope__Hash : Nat := 86
abbrev f_slices_ContainsFunc___api_Cursor_api_Cursor_ : Nat := 87
abbrev f_cursors_fault_1 : Nat := 88
abbrev f_slices_SortStableFunc___api_Cursor_api_Cursor_ : Nat := 89
abbrev f_cursors_norm_1 : Nat := 90
abbrev f_cursors_both : Nat := 91
abbrev f_ref_cursorsNormed_1 : Nat := 92
abbrev f_find_border : Nat := 93
abbrev f___strings_Builder__copyCheck : Nat := 94
abbrev f_slices_ContainsFunc___string_string_ : Nat := 95
abbrev f_fuzzy_long_1 : Nat := 96
abbrev f_slices_pdqsortCmpFunc_int_ : Nat := 97
abbrev f_math_bits_Len : Nat := 98
abbrev f_cmp_isNaN_int_ : Nat := 99
abbrev f_cmp_isNaN_string_ : Nat := 100
abbrev f_sort_stable_func : Nat := 103
abbrev f_suffix_sorted_1 : Nat := 105
abbrev f_suffix_sorted_2 : Nat := 106
abbrev f_internal_stringslite_HasPrefix : Nat := 107
abbrev f_slices_Collect_int_ : Nat := 108
abbrev f_slices_Sort___int_int_ : Nat := 109
abbrev f_slices_Values___int_int__1 : Nat := 110
abbrev f_sort_Slice : Nat := 111
abbrev f_ref_ends_1 : Nat := 112
abbrev f___rope_maker__do : Nat := 113
abbrev f_poly_Of : Nat := 114
abbrev f_slices_IndexFunc___api_Cursor_api_Cursor_ : Nat := 115
abbrev f_slices_stableCmpFunc_api_Cursor_ : Nat := 116
abbrev f_slices_IndexFunc___string_string_ : Nat := 118
abbrev f_slices_insertionSortCmpFunc_int_ : Nat := 119
abbrev f_slices_heapSortCmpFunc_int_ : Nat := 120
abbrev f_slices_breakPatternsCmpFunc_int_ : Nat := 121
abbrev f_slices_choosePivotCmpFunc_int_ : Nat := 122
abbrev f_slices_reverseRangeCmpFunc_int_ : Nat := 123
abbrev f_slices_partialInsertionSortCmpFunc_int_ : Nat := 124
abbrev f_slices_partitionEqualCmpFunc_int_ : Nat := 125
abbrev f_slices_partitionCmpFunc_int_ : Nat := 126
abbrev f_math_bits_Len32 : Nat := 127
abbrev f_math_bits_Len64 : Nat := 128
abbrev f_internal_reflectlite_Swapper_1 : Nat := 129
abbrev f_internal_reflectlite_Swapper_2 : Nat := 130
abbrev f_internal_reflectlite_Swapper_3 : Nat := 131
abbrev f_internal_reflectlite_Swapper_4 : Nat := 132
abbrev f_internal_reflectlite_Swapper_5 : Nat := 133
abbrev f_internal_reflectlite_Swapper_6 : Nat := 134
abbrev f_internal_reflectlite_Swapper_7 : Nat := 135
abbrev f_internal_reflectlite_Swapper_8 : Nat := 136
abbrev f_internal_reflectlite_Swapper_9 : Nat := 137
abbrev f_sort_insertionSort_func : Nat := 138
abbrev f_sort_symMerge_func : Nat := 139
abbrev f_slices_AppendSeq___int_int_ : Nat := 140
abbrev f_slices_pdqsortOrdered_int_ : Nat := 141
abbrev f_sort_pdqsort_func : Nat := 142
abbrev f___rope_maker__fault : Nat := 143
abbrev f___rope_maker__length : Nat := 144
abbrev f___rope_maker__make : Nat := 145
abbrev f_slices_insertionSortCmpFunc_api_Cursor_ : Nat := 146
abbrev f_slices_symMergeCmpFunc_api_Cursor_ : Nat := 147
abbrev f_slices_siftDownCmpFunc_int_ : Nat := 148
abbrev f_slices_nextPowerOfTwo : Nat := 149
abbrev f___slices_xorshift__Next : Nat := 150
abbrev f_slices_medianAdjacentCmpFunc_int_ : Nat := 151
abbrev f_slices_medianCmpFunc_int_ : Nat := 152
abbrev f_sort_rotate_func : Nat := 153
abbrev f_slices_insertionSortOrdered_int_ : Nat := 154
abbrev f_slices_heapSortOrdered_int_ : Nat := 155
abbrev f_slices_breakPatternsOrdered_int_ : Nat := 156
abbrev f_slices_choosePivotOrdered_int_ : Nat := 157
abbrev f_slices_reverseRangeOrdered_int_ : Nat := 158
abbrev f_slices_partialInsertionSortOrdered_int_ : Nat := 159
abbrev f_cmp_Less_int_ : Nat := 160
abbrev f_slices_partitionEqualOrdered_int_ : Nat := 161
abbrev f_slices_partitionOrdered_int_ : Nat := 162
abbrev f_sort_heapSort_func : Nat := 163
abbrev f_sort_breakPatterns_func : Nat := 164
abbrev f_sort_choosePivot_func : Nat := 165
abbrev f_sort_reverseRange_func : Nat := 166
abbrev f_sort_partialInsertionSort_func : Nat := 167
abbrev f_sort_partitionEqual_func : Nat := 168
abbrev f_sort_partition_func : Nat := 169
abbrev f___rope_maker__there : Nat := 170
abbrev f___rope_Rope__Len : Nat := 171
abbrev f_rope_New : Nat := 172
abbrev f_rope_Join : Nat := 173
abbrev f_rope_Split : Nat := 174
abbrev f_slices_rotateCmpFunc_api_Cursor_ : Nat := 175
abbrev f_slices_order2CmpFunc_int_ : Nat := 176
abbrev f_sort_swapRange_func : Nat := 177
abbrev f_slices_siftDownOrdered_int_ : Nat := 178
abbrev f_slices_medianAdjacentOrdered_int_ : Nat := 179
abbrev f_slices_medianOrdered_int_ : Nat := 180
abbrev f_sort_siftDown_func : Nat := 181
abbrev f_sort_nextPowerOfTwo : Nat := 182
abbrev f___sort_xorshift__Next : Nat := 183
abbrev f_sort_medianAdjacent_func : Nat := 184
abbrev f_sort_median_func : Nat := 185
abbrev f_rope_leaf : Nat := 186
abbrev f_rope_node : Nat := 187
abbrev f_rope_balanced : Nat := 188
abbrev f_slices_swapRangeCmpFunc_api_Cursor_ : Nat := 189
abbrev f_slices_order2Ordered_int_ : Nat := 190
abbrev f_sort_order2_func : Nat := 191
abbrev f_pos_Of : Nat := 192
abbrev f_pos_Join : Nat := 193
abbrev f_poly_Join : Nat := 194
abbrev f_strings_Count : Nat := 195
abbrev f_strings_LastIndexByte : Nat := 196
abbrev f_pos_May : Nat := 197
abbrev f_poly_May : Nat := 198
abbrev f_unicode_utf8_RuneCountInString : Nat := 199
abbrev f_strings_Index : Nat := 201
abbrev f_internal_bytealg_LastIndexByteString : Nat := 202
abbrev f_internal_stringslite_Index : Nat := 203
abbrev f_internal_stringslite_IndexByte : Nat := 204
abbrev f_internal_bytealg_Cutover : Nat := 206
abbrev f_internal_bytealg_IndexRabinKarp_string_ : Nat := 207
abbrev f_internal_bytealg_hashStr_string_ : Nat := 209

/-- fustian/fuzzy.long: slots [0 words, 1 words] -/
def fuzzy_long_c : SCode :=
  (.seq (.ops [⟨(some 2), .mov (.c (.bool false)), none, false, []⟩] none [0])
  (.seq (.ops [⟨(some 3), .mov (.t 0), none, false, []⟩,
    ⟨(some 4), .call f_slices_ContainsFunc___string_string_ [(.t 3), (.c (.fn (.func f_fuzzy_long_1) [] []))], none, false, []⟩,
    ⟨(some 2), .mov (.t 4), none, false, []⟩] none [2])
  .ret))
def fuzzy_long_r : List RRes := [.tmp 2]
def fuzzy_long_hi : Hi := ⟨[], [(0, "words"), (1, "words")]⟩
def fuzzy_long_an : An := .d
def fuzzy_long_fi : Fi := ⟨5, fuzzy_long_c, fuzzy_long_r, fuzzy_long_an, fuzzy_long_hi, none⟩
theorem fuzzy_long_ok : FiOk Try.prog f_fuzzy_long fuzzy_long_fi :=
  ⟨fun _ => by kernel_rfl, fun _ h hlen => fun_sound (by kernel_rfl) (fn := Try.f60) (draw_sound _ _) Try.func60 rfl (by kernel_rfl : comp Try.prog 5 _ fuzzy_long_c = some fuzzy_long_c) (by kernel_rfl : cRes Try.prog Try.f60.results.toList = some fuzzy_long_r) hlen h, fun _ h => nomatch h⟩

/-- fustian/fuzzy.far: slots [0 a, 1 b, 2 a, 3 b, 5 row, 6 k, 7 i, 8 corner, 9 k, 10 change] -/
def fuzzy_far_c : SCode :=
  (.seq (.ops [⟨(some 4), .mov (.c (.int .i64 0)), none, false, []⟩] none [0, 1])
  (.seq (.ops [⟨(some 11), .mov (.t 1), none, false, []⟩,
    ⟨(some 12), .len true (.t 11), none, false, []⟩,
    ⟨(some 13), .bin .none .add (.t 12) (.c (.int .i64 1)), none, false, []⟩,
    ⟨(some 14), .mkslice 1 8 [(.int .i64 0)] (.t 13) (.t 13), none, false, []⟩,
    ⟨(some 5), .mov (.t 14), none, false, []⟩] none [0, 1, 5])
  (.seq (.seq (.ops [⟨(some 15), .mov (.t 5), none, false, []⟩,
    ⟨(some 16), .len false (.t 15), none, false, []⟩,
    ⟨(some 17), .mov (.c (.int .i64 0)), none, false, []⟩] none [0, 1, 5, 16, 17])
  (.block 0 (.loop [0, 1, 5, 16] [17] 1
    (.seq (.ops [⟨(some 18), .bin .none .lss (.t 17) (.t 16), none, false, []⟩] none [0, 1, 5, 16, 17, 18])
    (.seq (.cond (.t 18)
      .skip
      (.exit 0))
    (.seq (.block 1 (.seq (.ops [⟨(some 19), .mov (.t 17), none, false, []⟩,
      ⟨(some 6), .mov (.t 19), none, false, []⟩] none [0, 1, 5, 6, 16, 17])
    (.ops [⟨(some 20), .mov (.t 5), none, false, []⟩,
      ⟨(some 21), .mov (.t 6), none, false, []⟩,
      ⟨(some 22), .mov (.t 6), none, false, []⟩,
      ⟨(some 23), .iaddr 1 none (.t 20) (.t 21), none, false, []⟩,
      ⟨none, .store 1 (.t 23) (.t 22), none, false, []⟩] none [0, 1, 5, 16, 17])))
    (.ops [⟨(some 24), .bin .none .add (.t 17) (.c (.int .i64 1)), none, false, []⟩,
      ⟨(some 17), .mov (.t 24), none, false, []⟩] none [0, 1, 5, 16, 17])))))))
  (.seq (.seq (.ops [⟨(some 25), .mov (.t 0), none, false, []⟩,
    ⟨(some 26), .len true (.t 25), none, false, []⟩,
    ⟨(some 27), .mov (.c (.int .i64 0)), none, false, []⟩] none [0, 1, 5, 26, 27])
  (.block 2 (.loop [0, 1, 5, 26] [27] 1
    (.seq (.ops [⟨(some 28), .bin .none .lss (.t 27) (.t 26), none, false, []⟩] none [0, 1, 5, 26, 27, 28])
    (.seq (.cond (.t 28)
      .skip
      (.exit 2))
    (.seq (.block 3 (.seq (.ops [⟨(some 29), .mov (.t 27), none, false, []⟩,
      ⟨(some 7), .mov (.t 29), none, false, []⟩] none [0, 1, 5, 7, 26, 27])
    (.seq (.ops [⟨(some 30), .mov (.t 5), none, false, []⟩,
      ⟨(some 31), .iaddr 1 none (.t 30) (.c (.int .i64 0)), none, false, []⟩,
      ⟨(some 32), .load 1 false (.t 31), none, false, []⟩,
      ⟨(some 8), .mov (.t 32), none, false, []⟩] none [0, 1, 5, 7, 8, 26, 27])
    (.seq (.ops [⟨(some 33), .mov (.t 5), none, false, []⟩,
      ⟨(some 34), .mov (.t 7), none, false, []⟩,
      ⟨(some 35), .bin .none .add (.t 34) (.c (.int .i64 1)), none, false, []⟩,
      ⟨(some 36), .iaddr 1 none (.t 33) (.c (.int .i64 0)), none, false, []⟩,
      ⟨none, .store 1 (.t 36) (.t 35), none, false, []⟩] none [0, 1, 5, 7, 8, 26, 27])
    (.seq (.ops [⟨(some 37), .mov (.t 1), none, false, []⟩,
      ⟨(some 38), .len true (.t 37), none, false, []⟩,
      ⟨(some 39), .mov (.c (.int .i64 0)), none, false, []⟩] none [0, 1, 5, 7, 8, 26, 27, 38, 39])
    (.block 4 (.loop [0, 1, 5, 7, 26, 27, 38] [8, 39] 1
      (.seq (.ops [⟨(some 40), .bin .none .lss (.t 39) (.t 38), none, false, []⟩] none [0, 1, 5, 7, 8, 26, 27, 38, 39, 40])
      (.seq (.cond (.t 40)
        .skip
        (.exit 4))
      (.seq (.block 5 (.seq (.ops [⟨(some 41), .mov (.t 39), none, false, []⟩,
        ⟨(some 9), .mov (.t 41), none, false, []⟩] none [0, 1, 5, 7, 8, 9, 26, 27, 38, 39])
      (.seq (.ops [⟨(some 42), .mov (.t 8), none, false, []⟩,
        ⟨(some 10), .mov (.t 42), none, false, []⟩] none [0, 1, 5, 7, 9, 10, 26, 27, 38, 39])
      (.join [0, 1, 5, 7, 9, 26, 27, 38, 39] [10] 1 (.seq (.ops [⟨(some 43), .mov (.t 0), none, false, []⟩,
          ⟨(some 44), .mov (.t 7), none, false, []⟩,
          ⟨(some 45), .index 1 none false (.t 43) (.t 44), none, false, []⟩,
          ⟨(some 46), .mov (.t 1), none, false, []⟩,
          ⟨(some 47), .mov (.t 9), none, false, []⟩,
          ⟨(some 48), .index 1 none false (.t 46) (.t 47), none, false, []⟩,
          ⟨(some 49), .bin .none .neq (.t 45) (.t 48), none, false, []⟩] (some (0, 0, [0, 1, 2, 3, 4, 5, 6])) [0, 1, 5, 7, 9, 10, 26, 27, 38, 39, 49])
        (.cond (.t 49)
          (.ops [⟨(some 50), .mov (.t 10), none, false, []⟩,
            ⟨(some 51), .bin .none .add (.t 50) (.c (.int .i64 1)), none, false, []⟩,
            ⟨(some 10), .mov (.t 51), none, false, []⟩] none [0, 1, 5, 7, 9, 10, 26, 27, 38, 39])
          .skip))
      (.seq (.ops [⟨(some 52), .mov (.t 5), none, false, []⟩,
        ⟨(some 53), .mov (.t 9), none, false, []⟩,
        ⟨(some 54), .bin .none .add (.t 53) (.c (.int .i64 1)), none, false, []⟩,
        ⟨(some 55), .iaddr 1 none (.t 52) (.t 54), none, false, []⟩,
        ⟨(some 56), .load 1 false (.t 55), none, false, []⟩,
        ⟨(some 8), .mov (.t 56), none, false, []⟩] none [0, 1, 5, 7, 8, 9, 10, 26, 27, 38, 39])
      (.ops [⟨(some 57), .mov (.t 5), none, false, []⟩,
        ⟨(some 58), .mov (.t 9), none, false, []⟩,
        ⟨(some 59), .bin .none .add (.t 58) (.c (.int .i64 1)), none, false, []⟩,
        ⟨(some 60), .mov (.t 10), none, false, []⟩,
        ⟨(some 61), .mov (.t 5), none, false, []⟩,
        ⟨(some 62), .mov (.t 9), none, false, []⟩,
        ⟨(some 63), .iaddr 1 none (.t 61) (.t 62), none, false, []⟩,
        ⟨(some 64), .load 1 false (.t 63), none, false, []⟩,
        ⟨(some 65), .bin .none .add (.t 64) (.c (.int .i64 1)), none, false, []⟩,
        ⟨(some 66), .mov (.t 5), none, false, []⟩,
        ⟨(some 67), .mov (.t 9), none, false, []⟩,
        ⟨(some 68), .bin .none .add (.t 67) (.c (.int .i64 1)), none, false, []⟩,
        ⟨(some 69), .iaddr 1 none (.t 66) (.t 68), none, false, []⟩,
        ⟨(some 70), .load 1 false (.t 69), none, false, []⟩,
        ⟨(some 71), .bin .none .add (.t 70) (.c (.int .i64 1)), none, false, []⟩,
        ⟨(some 72), .min [(.t 60), (.t 65), (.t 71)], none, false, []⟩,
        ⟨(some 73), .iaddr 1 none (.t 57) (.t 59), none, false, []⟩,
        ⟨none, .store 1 (.t 73) (.t 72), none, false, []⟩] (some (0, 0, [0, 1, 2, 3, 4, 5, 6, 7, 8, 9, 10, 11, 12, 13, 14, 15, 16, 17])) [0, 1, 5, 7, 8, 26, 27, 38, 39]))))))
      (.ops [⟨(some 74), .bin .none .add (.t 39) (.c (.int .i64 1)), none, false, []⟩,
        ⟨(some 39), .mov (.t 74), none, false, []⟩] none [0, 1, 5, 7, 8, 26, 27, 38, 39])))))))))))
    (.ops [⟨(some 75), .bin .none .add (.t 27) (.c (.int .i64 1)), none, false, []⟩,
      ⟨(some 27), .mov (.t 75), none, false, []⟩] none [0, 1, 5, 26, 27])))))))
  (.seq (.ops [⟨(some 76), .mov (.t 5), none, false, []⟩,
    ⟨(some 77), .mov (.t 1), none, false, []⟩,
    ⟨(some 78), .len true (.t 77), none, false, []⟩,
    ⟨(some 79), .iaddr 1 none (.t 76) (.t 78), none, false, []⟩,
    ⟨(some 80), .load 1 false (.t 79), none, false, []⟩,
    ⟨(some 4), .mov (.t 80), none, false, []⟩] none [4])
  .ret)))))
def fuzzy_far_r : List RRes := [.tmp 4]
def fuzzy_far_hi : Hi := ⟨[(14, (.int .i64))], [(0, "a"), (1, "b"), (2, "a"), (3, "b"), (5, "row"), (6, "k"), (7, "i"), (8, "corner"), (9, "k"), (10, "change")]⟩
def fuzzy_far_an : An := (.seq .d (.seq .d (.seq (.seq .d (.loop [5] [] [] .d)) (.seq (.seq .d (.loop [5] [] [] (.seq .d (.seq .d (.seq (.seq .d (.seq .d (.seq .d (.seq .d (.loop [5] [] [] .d))))) .d))))) .d))))
def fuzzy_far_fi : Fi := ⟨81, fuzzy_far_c, fuzzy_far_r, fuzzy_far_an, fuzzy_far_hi, none⟩
theorem fuzzy_far_ok : FiOk Try.prog f_fuzzy_far fuzzy_far_fi :=
  ⟨fun _ => by kernel_rfl, fun _ h hlen => fun_sound (by kernel_rfl) (fn := Try.f61) (draw_sound _ _) Try.func61 rfl (by kernel_rfl : comp Try.prog 81 _ fuzzy_far_c = some fuzzy_far_c) (by kernel_rfl : cRes Try.prog Try.f61.results.toList = some fuzzy_far_r) hlen h, fun _ h => nomatch h⟩

/-- cmp.isNaN[int]: slots [0 x, 1 x] -/
def cmp_isNaN_int__c : SCode :=
  (.seq (.ops [⟨(some 2), .mov (.c (.bool false)), none, false, []⟩] none [0])
  (.seq (.ops [⟨(some 3), .mov (.t 0), none, false, []⟩,
    ⟨(some 4), .mov (.t 0), none, false, []⟩,
    ⟨(some 5), .bin .none .neq (.t 3) (.t 4), none, false, []⟩,
    ⟨(some 2), .mov (.t 5), none, false, []⟩] none [2])
  .ret))
def cmp_isNaN_int__r : List RRes := [.tmp 2]
def cmp_isNaN_int__hi : Hi := ⟨[], [(0, "x"), (1, "x")]⟩
def cmp_isNaN_int__an : An := .d
def cmp_isNaN_int__fi : Fi := ⟨6, cmp_isNaN_int__c, cmp_isNaN_int__r, cmp_isNaN_int__an, cmp_isNaN_int__hi, none⟩
theorem cmp_isNaN_int__ok : FiOk Try.prog f_cmp_isNaN_int_ cmp_isNaN_int__fi :=
  ⟨fun _ => by kernel_rfl, fun _ h hlen => fun_sound (by kernel_rfl) (fn := Try.f99) (draw_sound _ _) Try.func99 rfl (by kernel_rfl : comp Try.prog 6 _ cmp_isNaN_int__c = some cmp_isNaN_int__c) (by kernel_rfl : cRes Try.prog Try.f99.results.toList = some cmp_isNaN_int__r) hlen h, fun _ h => nomatch h⟩

/-- cmp.Compare[int]: slots [0 x, 1 y, 2 x, 3 y, 5 xNaN, 6 yNaN] -/
def cmp_Compare_int__c : SCode :=
  (.seq (.ops [⟨(some 4), .mov (.c (.int .i64 0)), none, false, []⟩] none [0, 1])
  (.seq (.ops [⟨(some 7), .mov (.t 0), none, false, []⟩,
    ⟨(some 8), .call f_cmp_isNaN_int_ [(.t 7)], none, false, []⟩,
    ⟨(some 5), .mov (.t 8), none, false, []⟩] none [0, 1, 5])
  (.seq (.ops [⟨(some 9), .mov (.t 1), none, false, []⟩,
    ⟨(some 10), .call f_cmp_isNaN_int_ [(.t 9)], none, false, []⟩,
    ⟨(some 6), .mov (.t 10), none, false, []⟩] none [0, 1, 5, 6])
  (.seq (.seq (.ops [⟨(some 11), .mov (.t 5), none, false, []⟩] none [0, 1, 6, 11])
  (.cond (.t 11)
    (.seq (.seq (.ops [⟨(some 12), .mov (.t 6), none, false, []⟩] none [12])
    (.cond (.t 12)
      (.seq (.ops [⟨(some 4), .mov (.c (.int .i64 0)), none, false, []⟩] none [4])
      .ret)
      .skip))
    (.seq (.ops [⟨(some 4), .mov (.c (.int .i64 (-1))), none, false, []⟩] none [4])
    .ret))
    .skip))
  (.seq (.seq (.ops [⟨(some 13), .mov (.t 6), none, false, []⟩] none [0, 1, 13])
  (.cond (.t 13)
    (.seq (.ops [⟨(some 4), .mov (.c (.int .i64 1)), none, false, []⟩] none [4])
    .ret)
    .skip))
  (.seq (.seq (.ops [⟨(some 14), .mov (.t 0), none, false, []⟩,
    ⟨(some 15), .mov (.t 1), none, false, []⟩,
    ⟨(some 16), .bin .none .lss (.t 14) (.t 15), none, false, []⟩] none [0, 1, 16])
  (.cond (.t 16)
    (.seq (.ops [⟨(some 4), .mov (.c (.int .i64 (-1))), none, false, []⟩] none [4])
    .ret)
    .skip))
  (.seq (.seq (.ops [⟨(some 17), .mov (.t 0), none, false, []⟩,
    ⟨(some 18), .mov (.t 1), none, false, []⟩,
    ⟨(some 19), .bin .none .gtr (.t 17) (.t 18), none, false, []⟩] none [19])
  (.cond (.t 19)
    (.seq (.ops [⟨(some 4), .mov (.c (.int .i64 1)), none, false, []⟩] none [4])
    .ret)
    .skip))
  (.seq (.ops [⟨(some 4), .mov (.c (.int .i64 0)), none, false, []⟩] none [4])
  .ret))))))))
def cmp_Compare_int__r : List RRes := [.tmp 4]
def cmp_Compare_int__hi : Hi := ⟨[], [(0, "x"), (1, "y"), (2, "x"), (3, "y"), (5, "xNaN"), (6, "yNaN")]⟩
def cmp_Compare_int__an : An := .d
def cmp_Compare_int__fi : Fi := ⟨20, cmp_Compare_int__c, cmp_Compare_int__r, cmp_Compare_int__an, cmp_Compare_int__hi, none⟩
theorem cmp_Compare_int__ok : FiOk Try.prog f_cmp_Compare_int_ cmp_Compare_int__fi :=
  ⟨fun _ => by kernel_rfl, fun _ h hlen => fun_sound (by kernel_rfl) (fn := Try.f65) (draw_sound _ _) Try.func65 rfl (by kernel_rfl : comp Try.prog 20 _ cmp_Compare_int__c = some cmp_Compare_int__c) (by kernel_rfl : cRes Try.prog Try.f65.results.toList = some cmp_Compare_int__r) hlen h, fun _ h => nomatch h⟩

/-- cmp.isNaN[string]: slots [0 x, 1 x] -/
def cmp_isNaN_string__c : SCode :=
  (.seq (.ops [⟨(some 2), .mov (.c (.bool false)), none, false, []⟩] none [0])
  (.seq (.ops [⟨(some 3), .mov (.t 0), none, false, []⟩,
    ⟨(some 4), .mov (.t 0), none, false, []⟩,
    ⟨(some 5), .bin .none .neq (.t 3) (.t 4), none, false, []⟩,
    ⟨(some 2), .mov (.t 5), none, false, []⟩] none [2])
  .ret))
def cmp_isNaN_string__r : List RRes := [.tmp 2]
def cmp_isNaN_string__hi : Hi := ⟨[], [(0, "x"), (1, "x")]⟩
def cmp_isNaN_string__an : An := .d
def cmp_isNaN_string__fi : Fi := ⟨6, cmp_isNaN_string__c, cmp_isNaN_string__r, cmp_isNaN_string__an, cmp_isNaN_string__hi, none⟩
theorem cmp_isNaN_string__ok : FiOk Try.prog f_cmp_isNaN_string_ cmp_isNaN_string__fi :=
  ⟨fun _ => by kernel_rfl, fun _ h hlen => fun_sound (by kernel_rfl) (fn := Try.f100) (draw_sound _ _) Try.func100 rfl (by kernel_rfl : comp Try.prog 6 _ cmp_isNaN_string__c = some cmp_isNaN_string__c) (by kernel_rfl : cRes Try.prog Try.f100.results.toList = some cmp_isNaN_string__r) hlen h, fun _ h => nomatch h⟩

/-- cmp.Compare[string]: slots [0 x, 1 y, 2 x, 3 y, 5 xNaN, 6 yNaN] -/
def cmp_Compare_string__c : SCode :=
  (.seq (.ops [⟨(some 4), .mov (.c (.int .i64 0)), none, false, []⟩] none [0, 1])
  (.seq (.ops [⟨(some 7), .mov (.t 0), none, false, []⟩,
    ⟨(some 8), .call f_cmp_isNaN_string_ [(.t 7)], none, false, []⟩,
    ⟨(some 5), .mov (.t 8), none, false, []⟩] none [0, 1, 5])
  (.seq (.ops [⟨(some 9), .mov (.t 1), none, false, []⟩,
    ⟨(some 10), .call f_cmp_isNaN_string_ [(.t 9)], none, false, []⟩,
    ⟨(some 6), .mov (.t 10), none, false, []⟩] none [0, 1, 5, 6])
  (.seq (.seq (.ops [⟨(some 11), .mov (.t 5), none, false, []⟩] none [0, 1, 6, 11])
  (.cond (.t 11)
    (.seq (.seq (.ops [⟨(some 12), .mov (.t 6), none, false, []⟩] none [12])
    (.cond (.t 12)
      (.seq (.ops [⟨(some 4), .mov (.c (.int .i64 0)), none, false, []⟩] none [4])
      .ret)
      .skip))
    (.seq (.ops [⟨(some 4), .mov (.c (.int .i64 (-1))), none, false, []⟩] none [4])
    .ret))
    .skip))
  (.seq (.seq (.ops [⟨(some 13), .mov (.t 6), none, false, []⟩] none [0, 1, 13])
  (.cond (.t 13)
    (.seq (.ops [⟨(some 4), .mov (.c (.int .i64 1)), none, false, []⟩] none [4])
    .ret)
    .skip))
  (.seq (.seq (.ops [⟨(some 14), .mov (.t 0), none, false, []⟩,
    ⟨(some 15), .mov (.t 1), none, false, []⟩,
    ⟨(some 16), .bin .none .lss (.t 14) (.t 15), none, false, []⟩] none [0, 1, 16])
  (.cond (.t 16)
    (.seq (.ops [⟨(some 4), .mov (.c (.int .i64 (-1))), none, false, []⟩] none [4])
    .ret)
    .skip))
  (.seq (.seq (.ops [⟨(some 17), .mov (.t 0), none, false, []⟩,
    ⟨(some 18), .mov (.t 1), none, false, []⟩,
    ⟨(some 19), .bin .none .gtr (.t 17) (.t 18), none, false, []⟩] none [19])
  (.cond (.t 19)
    (.seq (.ops [⟨(some 4), .mov (.c (.int .i64 1)), none, false, []⟩] none [4])
    .ret)
    .skip))
  (.seq (.ops [⟨(some 4), .mov (.c (.int .i64 0)), none, false, []⟩] none [4])
  .ret))))))))
def cmp_Compare_string__r : List RRes := [.tmp 4]
def cmp_Compare_string__hi : Hi := ⟨[], [(0, "x"), (1, "y"), (2, "x"), (3, "y"), (5, "xNaN"), (6, "yNaN")]⟩
def cmp_Compare_string__an : An := .d
def cmp_Compare_string__fi : Fi := ⟨20, cmp_Compare_string__c, cmp_Compare_string__r, cmp_Compare_string__an, cmp_Compare_string__hi, none⟩
theorem cmp_Compare_string__ok : FiOk Try.prog f_cmp_Compare_string_ cmp_Compare_string__fi :=
  ⟨fun _ => by kernel_rfl, fun _ h hlen => fun_sound (by kernel_rfl) (fn := Try.f66) (draw_sound _ _) Try.func66 rfl (by kernel_rfl : comp Try.prog 20 _ cmp_Compare_string__c = some cmp_Compare_string__c) (by kernel_rfl : cRes Try.prog Try.f66.results.toList = some cmp_Compare_string__r) hlen h, fun _ h => nomatch h⟩

/-- cmp.Or[int]: slots [0 vals, 1 vals, 3 zero, 4 _, 5 val] -/
def cmp_Or_int__c : SCode :=
  (.seq (.ops [⟨(some 2), .mov (.c (.int .i64 0)), none, false, []⟩] none [0])
  (.seq (.ops [⟨(some 3), .mov (.c (.int .i64 0)), none, false, []⟩] none [0, 3])
  (.seq (.seq (.ops [⟨(some 6), .mov (.t 0), none, false, []⟩,
    ⟨(some 7), .len false (.t 6), none, false, []⟩,
    ⟨(some 8), .mov (.c (.int .i64 0)), none, false, []⟩] none [3, 6, 7, 8])
  (.block 0 (.loop [3, 6, 7] [8] 0
    (.seq (.ops [⟨(some 9), .bin .none .lss (.t 8) (.t 7), none, false, []⟩] none [3, 6, 7, 8, 9])
    (.seq (.cond (.t 9)
      .skip
      (.exit 0))
    (.seq (.block 1 (.seq (.ops [⟨(some 10), .iaddr 1 none (.t 6) (.t 8), none, false, []⟩,
      ⟨(some 11), .load 1 false (.t 10), none, false, []⟩,
      ⟨(some 5), .mov (.t 11), none, false, []⟩] none [3, 5, 6, 7, 8])
    (.seq (.ops [⟨(some 12), .mov (.t 5), none, false, []⟩,
      ⟨(some 13), .mov (.t 3), none, false, []⟩,
      ⟨(some 14), .bin .none .neq (.t 12) (.t 13), none, false, []⟩] none [3, 5, 6, 7, 8, 14])
    (.cond (.t 14)
      (.seq (.ops [⟨(some 15), .mov (.t 5), none, false, []⟩,
        ⟨(some 2), .mov (.t 15), none, false, []⟩] none [2])
      .ret)
      .skip))))
    (.ops [⟨(some 16), .bin .none .add (.t 8) (.c (.int .i64 1)), none, false, []⟩,
      ⟨(some 8), .mov (.t 16), none, false, []⟩] none [3, 6, 7, 8])))))))
  (.seq (.ops [⟨(some 17), .mov (.t 3), none, false, []⟩,
    ⟨(some 2), .mov (.t 17), none, false, []⟩] none [2])
  .ret))))
def cmp_Or_int__r : List RRes := [.tmp 2]
def cmp_Or_int__hi : Hi := ⟨[], [(0, "vals"), (1, "vals"), (3, "zero"), (5, "val")]⟩
def cmp_Or_int__an : An := (.seq .d (.seq .d (.seq (.seq .d (.loop [] [] [] .d)) .d)))
def cmp_Or_int__fi : Fi := ⟨18, cmp_Or_int__c, cmp_Or_int__r, cmp_Or_int__an, cmp_Or_int__hi, none⟩
theorem cmp_Or_int__ok : FiOk Try.prog f_cmp_Or_int_ cmp_Or_int__fi :=
  ⟨fun _ => by kernel_rfl, fun _ h hlen => fun_sound (by kernel_rfl) (fn := Try.f64) (draw_sound _ _) Try.func64 rfl (by kernel_rfl : comp Try.prog 18 _ cmp_Or_int__c = some cmp_Or_int__c) (by kernel_rfl : cRes Try.prog Try.f64.results.toList = some cmp_Or_int__r) hlen h, fun _ h => nomatch h⟩

/-- fustian/fuzzy.Guess$1: slots [0 a, 1 b, 4 a, 5 b] -/
def fuzzy_Guess_1_c : SCode :=
  (.seq (.ops [⟨(some 6), .mov (.c (.int .i64 0)), none, false, []⟩] none [0, 1, 2, 3])
  (.seq (.ops [⟨(some 7), .load 1 false (.t 2), none, false, []⟩,
    ⟨(some 8), .mov (.t 0), none, false, []⟩,
    ⟨(some 9), .iaddr 1 none (.t 7) (.t 8), none, false, []⟩,
    ⟨(some 10), .load 1 false (.t 9), none, false, []⟩,
    ⟨(some 11), .load 1 false (.t 2), none, false, []⟩,
    ⟨(some 12), .mov (.t 1), none, false, []⟩,
    ⟨(some 13), .iaddr 1 none (.t 11) (.t 12), none, false, []⟩,
    ⟨(some 14), .load 1 false (.t 13), none, false, []⟩,
    ⟨(some 16), .load 1 false (.t 3), none, false, []⟩,
    ⟨(some 17), .mov (.t 0), none, false, []⟩,
    ⟨(some 18), .iaddr 1 none (.t 16) (.t 17), none, false, []⟩,
    ⟨(some 19), .load 1 false (.t 18), none, false, []⟩,
    ⟨(some 20), .load 1 false (.t 3), none, false, []⟩,
    ⟨(some 21), .mov (.t 1), none, false, []⟩,
    ⟨(some 22), .iaddr 1 none (.t 20) (.t 21), none, false, []⟩,
    ⟨(some 23), .load 1 false (.t 22), none, false, []⟩,
    ⟨(some 25), .mov (.t 0), none, false, []⟩,
    ⟨(some 26), .mov (.t 1), none, false, []⟩,
    ⟨(some 15), .call f_cmp_Compare_int_ [(.t 10), (.t 14)], none, false, []⟩,
    ⟨(some 24), .call f_cmp_Compare_string_ [(.t 19), (.t 23)], none, false, []⟩,
    ⟨(some 27), .call f_cmp_Compare_int_ [(.t 25), (.t 26)], none, false, []⟩,
    ⟨(some 28), .bslice true 3 1 [(.int .i64 0), (.int .i64 0), (.int .i64 0)] [(0, 1, (.t 15)), (1, 1, (.t 24)), (2, 1, (.t 27))], none, false, []⟩,
    ⟨(some 29), .call f_cmp_Or_int_ [(.t 28)], none, false, []⟩,
    ⟨(some 6), .mov (.t 29), none, false, []⟩] (some (19, 0, [0, 1, 2, 3, 4, 5, 6, 7, 9, 10, 11, 12, 13, 14, 15, 16, 18, 19, 8, 17, 20, 21, 22, 23])) [6])
  .ret))
def fuzzy_Guess_1_r : List RRes := [.tmp 6]
def fuzzy_Guess_1_hi : Hi := ⟨[(28, (.int .i64))], [(0, "a"), (1, "b"), (4, "a"), (5, "b")]⟩
def fuzzy_Guess_1_an : An := .d
def fuzzy_Guess_1_fi : Fi := ⟨30, fuzzy_Guess_1_c, fuzzy_Guess_1_r, fuzzy_Guess_1_an, fuzzy_Guess_1_hi, none⟩
theorem fuzzy_Guess_1_ok : FiOk Try.prog f_fuzzy_Guess_1 fuzzy_Guess_1_fi :=
  ⟨fun _ => by kernel_rfl, fun _ h hlen => fun_sound (by kernel_rfl) (fn := Try.f63) (draw_sound _ _) Try.func63 rfl (by kernel_rfl : comp Try.prog 30 _ fuzzy_Guess_1_c = some fuzzy_Guess_1_c) (by kernel_rfl : cRes Try.prog Try.f63.results.toList = some fuzzy_Guess_1_r) hlen h, fun _ h => nomatch h⟩

/-- slices.SortFunc[[]int,int]: slots [0 x, 1 cmp, 2 x, 3 cmp, 4 n] -/
def slices_SortFunc___int_int__c : SCode :=
  (.seq (.ops [⟨(some 5), .mov (.t 0), none, false, []⟩,
    ⟨(some 6), .len false (.t 5), none, false, []⟩,
    ⟨(some 4), .mov (.t 6), none, false, []⟩] none [0, 1, 4])
  (.ops [⟨(some 7), .mov (.t 0), none, false, []⟩,
    ⟨(some 8), .mov (.t 4), none, false, []⟩,
    ⟨(some 9), .mov (.t 4), none, false, []⟩,
    ⟨(some 10), .conv .u64 (.t 9), none, false, []⟩,
    ⟨(some 11), .call f_math_bits_Len [(.t 10)], none, false, []⟩,
    ⟨(some 12), .mov (.t 1), none, false, []⟩,
    ⟨(some 13), .call f_slices_pdqsortCmpFunc_int_ [(.t 7), (.c (.int .i64 0)), (.t 8), (.t 11), (.t 12)], none, false, []⟩] none []))
def slices_SortFunc___int_int__r : List RRes := []
def slices_SortFunc___int_int__hi : Hi := ⟨[], [(0, "x"), (1, "cmp"), (2, "x"), (3, "cmp"), (4, "n")]⟩
def slices_SortFunc___int_int__an : An := .d
def slices_SortFunc___int_int__fi : Fi := ⟨14, slices_SortFunc___int_int__c, slices_SortFunc___int_int__r, slices_SortFunc___int_int__an, slices_SortFunc___int_int__hi, none⟩
theorem slices_SortFunc___int_int__ok : FiOk Try.prog f_slices_SortFunc___int_int_ slices_SortFunc___int_int__fi :=
  ⟨fun _ => by kernel_rfl, fun _ h hlen => fun_sound (by kernel_rfl) (fn := Try.f62) (draw_sound _ _) Try.func62 rfl (by kernel_rfl : comp Try.prog 14 _ slices_SortFunc___int_int__c = some slices_SortFunc___int_int__c) (by kernel_rfl : cRes Try.prog Try.f62.results.toList = some slices_SortFunc___int_int__r) hlen h, fun _ h => nomatch h⟩

/-- fustian/fuzzy.Guess: slots [0 words, 1 word, 2 many, 3 words, 4 word, 5 many, 8 out, 9 fars, 10 i, 11 w] -/
def fuzzy_Guess_c : SCode :=
  (.seq (.ops [⟨(some 3), .box 0 (.t 0), none, false, []⟩,
    ⟨(some 6), .mov (.c .nils), none, false, []⟩,
    ⟨(some 7), .mov (.c (.int .i64 0)), none, false, []⟩] none [1, 2, 3])
  (.seq (.block 0 (.seq (.ops [⟨(some 13), .mov (.t 1), none, false, []⟩,
    ⟨(some 14), .bslice true 1 1 [(.str [])] [(0, 1, (.t 13))], none, false, []⟩,
    ⟨(some 15), .call f_fuzzy_long [(.t 14)], none, false, []⟩,
    ⟨(some 16), .mov (.t 15), none, true, []⟩,
    ⟨(some 17), .load 1 false (.t 3), (some (16, false)), false, []⟩,
    ⟨(some 18), .call f_fuzzy_long [(.t 17)], (some (16, false)), false, []⟩,
    ⟨(some 19), .pick (.t 16) (.c (.bool true)) (.t 18), none, false, []⟩,
    ⟨(some 20), .mov (.t 19), none, true, []⟩,
    ⟨(some 21), .load 1 false (.t 3), (some (20, false)), false, []⟩,
    ⟨(some 22), .len false (.t 21), (some (20, false)), false, []⟩,
    ⟨(some 23), .bin .none .gtr (.t 22) (.c (.int .i64 80)), (some (20, false)), false, []⟩,
    ⟨(some 24), .pick (.t 20) (.c (.bool true)) (.t 23), none, false, []⟩,
    ⟨(some 12), .mov (.t 24), none, false, []⟩] none [1, 2, 3, 12])
  (.cond (.t 12)
    (.seq (.ops [⟨(some 6), .mov (.c .nils), none, false, []⟩,
      ⟨(some 7), .mov (.c (.int .i64 1)), none, false, []⟩] none [6, 7])
    .ret)
    (.seq (.ops [⟨(some 26), .mov (.t 2), none, false, []⟩,
      ⟨(some 27), .bin .none .lss (.t 26) (.c (.int .i64 0)), none, false, []⟩,
      ⟨(some 25), .mov (.t 27), none, false, []⟩] none [1, 2, 3, 25])
    (.cond (.t 25)
      (.seq (.ops [⟨(some 6), .mov (.c .nils), none, false, []⟩,
        ⟨(some 7), .mov (.c (.int .i64 2)), none, false, []⟩] none [6, 7])
      .ret)
      .skip)))))
  (.seq (.ops [⟨(some 8), .newnil 1, none, false, []⟩] none [1, 2, 3, 8])
  (.seq (.ops [⟨(some 28), .load 1 false (.t 3), none, false, []⟩,
    ⟨(some 29), .len false (.t 28), none, false, []⟩,
    ⟨(some 30), .mkslice 1 8 [(.int .i64 0)] (.t 29) (.t 29), none, false, []⟩,
    ⟨(some 9), .alloc 0 [.nils], none, false, []⟩,
    ⟨none, .store 1 (.t 9) (.t 30), none, false, []⟩] none [1, 2, 3, 8, 9])
  (.seq (.seq (.ops [⟨(some 31), .load 1 false (.t 3), none, false, []⟩,
    ⟨(some 32), .len false (.t 31), none, false, []⟩,
    ⟨(some 33), .mov (.c (.int .i64 0)), none, false, []⟩] none [1, 2, 3, 8, 9, 31, 32, 33])
  (.block 1 (.loop [1, 2, 3, 9, 31, 32] [8, 33] 4
    (.seq (.ops [⟨(some 34), .bin .none .lss (.t 33) (.t 32), none, false, []⟩] none [1, 2, 3, 8, 9, 31, 32, 33, 34])
    (.seq (.cond (.t 34)
      .skip
      (.exit 1))
    (.seq (.block 2 (.seq (.ops [⟨(some 35), .mov (.t 33), none, false, []⟩,
      ⟨(some 36), .iaddr 1 none (.t 31) (.t 33), none, false, []⟩,
      ⟨(some 37), .load 1 false (.t 36), none, false, []⟩,
      ⟨(some 10), .mov (.t 35), none, false, []⟩,
      ⟨(some 11), .mov (.t 37), none, false, []⟩] none [1, 2, 3, 8, 9, 10, 11, 31, 32, 33])
    (.seq (.ops [⟨(some 38), .mov (.t 8), none, false, []⟩,
      ⟨(some 39), .mov (.t 10), none, false, []⟩,
      ⟨(some 40), .bslice true 1 1 [(.int .i64 0)] [(0, 1, (.t 39))], none, false, []⟩,
      ⟨(some 41), .append 1 8 (.t 38) (.t 40), none, false, []⟩,
      ⟨(some 8), .mov (.t 41), none, false, []⟩] none [1, 2, 3, 8, 9, 10, 11, 31, 32, 33])
    (.ops [⟨(some 42), .load 1 false (.t 9), none, false, []⟩,
      ⟨(some 43), .mov (.t 10), none, false, []⟩,
      ⟨(some 44), .mov (.t 11), none, false, []⟩,
      ⟨(some 45), .mov (.t 1), none, false, []⟩,
      ⟨(some 46), .call f_fuzzy_far [(.t 44), (.t 45)], none, false, []⟩,
      ⟨(some 47), .iaddr 1 none (.t 42) (.t 43), none, false, []⟩,
      ⟨none, .store 1 (.t 47) (.t 46), none, false, []⟩] (some (5, 0, [0, 1, 2, 3, 4, 5, 6])) [1, 2, 3, 8, 9, 31, 32, 33]))))
    (.ops [⟨(some 48), .bin .none .add (.t 33) (.c (.int .i64 1)), none, false, []⟩,
      ⟨(some 33), .mov (.t 48), none, false, []⟩] none [1, 2, 3, 8, 9, 31, 32, 33])))))))
  (.seq (.ops [⟨(some 49), .mov (.t 8), none, false, []⟩,
    ⟨(some 50), .mkfunc (.func f_fuzzy_Guess_1) [] [(.t 9), (.t 3)], none, false, []⟩,
    ⟨(some 51), .call f_slices_SortFunc___int_int_ [(.t 49), (.t 50)], none, false, []⟩] none [2, 8])
  (.seq (.ops [⟨(some 52), .mov (.t 8), none, false, []⟩,
    ⟨(some 53), .mov (.t 2), none, false, []⟩,
    ⟨(some 54), .mov (.t 8), none, false, []⟩,
    ⟨(some 55), .len false (.t 54), none, false, []⟩,
    ⟨(some 56), .min [(.t 53), (.t 55)], none, false, []⟩,
    ⟨(some 57), .slice 1 (.t 52) none (some (.t 56)), none, false, []⟩,
    ⟨(some 6), .mov (.t 57), none, false, []⟩,
    ⟨(some 7), .mov (.c (.int .i64 0)), none, false, []⟩] none [6, 7])
  .ret)))))))
def fuzzy_Guess_r : List RRes := [.tmp 6, .tmp 7]
def fuzzy_Guess_hi : Hi := ⟨[(14, .str), (8, (.int .i64)), (30, (.int .i64)), (40, (.int .i64)), (41, (.int .i64)), (3, (.sl .str)), (9, (.sl (.int .i64)))], [(0, "words"), (1, "word"), (2, "many"), (3, "words"), (4, "word"), (5, "many"), (8, "out"), (9, "fars"), (10, "i"), (11, "w")]⟩
def fuzzy_Guess_an : An := (.seq .d (.seq .d (.seq .d (.seq .d (.seq (.seq .d (.loop [8, 9] [] [] .d)) .d)))))
def fuzzy_Guess_fi : Fi := ⟨58, fuzzy_Guess_c, fuzzy_Guess_r, fuzzy_Guess_an, fuzzy_Guess_hi, none⟩
theorem fuzzy_Guess_ok : FiOk Try.prog f_fuzzy_Guess fuzzy_Guess_fi :=
  ⟨fun _ => by kernel_rfl, fun _ h hlen => fun_sound (by kernel_rfl) (fn := Try.f25) (draw_sound _ _) Try.func25 rfl (by kernel_rfl : comp Try.prog 58 _ fuzzy_Guess_c = some fuzzy_Guess_c) (by kernel_rfl : cRes Try.prog Try.f25.results.toList = some fuzzy_Guess_r) hlen h, fun _ h => nomatch h⟩

/-- fustian/fustianref.farOf: slots [0 a, 1 b, 2 a, 3 b, 5 t, 6 i, 7 k] -/
def ref_farOf_c : SCode :=
  (.seq (.ops [⟨(some 4), .mov (.c (.int .i64 0)), none, false, []⟩] none [0, 1])
  (.seq (.ops [⟨(some 8), .mov (.t 0), none, false, []⟩,
    ⟨(some 9), .len true (.t 8), none, false, []⟩,
    ⟨(some 10), .bin .none .add (.t 9) (.c (.int .i64 1)), none, false, []⟩,
    ⟨(some 11), .mkslice 1 24 [.nils] (.t 10) (.t 10), none, false, []⟩,
    ⟨(some 5), .mov (.t 11), none, false, []⟩] none [0, 1, 5])
  (.seq (.seq (.ops [⟨(some 12), .mov (.t 5), none, false, []⟩,
    ⟨(some 13), .len false (.t 12), none, false, []⟩,
    ⟨(some 14), .mov (.c (.int .i64 0)), none, false, []⟩] none [0, 1, 5, 13, 14])
  (.block 0 (.loop [0, 1, 5, 13] [14] 1
    (.seq (.ops [⟨(some 15), .bin .none .lss (.t 14) (.t 13), none, false, []⟩] none [0, 1, 5, 13, 14, 15])
    (.seq (.cond (.t 15)
      .skip
      (.exit 0))
    (.seq (.block 1 (.seq (.ops [⟨(some 16), .mov (.t 14), none, false, []⟩,
      ⟨(some 6), .mov (.t 16), none, false, []⟩] none [0, 1, 5, 6, 13, 14])
    (.seq (.ops [⟨(some 17), .mov (.t 5), none, false, []⟩,
      ⟨(some 18), .mov (.t 6), none, false, []⟩,
      ⟨(some 19), .mov (.t 1), none, false, []⟩,
      ⟨(some 20), .len true (.t 19), none, false, []⟩,
      ⟨(some 21), .bin .none .add (.t 20) (.c (.int .i64 1)), none, false, []⟩,
      ⟨(some 22), .mkslice 1 8 [(.int .i64 0)] (.t 21) (.t 21), none, false, []⟩,
      ⟨(some 23), .iaddr 1 none (.t 17) (.t 18), none, false, []⟩,
      ⟨none, .store 1 (.t 23) (.t 22), none, false, []⟩] none [0, 1, 5, 6, 13, 14])
    (.seq (.ops [⟨(some 24), .mov (.t 5), none, false, []⟩,
      ⟨(some 25), .mov (.t 6), none, false, []⟩,
      ⟨(some 26), .iaddr 1 none (.t 24) (.t 25), none, false, []⟩,
      ⟨(some 27), .load 1 false (.t 26), none, false, []⟩,
      ⟨(some 28), .len false (.t 27), none, false, []⟩,
      ⟨(some 29), .mov (.c (.int .i64 0)), none, false, []⟩] none [0, 1, 5, 6, 13, 14, 28, 29])
    (.block 2 (.loop [0, 1, 5, 6, 13, 14, 28] [29] 2
      (.seq (.ops [⟨(some 30), .bin .none .lss (.t 29) (.t 28), none, false, []⟩] none [0, 1, 5, 6, 13, 14, 28, 29, 30])
      (.seq (.cond (.t 30)
        .skip
        (.exit 2))
      (.join [0, 1, 5, 6, 13, 14, 28, 29] [] 2 (.block 3 (.seq (.ops [⟨(some 31), .mov (.t 29), none, false, []⟩,
          ⟨(some 7), .mov (.t 31), none, false, []⟩] none [0, 1, 5, 6, 7, 13, 14, 28, 29])
        (.block 4 (.seq (.ops [⟨(some 66), .mov (.t 6), none, false, []⟩,
          ⟨(some 67), .bin .none .eql (.t 66) (.c (.int .i64 0)), none, false, []⟩,
          ⟨(some 65), .mov (.t 67), none, false, []⟩] none [0, 1, 5, 6, 7, 13, 14, 28, 29, 65])
        (.cond (.t 65)
          (.ops [⟨(some 68), .mov (.t 5), none, false, []⟩,
            ⟨(some 69), .mov (.t 6), none, false, []⟩,
            ⟨(some 70), .iaddr 1 none (.t 68) (.t 69), none, false, []⟩,
            ⟨(some 71), .load 1 false (.t 70), none, false, []⟩,
            ⟨(some 72), .mov (.t 7), none, false, []⟩,
            ⟨(some 73), .mov (.t 7), none, false, []⟩,
            ⟨(some 74), .iaddr 1 none (.t 71) (.t 72), none, false, []⟩,
            ⟨none, .store 1 (.t 74) (.t 73), none, false, []⟩] none [0, 1, 5, 6, 13, 14, 28, 29])
          (.seq (.ops [⟨(some 76), .mov (.t 7), none, false, []⟩,
            ⟨(some 77), .bin .none .eql (.t 76) (.c (.int .i64 0)), none, false, []⟩,
            ⟨(some 75), .mov (.t 77), none, false, []⟩] none [0, 1, 5, 6, 7, 13, 14, 28, 29, 75])
          (.cond (.t 75)
            (.ops [⟨(some 78), .mov (.t 5), none, false, []⟩,
              ⟨(some 79), .mov (.t 6), none, false, []⟩,
              ⟨(some 80), .iaddr 1 none (.t 78) (.t 79), none, false, []⟩,
              ⟨(some 81), .load 1 false (.t 80), none, false, []⟩,
              ⟨(some 82), .mov (.t 7), none, false, []⟩,
              ⟨(some 83), .mov (.t 6), none, false, []⟩,
              ⟨(some 84), .iaddr 1 none (.t 81) (.t 82), none, false, []⟩,
              ⟨none, .store 1 (.t 84) (.t 83), none, false, []⟩] none [0, 1, 5, 6, 13, 14, 28, 29])
            (.seq (.ops [⟨(some 86), .mov (.t 0), none, false, []⟩,
              ⟨(some 87), .mov (.t 6), none, false, []⟩,
              ⟨(some 88), .bin .none .sub (.t 87) (.c (.int .i64 1)), none, false, []⟩,
              ⟨(some 89), .index 1 none false (.t 86) (.t 88), none, false, []⟩,
              ⟨(some 90), .mov (.t 1), none, false, []⟩,
              ⟨(some 91), .mov (.t 7), none, false, []⟩,
              ⟨(some 92), .bin .none .sub (.t 91) (.c (.int .i64 1)), none, false, []⟩,
              ⟨(some 93), .index 1 none false (.t 90) (.t 92), none, false, []⟩,
              ⟨(some 94), .bin .none .eql (.t 89) (.t 93), none, false, []⟩,
              ⟨(some 85), .mov (.t 94), none, false, []⟩] (some (0, 0, [0, 1, 2, 3, 4, 5, 6, 7, 8, 9])) [0, 1, 5, 6, 7, 13, 14, 28, 29, 85])
            (.cond (.t 85)
              (.ops [⟨(some 95), .mov (.t 5), none, false, []⟩,
                ⟨(some 96), .mov (.t 6), none, false, []⟩,
                ⟨(some 97), .iaddr 1 none (.t 95) (.t 96), none, false, []⟩,
                ⟨(some 98), .load 1 false (.t 97), none, false, []⟩,
                ⟨(some 99), .mov (.t 7), none, false, []⟩,
                ⟨(some 100), .mov (.t 5), none, false, []⟩,
                ⟨(some 101), .mov (.t 6), none, false, []⟩,
                ⟨(some 102), .bin .none .sub (.t 101) (.c (.int .i64 1)), none, false, []⟩,
                ⟨(some 103), .iaddr 1 none (.t 100) (.t 102), none, false, []⟩,
                ⟨(some 104), .load 1 false (.t 103), none, false, []⟩,
                ⟨(some 105), .mov (.t 7), none, false, []⟩,
                ⟨(some 106), .bin .none .sub (.t 105) (.c (.int .i64 1)), none, false, []⟩,
                ⟨(some 107), .iaddr 1 none (.t 104) (.t 106), none, false, []⟩,
                ⟨(some 108), .load 1 false (.t 107), none, false, []⟩,
                ⟨(some 109), .iaddr 1 none (.t 98) (.t 99), none, false, []⟩,
                ⟨none, .store 1 (.t 109) (.t 108), none, false, []⟩] (some (0, 0, [0, 1, 2, 3, 4, 5, 6, 7, 8, 9, 10, 11, 12, 13, 14, 15])) [0, 1, 5, 6, 13, 14, 28, 29])
              (.ops [⟨(some 32), .mov (.t 5), none, false, []⟩,
                ⟨(some 33), .mov (.t 6), none, false, []⟩,
                ⟨(some 34), .iaddr 1 none (.t 32) (.t 33), none, false, []⟩,
                ⟨(some 35), .load 1 false (.t 34), none, false, []⟩,
                ⟨(some 36), .mov (.t 7), none, false, []⟩,
                ⟨(some 37), .mov (.t 5), none, false, []⟩,
                ⟨(some 38), .mov (.t 6), none, false, []⟩,
                ⟨(some 39), .bin .none .sub (.t 38) (.c (.int .i64 1)), none, false, []⟩,
                ⟨(some 40), .iaddr 1 none (.t 37) (.t 39), none, false, []⟩,
                ⟨(some 41), .load 1 false (.t 40), none, false, []⟩,
                ⟨(some 42), .mov (.t 7), none, false, []⟩,
                ⟨(some 43), .bin .none .sub (.t 42) (.c (.int .i64 1)), none, false, []⟩,
                ⟨(some 44), .iaddr 1 none (.t 41) (.t 43), none, false, []⟩,
                ⟨(some 45), .load 1 false (.t 44), none, false, []⟩,
                ⟨(some 46), .mov (.t 5), none, false, []⟩,
                ⟨(some 47), .mov (.t 6), none, false, []⟩,
                ⟨(some 48), .bin .none .sub (.t 47) (.c (.int .i64 1)), none, false, []⟩,
                ⟨(some 49), .iaddr 1 none (.t 46) (.t 48), none, false, []⟩,
                ⟨(some 50), .load 1 false (.t 49), none, false, []⟩,
                ⟨(some 51), .mov (.t 7), none, false, []⟩,
                ⟨(some 52), .iaddr 1 none (.t 50) (.t 51), none, false, []⟩,
                ⟨(some 53), .load 1 false (.t 52), none, false, []⟩,
                ⟨(some 54), .mov (.t 5), none, false, []⟩,
                ⟨(some 55), .mov (.t 6), none, false, []⟩,
                ⟨(some 56), .iaddr 1 none (.t 54) (.t 55), none, false, []⟩,
                ⟨(some 57), .load 1 false (.t 56), none, false, []⟩,
                ⟨(some 58), .mov (.t 7), none, false, []⟩,
                ⟨(some 59), .bin .none .sub (.t 58) (.c (.int .i64 1)), none, false, []⟩,
                ⟨(some 60), .iaddr 1 none (.t 57) (.t 59), none, false, []⟩,
                ⟨(some 61), .load 1 false (.t 60), none, false, []⟩,
                ⟨(some 62), .min [(.t 45), (.t 53), (.t 61)], none, false, []⟩,
                ⟨(some 63), .bin .none .add (.c (.int .i64 1)) (.t 62), none, false, []⟩,
                ⟨(some 64), .iaddr 1 none (.t 35) (.t 36), none, false, []⟩,
                ⟨none, .store 1 (.t 64) (.t 63), none, false, []⟩] (some (0, 0, [0, 1, 2, 3, 4, 5, 6, 7, 8, 9, 10, 11, 12, 13, 14, 15, 16, 17, 18, 19, 20, 21, 22, 23, 24, 25, 26, 27, 28, 29, 30, 31, 32, 33])) [0, 1, 5, 6, 13, 14, 28, 29]))))))))))
      (.ops [⟨(some 110), .bin .none .add (.t 29) (.c (.int .i64 1)), none, false, []⟩,
        ⟨(some 29), .mov (.t 110), none, false, []⟩] none [0, 1, 5, 6, 13, 14, 28, 29]))))))))))
    (.ops [⟨(some 111), .bin .none .add (.t 14) (.c (.int .i64 1)), none, false, []⟩,
      ⟨(some 14), .mov (.t 111), none, false, []⟩] none [0, 1, 5, 13, 14])))))))
  (.seq (.ops [⟨(some 112), .mov (.t 5), none, false, []⟩,
    ⟨(some 113), .mov (.t 0), none, false, []⟩,
    ⟨(some 114), .len true (.t 113), none, false, []⟩,
    ⟨(some 115), .iaddr 1 none (.t 112) (.t 114), none, false, []⟩,
    ⟨(some 116), .load 1 false (.t 115), none, false, []⟩,
    ⟨(some 117), .mov (.t 1), none, false, []⟩,
    ⟨(some 118), .len true (.t 117), none, false, []⟩,
    ⟨(some 119), .iaddr 1 none (.t 116) (.t 118), none, false, []⟩,
    ⟨(some 120), .load 1 false (.t 119), none, false, []⟩,
    ⟨(some 4), .mov (.t 120), none, false, []⟩] none [4])
  .ret))))
def ref_farOf_r : List RRes := [.tmp 4]
def ref_farOf_hi : Hi := ⟨[(11, (.sl (.int .i64))), (22, (.int .i64))], [(0, "a"), (1, "b"), (2, "a"), (3, "b"), (5, "t"), (6, "i"), (7, "k")]⟩
def ref_farOf_an : An := (.seq .d (.seq .d (.seq (.seq .d (.loop [5] [] [] (.seq .d (.seq .d (.seq (.seq .d (.seq .d (.seq .d (.loop [5] [] [] .d)))) .d))))) .d)))
def ref_farOf_fi : Fi := ⟨121, ref_farOf_c, ref_farOf_r, ref_farOf_an, ref_farOf_hi, none⟩
theorem ref_farOf_ok : FiOk Try.prog f_ref_farOf ref_farOf_fi :=
  ⟨fun _ => by kernel_rfl, fun _ h hlen => fun_sound (by kernel_rfl) (fn := Try.f69) (draw_sound _ _) Try.func69 rfl (by kernel_rfl : comp Try.prog 121 _ ref_farOf_c = some ref_farOf_c) (by kernel_rfl : cRes Try.prog Try.f69.results.toList = some ref_farOf_r) hlen h, fun _ h => nomatch h⟩

/-- fustian/fustianref.FuzzyGuess$1: slots [0 i, 1 k, 5 i, 6 k, 8 a, 9 b, 10 m, 11 n] -/
def ref_FuzzyGuess_1_c : SCode :=
  (.seq (.ops [⟨(some 7), .mov (.c (.bool false)), none, false, []⟩] none [0, 1, 2, 3, 4])
  (.seq (.ops [⟨(some 12), .load 1 false (.t 2), none, false, []⟩,
    ⟨(some 13), .load 1 false (.t 3), none, false, []⟩,
    ⟨(some 14), .mov (.t 0), none, false, []⟩,
    ⟨(some 15), .iaddr 1 none (.t 13) (.t 14), none, false, []⟩,
    ⟨(some 16), .load 1 false (.t 15), none, false, []⟩,
    ⟨(some 17), .iaddr 1 none (.t 12) (.t 16), none, false, []⟩,
    ⟨(some 18), .load 1 false (.t 17), none, false, []⟩,
    ⟨(some 19), .load 1 false (.t 2), none, false, []⟩,
    ⟨(some 20), .load 1 false (.t 3), none, false, []⟩,
    ⟨(some 21), .mov (.t 1), none, false, []⟩,
    ⟨(some 22), .iaddr 1 none (.t 20) (.t 21), none, false, []⟩,
    ⟨(some 23), .load 1 false (.t 22), none, false, []⟩,
    ⟨(some 24), .iaddr 1 none (.t 19) (.t 23), none, false, []⟩,
    ⟨(some 25), .load 1 false (.t 24), none, false, []⟩,
    ⟨(some 8), .mov (.t 18), none, false, []⟩,
    ⟨(some 9), .mov (.t 25), none, false, []⟩] (some (0, 0, [0, 1, 2, 3, 4, 5, 6, 7, 8, 9, 10, 11, 12, 13, 14, 15])) [4, 8, 9])
  (.seq (.ops [⟨(some 26), .mov (.t 8), none, false, []⟩,
    ⟨(some 27), .load 1 false (.t 4), none, false, []⟩,
    ⟨(some 29), .mov (.t 9), none, false, []⟩,
    ⟨(some 30), .load 1 false (.t 4), none, false, []⟩,
    ⟨(some 28), .call f_ref_farOf [(.t 26), (.t 27)], none, false, []⟩,
    ⟨(some 31), .call f_ref_farOf [(.t 29), (.t 30)], none, false, []⟩,
    ⟨(some 10), .mov (.t 28), none, false, []⟩,
    ⟨(some 11), .mov (.t 31), none, false, []⟩] (some (5, 0, [0, 1, 3, 4, 2, 5, 6, 7])) [8, 9, 10, 11])
  (.seq (.ops [⟨(some 32), .mov (.t 10), none, false, []⟩,
    ⟨(some 33), .mov (.t 11), none, false, []⟩,
    ⟨(some 34), .bin .none .lss (.t 32) (.t 33), none, false, []⟩,
    ⟨(some 35), .mov (.t 34), none, true, []⟩,
    ⟨(some 36), .mov (.t 10), (some (35, false)), false, []⟩,
    ⟨(some 37), .mov (.t 11), (some (35, false)), false, []⟩,
    ⟨(some 38), .bin .none .eql (.t 36) (.t 37), (some (35, false)), false, []⟩,
    ⟨(some 39), .mov (.t 38), (some (35, false)), true, []⟩,
    ⟨(some 40), .mov (.t 8), (some (39, true)), false, []⟩,
    ⟨(some 41), .mov (.t 9), (some (39, true)), false, []⟩,
    ⟨(some 42), .bin .none .lss (.t 40) (.t 41), (some (39, true)), false, []⟩,
    ⟨(some 43), .pick (.t 39) (.t 42) (.c (.bool false)), (some (35, false)), false, []⟩,
    ⟨(some 44), .pick (.t 35) (.c (.bool true)) (.t 43), none, false, []⟩,
    ⟨(some 7), .mov (.t 44), none, false, []⟩] none [7])
  .ret))))
def ref_FuzzyGuess_1_r : List RRes := [.tmp 7]
def ref_FuzzyGuess_1_hi : Hi := ⟨[], [(0, "i"), (1, "k"), (5, "i"), (6, "k"), (8, "a"), (9, "b"), (10, "m"), (11, "n")]⟩
def ref_FuzzyGuess_1_an : An := .d
def ref_FuzzyGuess_1_fi : Fi := ⟨45, ref_FuzzyGuess_1_c, ref_FuzzyGuess_1_r, ref_FuzzyGuess_1_an, ref_FuzzyGuess_1_hi, none⟩
theorem ref_FuzzyGuess_1_ok : FiOk Try.prog f_ref_FuzzyGuess_1 ref_FuzzyGuess_1_fi :=
  ⟨fun _ => by kernel_rfl, fun _ h hlen => fun_sound (by kernel_rfl) (fn := Try.f68) (draw_sound _ _) Try.func68 rfl (by kernel_rfl : comp Try.prog 45 _ ref_FuzzyGuess_1_c = some ref_FuzzyGuess_1_c) (by kernel_rfl : cRes Try.prog Try.f68.results.toList = some ref_FuzzyGuess_1_r) hlen h, fun _ h => nomatch h⟩
-- NO BODY internal/reflectlite.Swapper$5

/-- sort.insertionSort_func: slots [0 data, 1 a, 2 b, 3 data, 4 a, 5 b, 6 i, 7 j] -/
def sort_insertionSort_func_c : SCode :=
  (.seq (.ops [⟨(some 3), .box 0 (.t 0), none, false, []⟩] none [1, 2, 3])
  (.seq (.ops [⟨(some 8), .mov (.t 1), none, false, []⟩,
    ⟨(some 9), .bin .none .add (.t 8) (.c (.int .i64 1)), none, false, []⟩,
    ⟨(some 6), .mov (.t 9), none, false, []⟩] none [1, 2, 3, 6])
  (.block 0 (.loop [1, 2, 3] [6] 1
    (.seq (.seq (.ops [⟨(some 10), .mov (.t 6), none, false, []⟩,
      ⟨(some 11), .mov (.t 2), none, false, []⟩,
      ⟨(some 12), .bin .none .lss (.t 10) (.t 11), none, false, []⟩] none [1, 2, 3, 6, 12])
    (.cond (.t 12)
      .skip
      (.exit 0)))
    (.seq (.block 1 (.seq (.ops [⟨(some 15), .mov (.t 6), none, false, []⟩,
      ⟨(some 7), .mov (.t 15), none, false, []⟩] none [1, 2, 3, 6, 7])
    (.block 2 (.loop [1, 2, 3, 6] [7] 1
      (.seq (.seq (.ops [⟨(some 16), .mov (.t 7), none, false, []⟩,
        ⟨(some 17), .mov (.t 1), none, false, []⟩,
        ⟨(some 18), .bin .none .gtr (.t 16) (.t 17), none, false, []⟩,
        ⟨(some 19), .mov (.t 18), none, true, []⟩,
        ⟨(some 20), .faddr 0 (.t 3), (some (19, true)), false, []⟩,
        ⟨(some 21), .load 1 false (.t 20), (some (19, true)), false, []⟩,
        ⟨(some 22), .mov (.t 7), (some (19, true)), false, []⟩,
        ⟨(some 23), .mov (.t 7), (some (19, true)), false, []⟩,
        ⟨(some 24), .bin .none .sub (.t 23) (.c (.int .i64 1)), (some (19, true)), false, []⟩,
        ⟨(some 25), .callv (.t 21) [(.t 22), (.t 24)], (some (19, true)), false, []⟩,
        ⟨(some 26), .pick (.t 19) (.t 25) (.c (.bool false)), none, false, []⟩] none [1, 2, 3, 6, 7, 26])
      (.cond (.t 26)
        .skip
        (.exit 2)))
      (.seq (.block 3 (.ops [⟨(some 29), .faddr 1 (.t 3), none, false, []⟩,
        ⟨(some 30), .load 1 false (.t 29), none, false, []⟩,
        ⟨(some 31), .mov (.t 7), none, false, []⟩,
        ⟨(some 32), .mov (.t 7), none, false, []⟩,
        ⟨(some 33), .bin .none .sub (.t 32) (.c (.int .i64 1)), none, false, []⟩,
        ⟨(some 34), .callv (.t 30) [(.t 31), (.t 33)], none, false, []⟩] none [1, 2, 3, 6, 7]))
      (.ops [⟨(some 27), .mov (.t 7), none, false, []⟩,
        ⟨(some 28), .bin .none .sub (.t 27) (.c (.int .i64 1)), none, false, []⟩,
        ⟨(some 7), .mov (.t 28), none, false, []⟩] none [1, 2, 3, 6, 7])))))))
    (.ops [⟨(some 13), .mov (.t 6), none, false, []⟩,
      ⟨(some 14), .bin .none .add (.t 13) (.c (.int .i64 1)), none, false, []⟩,
      ⟨(some 6), .mov (.t 14), none, false, []⟩] none [1, 2, 3, 6])))))))
def sort_insertionSort_func_r : List RRes := []
def sort_insertionSort_func_hi : Hi := ⟨[], [(0, "data"), (1, "a"), (2, "b"), (3, "data"), (4, "a"), (5, "b"), (6, "i"), (7, "j")]⟩
def sort_insertionSort_func_an : An := (.seq .d (.seq .d (.loop [3] [] [] (.seq .d (.seq (.seq .d (.loop [3] [] [] .d)) .d)))))
def sort_insertionSort_func_fi : Fi := ⟨35, sort_insertionSort_func_c, sort_insertionSort_func_r, sort_insertionSort_func_an, sort_insertionSort_func_hi, none⟩
theorem sort_insertionSort_func_ok : FiOk Try.prog f_sort_insertionSort_func sort_insertionSort_func_fi :=
  ⟨fun _ => by kernel_rfl, fun _ h hlen => fun_sound (by kernel_rfl) (fn := Try.f138) (draw_sound _ _) Try.func138 rfl (by kernel_rfl : comp Try.prog 35 _ sort_insertionSort_func_c = some sort_insertionSort_func_c) (by kernel_rfl : cRes Try.prog Try.f138.results.toList = some sort_insertionSort_func_r) hlen h, fun _ h => nomatch h⟩

/-- sort.swapRange_func: slots [0 data, 1 a, 2 b, 3 n, 4 data, 5 a, 6 b, 7 n, 8 i] -/
def sort_swapRange_func_c : SCode :=
  (.seq (.ops [⟨(some 4), .box 0 (.t 0), none, false, []⟩] none [1, 2, 3, 4])
  (.seq (.ops [⟨(some 8), .mov (.c (.int .i64 0)), none, false, []⟩] none [1, 2, 3, 4, 8])
  (.block 0 (.loop [1, 2, 3, 4] [8] 1
    (.seq (.seq (.ops [⟨(some 9), .mov (.t 8), none, false, []⟩,
      ⟨(some 10), .mov (.t 3), none, false, []⟩,
      ⟨(some 11), .bin .none .lss (.t 9) (.t 10), none, false, []⟩] none [1, 2, 3, 4, 8, 11])
    (.cond (.t 11)
      .skip
      (.exit 0)))
    (.seq (.block 1 (.ops [⟨(some 14), .faddr 1 (.t 4), none, false, []⟩,
      ⟨(some 15), .load 1 false (.t 14), none, false, []⟩,
      ⟨(some 16), .mov (.t 1), none, false, []⟩,
      ⟨(some 17), .mov (.t 8), none, false, []⟩,
      ⟨(some 18), .bin .none .add (.t 16) (.t 17), none, false, []⟩,
      ⟨(some 19), .mov (.t 2), none, false, []⟩,
      ⟨(some 20), .mov (.t 8), none, false, []⟩,
      ⟨(some 21), .bin .none .add (.t 19) (.t 20), none, false, []⟩,
      ⟨(some 22), .callv (.t 15) [(.t 18), (.t 21)], none, false, []⟩] none [1, 2, 3, 4, 8]))
    (.ops [⟨(some 12), .mov (.t 8), none, false, []⟩,
      ⟨(some 13), .bin .none .add (.t 12) (.c (.int .i64 1)), none, false, []⟩,
      ⟨(some 8), .mov (.t 13), none, false, []⟩] none [1, 2, 3, 4, 8])))))))
def sort_swapRange_func_r : List RRes := []
def sort_swapRange_func_hi : Hi := ⟨[], [(0, "data"), (1, "a"), (2, "b"), (3, "n"), (4, "data"), (5, "a"), (6, "b"), (7, "n"), (8, "i")]⟩
def sort_swapRange_func_an : An := (.seq .d (.seq .d (.loop [4] [] [] .d)))
def sort_swapRange_func_fi : Fi := ⟨23, sort_swapRange_func_c, sort_swapRange_func_r, sort_swapRange_func_an, sort_swapRange_func_hi, none⟩
theorem sort_swapRange_func_ok : FiOk Try.prog f_sort_swapRange_func sort_swapRange_func_fi :=
  ⟨fun _ => by kernel_rfl, fun _ h hlen => fun_sound (by kernel_rfl) (fn := Try.f177) (draw_sound _ _) Try.func177 rfl (by kernel_rfl : comp Try.prog 23 _ sort_swapRange_func_c = some sort_swapRange_func_c) (by kernel_rfl : cRes Try.prog Try.f177.results.toList = some sort_swapRange_func_r) hlen h, fun _ h => nomatch h⟩

/-- sort.rotate_func: slots [0 data, 1 a, 2 m, 3 b, 4 data, 5 a, 6 m, 7 b, 8 i, 9 j] -/
def sort_rotate_func_c : SCode :=
  (.seq (.ops [⟨(some 4), .box 0 (.t 0), none, false, []⟩] none [1, 2, 3, 4])
  (.seq (.ops [⟨(some 10), .mov (.t 2), none, false, []⟩,
    ⟨(some 11), .mov (.t 1), none, false, []⟩,
    ⟨(some 12), .bin .none .sub (.t 10) (.t 11), none, false, []⟩,
    ⟨(some 8), .mov (.t 12), none, false, []⟩] none [2, 3, 4, 8])
  (.seq (.ops [⟨(some 13), .mov (.t 3), none, false, []⟩,
    ⟨(some 14), .mov (.t 2), none, false, []⟩,
    ⟨(some 15), .bin .none .sub (.t 13) (.t 14), none, false, []⟩,
    ⟨(some 9), .mov (.t 15), none, false, []⟩] none [2, 4, 8, 9])
  (.seq (.block 0 (.loop [2, 4] [8, 9] 1
    (.seq (.seq (.ops [⟨(some 16), .mov (.t 8), none, false, []⟩,
      ⟨(some 17), .mov (.t 9), none, false, []⟩,
      ⟨(some 18), .bin .none .neq (.t 16) (.t 17), none, false, []⟩] none [2, 4, 8, 9, 18])
    (.cond (.t 18)
      .skip
      (.exit 0)))
    (.block 1 (.seq (.ops [⟨(some 19), .mov (.t 8), none, false, []⟩,
      ⟨(some 20), .mov (.t 9), none, false, []⟩,
      ⟨(some 21), .bin .none .gtr (.t 19) (.t 20), none, false, []⟩] none [2, 4, 8, 9, 21])
    (.cond (.t 21)
      (.seq (.ops [⟨(some 22), .load 2 true (.t 4), none, false, []⟩,
        ⟨(some 23), .mov (.t 2), none, false, []⟩,
        ⟨(some 24), .mov (.t 8), none, false, []⟩,
        ⟨(some 25), .bin .none .sub (.t 23) (.t 24), none, false, []⟩,
        ⟨(some 26), .mov (.t 2), none, false, []⟩,
        ⟨(some 27), .mov (.t 9), none, false, []⟩,
        ⟨(some 28), .call f_sort_swapRange_func [(.t 22), (.t 25), (.t 26), (.t 27)], none, false, []⟩] none [2, 4, 8, 9])
      (.ops [⟨(some 29), .mov (.t 8), none, false, []⟩,
        ⟨(some 30), .mov (.t 9), none, false, []⟩,
        ⟨(some 31), .bin .none .sub (.t 29) (.t 30), none, false, []⟩,
        ⟨(some 8), .mov (.t 31), none, false, []⟩] none [2, 4, 8, 9]))
      (.seq (.ops [⟨(some 32), .load 2 true (.t 4), none, false, []⟩,
        ⟨(some 33), .mov (.t 2), none, false, []⟩,
        ⟨(some 34), .mov (.t 8), none, false, []⟩,
        ⟨(some 35), .bin .none .sub (.t 33) (.t 34), none, false, []⟩,
        ⟨(some 36), .mov (.t 2), none, false, []⟩,
        ⟨(some 37), .mov (.t 9), none, false, []⟩,
        ⟨(some 38), .bin .none .add (.t 36) (.t 37), none, false, []⟩,
        ⟨(some 39), .mov (.t 8), none, false, []⟩,
        ⟨(some 40), .bin .none .sub (.t 38) (.t 39), none, false, []⟩,
        ⟨(some 41), .mov (.t 8), none, false, []⟩,
        ⟨(some 42), .call f_sort_swapRange_func [(.t 32), (.t 35), (.t 40), (.t 41)], none, false, []⟩] none [2, 4, 8, 9])
      (.ops [⟨(some 43), .mov (.t 9), none, false, []⟩,
        ⟨(some 44), .mov (.t 8), none, false, []⟩,
        ⟨(some 45), .bin .none .sub (.t 43) (.t 44), none, false, []⟩,
        ⟨(some 9), .mov (.t 45), none, false, []⟩] none [2, 4, 8, 9]))))))))
  (.ops [⟨(some 46), .load 2 true (.t 4), none, false, []⟩,
    ⟨(some 47), .mov (.t 2), none, false, []⟩,
    ⟨(some 48), .mov (.t 8), none, false, []⟩,
    ⟨(some 49), .bin .none .sub (.t 47) (.t 48), none, false, []⟩,
    ⟨(some 50), .mov (.t 2), none, false, []⟩,
    ⟨(some 51), .mov (.t 8), none, false, []⟩,
    ⟨(some 52), .call f_sort_swapRange_func [(.t 46), (.t 49), (.t 50), (.t 51)], none, false, []⟩] none [])))))
def sort_rotate_func_r : List RRes := []
def sort_rotate_func_hi : Hi := ⟨[], [(0, "data"), (1, "a"), (2, "m"), (3, "b"), (4, "data"), (5, "a"), (6, "m"), (7, "b"), (8, "i"), (9, "j")]⟩
def sort_rotate_func_an : An := (.seq .d (.seq .d (.seq .d (.seq (.loop [4] [] [] .d) .d))))
def sort_rotate_func_fi : Fi := ⟨53, sort_rotate_func_c, sort_rotate_func_r, sort_rotate_func_an, sort_rotate_func_hi, none⟩
theorem sort_rotate_func_ok : FiOk Try.prog f_sort_rotate_func sort_rotate_func_fi :=
  ⟨fun _ => by kernel_rfl, fun _ h hlen => fun_sound (by kernel_rfl) (fn := Try.f153) (draw_sound _ _) Try.func153 rfl (by kernel_rfl : comp Try.prog 53 _ sort_rotate_func_c = some sort_rotate_func_c) (by kernel_rfl : cRes Try.prog Try.f153.results.toList = some sort_rotate_func_r) hlen h, fun _ h => nomatch h⟩

/-- sort.symMerge_func: slots [0 data, 1 a, 2 m, 3 b, 4 data, 5 a, 6 m, 7 b, 8 i, 9 j, 10 h, 11 k, 12 i, 13 j, 14 h, 15 k, 16 mid, 17 n, 18 start, 19 r, 20 p, 21 c, 22 end] -/
def sort_symMerge_func_c : SCode :=
  (.seq (.ops [⟨(some 4), .box 0 (.t 0), none, false, []⟩] none [1, 2, 3, 4])
  (.seq (.seq (.ops [⟨(some 23), .mov (.t 2), none, false, []⟩,
    ⟨(some 24), .mov (.t 1), none, false, []⟩,
    ⟨(some 25), .bin .none .sub (.t 23) (.t 24), none, false, []⟩,
    ⟨(some 26), .bin .none .eql (.t 25) (.c (.int .i64 1)), none, false, []⟩] none [1, 2, 3, 4, 26])
  (.cond (.t 26)
    (.seq (.ops [⟨(some 27), .mov (.t 2), none, false, []⟩,
      ⟨(some 8), .mov (.t 27), none, false, []⟩] none [1, 3, 4, 8])
    (.seq (.ops [⟨(some 28), .mov (.t 3), none, false, []⟩,
      ⟨(some 9), .mov (.t 28), none, false, []⟩] none [1, 4, 8, 9])
    (.seq (.block 0 (.loop [1, 4] [8, 9] 1
      (.seq (.seq (.ops [⟨(some 29), .mov (.t 8), none, false, []⟩,
        ⟨(some 30), .mov (.t 9), none, false, []⟩,
        ⟨(some 31), .bin .none .lss (.t 29) (.t 30), none, false, []⟩] none [1, 4, 8, 9, 31])
      (.cond (.t 31)
        .skip
        (.exit 0)))
      (.block 1 (.seq (.ops [⟨(some 32), .mov (.t 8), none, false, []⟩,
        ⟨(some 33), .mov (.t 9), none, false, []⟩,
        ⟨(some 34), .bin .none .add (.t 32) (.t 33), none, false, []⟩,
        ⟨(some 35), .conv .u64 (.t 34), none, false, []⟩,
        ⟨(some 36), .bin .none .shr (.t 35) (.c (.int .u64 1)), none, false, []⟩,
        ⟨(some 37), .conv .i64 (.t 36), none, false, []⟩,
        ⟨(some 10), .mov (.t 37), none, false, []⟩] none [1, 4, 8, 9, 10])
      (.seq (.ops [⟨(some 38), .faddr 0 (.t 4), none, false, []⟩,
        ⟨(some 39), .load 1 false (.t 38), none, false, []⟩,
        ⟨(some 40), .mov (.t 10), none, false, []⟩,
        ⟨(some 41), .mov (.t 1), none, false, []⟩,
        ⟨(some 42), .callv (.t 39) [(.t 40), (.t 41)], none, false, []⟩] none [1, 4, 8, 9, 10, 42])
      (.cond (.t 42)
        (.ops [⟨(some 43), .mov (.t 10), none, false, []⟩,
          ⟨(some 44), .bin .none .add (.t 43) (.c (.int .i64 1)), none, false, []⟩,
          ⟨(some 8), .mov (.t 44), none, false, []⟩] none [1, 4, 8, 9])
        (.ops [⟨(some 45), .mov (.t 10), none, false, []⟩,
          ⟨(some 9), .mov (.t 45), none, false, []⟩] none [1, 4, 8, 9]))))))))
    (.seq (.seq (.ops [⟨(some 46), .mov (.t 1), none, false, []⟩,
      ⟨(some 11), .mov (.t 46), none, false, []⟩] none [4, 8, 11])
    (.block 2 (.loop [4, 8] [11] 1
      (.seq (.seq (.ops [⟨(some 47), .mov (.t 11), none, false, []⟩,
        ⟨(some 48), .mov (.t 8), none, false, []⟩,
        ⟨(some 49), .bin .none .sub (.t 48) (.c (.int .i64 1)), none, false, []⟩,
        ⟨(some 50), .bin .none .lss (.t 47) (.t 49), none, false, []⟩] none [4, 8, 11, 50])
      (.cond (.t 50)
        .skip
        (.exit 2)))
      (.seq (.block 3 (.ops [⟨(some 53), .faddr 1 (.t 4), none, false, []⟩,
        ⟨(some 54), .load 1 false (.t 53), none, false, []⟩,
        ⟨(some 55), .mov (.t 11), none, false, []⟩,
        ⟨(some 56), .mov (.t 11), none, false, []⟩,
        ⟨(some 57), .bin .none .add (.t 56) (.c (.int .i64 1)), none, false, []⟩,
        ⟨(some 58), .callv (.t 54) [(.t 55), (.t 57)], none, false, []⟩] none [4, 8, 11]))
      (.ops [⟨(some 51), .mov (.t 11), none, false, []⟩,
        ⟨(some 52), .bin .none .add (.t 51) (.c (.int .i64 1)), none, false, []⟩,
        ⟨(some 11), .mov (.t 52), none, false, []⟩] none [4, 8, 11]))))))
    .ret))))
    .skip))
  (.seq (.seq (.ops [⟨(some 59), .mov (.t 3), none, false, []⟩,
    ⟨(some 60), .mov (.t 2), none, false, []⟩,
    ⟨(some 61), .bin .none .sub (.t 59) (.t 60), none, false, []⟩,
    ⟨(some 62), .bin .none .eql (.t 61) (.c (.int .i64 1)), none, false, []⟩] none [1, 2, 3, 4, 62])
  (.cond (.t 62)
    (.seq (.ops [⟨(some 63), .mov (.t 1), none, false, []⟩,
      ⟨(some 12), .mov (.t 63), none, false, []⟩] none [2, 4, 12])
    (.seq (.ops [⟨(some 64), .mov (.t 2), none, false, []⟩,
      ⟨(some 13), .mov (.t 64), none, false, []⟩] none [2, 4, 12, 13])
    (.seq (.block 4 (.loop [2, 4] [12, 13] 1
      (.seq (.seq (.ops [⟨(some 65), .mov (.t 12), none, false, []⟩,
        ⟨(some 66), .mov (.t 13), none, false, []⟩,
        ⟨(some 67), .bin .none .lss (.t 65) (.t 66), none, false, []⟩] none [2, 4, 12, 13, 67])
      (.cond (.t 67)
        .skip
        (.exit 4)))
      (.block 5 (.seq (.ops [⟨(some 68), .mov (.t 12), none, false, []⟩,
        ⟨(some 69), .mov (.t 13), none, false, []⟩,
        ⟨(some 70), .bin .none .add (.t 68) (.t 69), none, false, []⟩,
        ⟨(some 71), .conv .u64 (.t 70), none, false, []⟩,
        ⟨(some 72), .bin .none .shr (.t 71) (.c (.int .u64 1)), none, false, []⟩,
        ⟨(some 73), .conv .i64 (.t 72), none, false, []⟩,
        ⟨(some 14), .mov (.t 73), none, false, []⟩] none [2, 4, 12, 13, 14])
      (.seq (.ops [⟨(some 74), .faddr 0 (.t 4), none, false, []⟩,
        ⟨(some 75), .load 1 false (.t 74), none, false, []⟩,
        ⟨(some 76), .mov (.t 2), none, false, []⟩,
        ⟨(some 77), .mov (.t 14), none, false, []⟩,
        ⟨(some 78), .callv (.t 75) [(.t 76), (.t 77)], none, false, []⟩,
        ⟨(some 79), .not (.t 78), none, false, []⟩] none [2, 4, 12, 13, 14, 79])
      (.cond (.t 79)
        (.ops [⟨(some 80), .mov (.t 14), none, false, []⟩,
          ⟨(some 81), .bin .none .add (.t 80) (.c (.int .i64 1)), none, false, []⟩,
          ⟨(some 12), .mov (.t 81), none, false, []⟩] none [2, 4, 12, 13])
        (.ops [⟨(some 82), .mov (.t 14), none, false, []⟩,
          ⟨(some 13), .mov (.t 82), none, false, []⟩] none [2, 4, 12, 13]))))))))
    (.seq (.seq (.ops [⟨(some 83), .mov (.t 2), none, false, []⟩,
      ⟨(some 15), .mov (.t 83), none, false, []⟩] none [4, 12, 15])
    (.block 6 (.loop [4, 12] [15] 1
      (.seq (.seq (.ops [⟨(some 84), .mov (.t 15), none, false, []⟩,
        ⟨(some 85), .mov (.t 12), none, false, []⟩,
        ⟨(some 86), .bin .none .gtr (.t 84) (.t 85), none, false, []⟩] none [4, 12, 15, 86])
      (.cond (.t 86)
        .skip
        (.exit 6)))
      (.seq (.block 7 (.ops [⟨(some 89), .faddr 1 (.t 4), none, false, []⟩,
        ⟨(some 90), .load 1 false (.t 89), none, false, []⟩,
        ⟨(some 91), .mov (.t 15), none, false, []⟩,
        ⟨(some 92), .mov (.t 15), none, false, []⟩,
        ⟨(some 93), .bin .none .sub (.t 92) (.c (.int .i64 1)), none, false, []⟩,
        ⟨(some 94), .callv (.t 90) [(.t 91), (.t 93)], none, false, []⟩] none [4, 12, 15]))
      (.ops [⟨(some 87), .mov (.t 15), none, false, []⟩,
        ⟨(some 88), .bin .none .sub (.t 87) (.c (.int .i64 1)), none, false, []⟩,
        ⟨(some 15), .mov (.t 88), none, false, []⟩] none [4, 12, 15]))))))
    .ret))))
    .skip))
  (.seq (.ops [⟨(some 95), .mov (.t 1), none, false, []⟩,
    ⟨(some 96), .mov (.t 3), none, false, []⟩,
    ⟨(some 97), .bin .none .add (.t 95) (.t 96), none, false, []⟩,
    ⟨(some 98), .conv .u64 (.t 97), none, false, []⟩,
    ⟨(some 99), .bin .none .shr (.t 98) (.c (.int .u64 1)), none, false, []⟩,
    ⟨(some 100), .conv .i64 (.t 99), none, false, []⟩,
    ⟨(some 16), .mov (.t 100), none, false, []⟩] none [1, 2, 3, 4, 16])
  (.seq (.ops [⟨(some 101), .mov (.t 16), none, false, []⟩,
    ⟨(some 102), .mov (.t 2), none, false, []⟩,
    ⟨(some 103), .bin .none .add (.t 101) (.t 102), none, false, []⟩,
    ⟨(some 17), .mov (.t 103), none, false, []⟩] none [1, 2, 3, 4, 16, 17])
  (.seq (.ops [⟨(some 18), .mov (.c (.int .i64 0)), none, false, []⟩,
    ⟨(some 19), .mov (.c (.int .i64 0)), none, false, []⟩] none [1, 2, 3, 4, 16, 17])
  (.join [1, 2, 3, 4, 16, 17] [18, 19] 1 (.seq (.ops [⟨(some 104), .mov (.t 2), none, false, []⟩,
      ⟨(some 105), .mov (.t 16), none, false, []⟩,
      ⟨(some 106), .bin .none .gtr (.t 104) (.t 105), none, false, []⟩] none [1, 2, 3, 4, 16, 17, 106])
    (.cond (.t 106)
      (.seq (.ops [⟨(some 107), .mov (.t 17), none, false, []⟩,
        ⟨(some 108), .mov (.t 3), none, false, []⟩,
        ⟨(some 109), .bin .none .sub (.t 107) (.t 108), none, false, []⟩,
        ⟨(some 18), .mov (.t 109), none, false, []⟩] none [1, 2, 3, 4, 16, 17, 18])
      (.ops [⟨(some 110), .mov (.t 16), none, false, []⟩,
        ⟨(some 19), .mov (.t 110), none, false, []⟩] none [1, 2, 3, 4, 16, 17, 18, 19]))
      (.seq (.ops [⟨(some 111), .mov (.t 1), none, false, []⟩,
        ⟨(some 18), .mov (.t 111), none, false, []⟩] none [1, 2, 3, 4, 16, 17, 18])
      (.ops [⟨(some 112), .mov (.t 2), none, false, []⟩,
        ⟨(some 19), .mov (.t 112), none, false, []⟩] none [1, 2, 3, 4, 16, 17, 18, 19]))))
  (.seq (.ops [⟨(some 113), .mov (.t 17), none, false, []⟩,
    ⟨(some 114), .bin .none .sub (.t 113) (.c (.int .i64 1)), none, false, []⟩,
    ⟨(some 20), .mov (.t 114), none, false, []⟩] none [1, 2, 3, 4, 16, 17, 18, 19, 20])
  (.seq (.block 8 (.loop [1, 2, 3, 4, 16, 17, 20] [18, 19] 1
    (.seq (.seq (.ops [⟨(some 115), .mov (.t 18), none, false, []⟩,
      ⟨(some 116), .mov (.t 19), none, false, []⟩,
      ⟨(some 117), .bin .none .lss (.t 115) (.t 116), none, false, []⟩] none [1, 2, 3, 4, 16, 17, 18, 19, 20, 117])
    (.cond (.t 117)
      .skip
      (.exit 8)))
    (.block 9 (.seq (.ops [⟨(some 118), .mov (.t 18), none, false, []⟩,
      ⟨(some 119), .mov (.t 19), none, false, []⟩,
      ⟨(some 120), .bin .none .add (.t 118) (.t 119), none, false, []⟩,
      ⟨(some 121), .conv .u64 (.t 120), none, false, []⟩,
      ⟨(some 122), .bin .none .shr (.t 121) (.c (.int .u64 1)), none, false, []⟩,
      ⟨(some 123), .conv .i64 (.t 122), none, false, []⟩,
      ⟨(some 21), .mov (.t 123), none, false, []⟩] none [1, 2, 3, 4, 16, 17, 18, 19, 20, 21])
    (.seq (.ops [⟨(some 124), .faddr 0 (.t 4), none, false, []⟩,
      ⟨(some 125), .load 1 false (.t 124), none, false, []⟩,
      ⟨(some 126), .mov (.t 20), none, false, []⟩,
      ⟨(some 127), .mov (.t 21), none, false, []⟩,
      ⟨(some 128), .bin .none .sub (.t 126) (.t 127), none, false, []⟩,
      ⟨(some 129), .mov (.t 21), none, false, []⟩,
      ⟨(some 130), .callv (.t 125) [(.t 128), (.t 129)], none, false, []⟩,
      ⟨(some 131), .not (.t 130), none, false, []⟩] none [1, 2, 3, 4, 16, 17, 18, 19, 20, 21, 131])
    (.cond (.t 131)
      (.ops [⟨(some 132), .mov (.t 21), none, false, []⟩,
        ⟨(some 133), .bin .none .add (.t 132) (.c (.int .i64 1)), none, false, []⟩,
        ⟨(some 18), .mov (.t 133), none, false, []⟩] none [1, 2, 3, 4, 16, 17, 18, 19, 20])
      (.ops [⟨(some 134), .mov (.t 21), none, false, []⟩,
        ⟨(some 19), .mov (.t 134), none, false, []⟩] none [1, 2, 3, 4, 16, 17, 18, 19, 20]))))))))
  (.seq (.ops [⟨(some 135), .mov (.t 17), none, false, []⟩,
    ⟨(some 136), .mov (.t 18), none, false, []⟩,
    ⟨(some 137), .bin .none .sub (.t 135) (.t 136), none, false, []⟩,
    ⟨(some 22), .mov (.t 137), none, false, []⟩] none [1, 2, 3, 4, 16, 18, 22])
  (.join [1, 3, 4, 16, 18, 22] [] 1 (.seq (.ops [⟨(some 138), .mov (.t 18), none, false, []⟩,
      ⟨(some 139), .mov (.t 2), none, false, []⟩,
      ⟨(some 140), .bin .none .lss (.t 138) (.t 139), none, false, []⟩,
      ⟨(some 141), .mov (.t 140), none, true, []⟩,
      ⟨(some 142), .mov (.t 2), (some (141, true)), false, []⟩,
      ⟨(some 143), .mov (.t 22), (some (141, true)), false, []⟩,
      ⟨(some 144), .bin .none .lss (.t 142) (.t 143), (some (141, true)), false, []⟩,
      ⟨(some 145), .pick (.t 141) (.t 144) (.c (.bool false)), none, false, []⟩] none [1, 2, 3, 4, 16, 18, 22, 145])
    (.cond (.t 145)
      (.ops [⟨(some 146), .load 2 true (.t 4), none, false, []⟩,
        ⟨(some 147), .mov (.t 18), none, false, []⟩,
        ⟨(some 148), .mov (.t 2), none, false, []⟩,
        ⟨(some 149), .mov (.t 22), none, false, []⟩,
        ⟨(some 150), .call f_sort_rotate_func [(.t 146), (.t 147), (.t 148), (.t 149)], none, false, []⟩] none [1, 3, 4, 16, 18, 22])
      .skip))
  (.join [3, 4, 16, 22] [] 1 (.seq (.ops [⟨(some 151), .mov (.t 1), none, false, []⟩,
      ⟨(some 152), .mov (.t 18), none, false, []⟩,
      ⟨(some 153), .bin .none .lss (.t 151) (.t 152), none, false, []⟩,
      ⟨(some 154), .mov (.t 153), none, true, []⟩,
      ⟨(some 155), .mov (.t 18), (some (154, true)), false, []⟩,
      ⟨(some 156), .mov (.t 16), (some (154, true)), false, []⟩,
      ⟨(some 157), .bin .none .lss (.t 155) (.t 156), (some (154, true)), false, []⟩,
      ⟨(some 158), .pick (.t 154) (.t 157) (.c (.bool false)), none, false, []⟩] none [1, 3, 4, 16, 18, 22, 158])
    (.cond (.t 158)
      (.ops [⟨(some 159), .load 2 true (.t 4), none, false, []⟩,
        ⟨(some 160), .mov (.t 1), none, false, []⟩,
        ⟨(some 161), .mov (.t 18), none, false, []⟩,
        ⟨(some 162), .mov (.t 16), none, false, []⟩,
        ⟨(some 163), .call f_sort_symMerge_func [(.t 159), (.t 160), (.t 161), (.t 162)], none, false, []⟩] none [3, 4, 16, 22])
      .skip))
  (.seq (.ops [⟨(some 164), .mov (.t 16), none, false, []⟩,
    ⟨(some 165), .mov (.t 22), none, false, []⟩,
    ⟨(some 166), .bin .none .lss (.t 164) (.t 165), none, false, []⟩,
    ⟨(some 167), .mov (.t 166), none, true, []⟩,
    ⟨(some 168), .mov (.t 22), (some (167, true)), false, []⟩,
    ⟨(some 169), .mov (.t 3), (some (167, true)), false, []⟩,
    ⟨(some 170), .bin .none .lss (.t 168) (.t 169), (some (167, true)), false, []⟩,
    ⟨(some 171), .pick (.t 167) (.t 170) (.c (.bool false)), none, false, []⟩] none [3, 4, 16, 22, 171])
  (.cond (.t 171)
    (.ops [⟨(some 172), .load 2 true (.t 4), none, false, []⟩,
      ⟨(some 173), .mov (.t 16), none, false, []⟩,
      ⟨(some 174), .mov (.t 22), none, false, []⟩,
      ⟨(some 175), .mov (.t 3), none, false, []⟩,
      ⟨(some 176), .call f_sort_symMerge_func [(.t 172), (.t 173), (.t 174), (.t 175)], none, false, []⟩] none [])
    .skip))))))))))))))
def sort_symMerge_func_r : List RRes := []
def sort_symMerge_func_hi : Hi := ⟨[], [(0, "data"), (1, "a"), (2, "m"), (3, "b"), (4, "data"), (5, "a"), (6, "m"), (7, "b"), (8, "i"), (9, "j"), (10, "h"), (11, "k"), (12, "i"), (13, "j"), (14, "h"), (15, "k"), (16, "mid"), (17, "n"), (18, "start"), (19, "r"), (20, "p"), (21, "c"), (22, "end")]⟩
def sort_symMerge_func_an : An := (.seq .d (.seq (.seq .d (.seq (.seq .d (.seq .d (.seq (.loop [] [] [] .d) (.seq (.seq .d (.loop [4] [] [] .d)) .d)))) .d)) (.seq (.seq .d (.seq (.seq .d (.seq .d (.seq (.loop [] [] [] .d) (.seq (.seq .d (.loop [4] [] [] .d)) .d)))) .d)) (.seq .d (.seq .d (.seq .d (.seq .d (.seq .d (.seq (.loop [] [] [] .d) .d)))))))))
def sort_symMerge_func_fi : Fi := ⟨177, sort_symMerge_func_c, sort_symMerge_func_r, sort_symMerge_func_an, sort_symMerge_func_hi, none⟩
theorem sort_symMerge_func_ok : FiOk Try.prog f_sort_symMerge_func sort_symMerge_func_fi :=
  ⟨fun _ => by kernel_rfl, fun _ h hlen => fun_sound (by kernel_rfl) (fn := Try.f139) (draw_sound _ _) Try.func139 rfl (by kernel_rfl : comp Try.prog 177 _ sort_symMerge_func_c = some sort_symMerge_func_c) (by kernel_rfl : cRes Try.prog Try.f139.results.toList = some sort_symMerge_func_r) hlen h, fun _ h => nomatch h⟩

/-- sort.stable_func: slots [0 data, 1 n, 2 data, 3 n, 4 blockSize, 5 a, 6 b, 7 m] -/
def sort_stable_func_c : SCode :=
  (.seq (.ops [⟨(some 2), .box 0 (.t 0), none, false, []⟩] none [1, 2])
  (.seq (.ops [⟨(some 4), .mov (.c (.int .i64 20)), none, false, []⟩] none [1, 2, 4])
  (.seq (.ops [⟨(some 8), .mov (.t 4), none, false, []⟩,
    ⟨(some 5), .mov (.c (.int .i64 0)), none, false, []⟩,
    ⟨(some 6), .mov (.t 8), none, false, []⟩] none [1, 2, 4, 5, 6])
  (.seq (.block 0 (.loop [1, 2, 4] [5, 6] 1
    (.seq (.seq (.ops [⟨(some 9), .mov (.t 6), none, false, []⟩,
      ⟨(some 10), .mov (.t 1), none, false, []⟩,
      ⟨(some 11), .bin .none .leq (.t 9) (.t 10), none, false, []⟩] none [1, 2, 4, 5, 6, 11])
    (.cond (.t 11)
      .skip
      (.exit 0)))
    (.block 1 (.seq (.ops [⟨(some 12), .load 2 true (.t 2), none, false, []⟩,
      ⟨(some 13), .mov (.t 5), none, false, []⟩,
      ⟨(some 14), .mov (.t 6), none, false, []⟩,
      ⟨(some 15), .call f_sort_insertionSort_func [(.t 12), (.t 13), (.t 14)], none, false, []⟩] none [1, 2, 4, 6])
    (.seq (.ops [⟨(some 16), .mov (.t 6), none, false, []⟩,
      ⟨(some 5), .mov (.t 16), none, false, []⟩] none [1, 2, 4, 5, 6])
    (.ops [⟨(some 17), .mov (.t 6), none, false, []⟩,
      ⟨(some 18), .mov (.t 4), none, false, []⟩,
      ⟨(some 19), .bin .none .add (.t 17) (.t 18), none, false, []⟩,
      ⟨(some 6), .mov (.t 19), none, false, []⟩] none [1, 2, 4, 5, 6])))))))
  (.seq (.ops [⟨(some 20), .load 2 true (.t 2), none, false, []⟩,
    ⟨(some 21), .mov (.t 5), none, false, []⟩,
    ⟨(some 22), .mov (.t 1), none, false, []⟩,
    ⟨(some 23), .call f_sort_insertionSort_func [(.t 20), (.t 21), (.t 22)], none, false, []⟩] none [1, 2, 4])
  (.block 2 (.loop [1, 2] [4] 1
    (.seq (.seq (.ops [⟨(some 24), .mov (.t 4), none, false, []⟩,
      ⟨(some 25), .mov (.t 1), none, false, []⟩,
      ⟨(some 26), .bin .none .lss (.t 24) (.t 25), none, false, []⟩] none [1, 2, 4, 26])
    (.cond (.t 26)
      .skip
      (.exit 2)))
    (.block 3 (.seq (.ops [⟨(some 27), .mov (.t 4), none, false, []⟩,
      ⟨(some 28), .bin .none .mul (.c (.int .i64 2)) (.t 27), none, false, []⟩,
      ⟨(some 5), .mov (.c (.int .i64 0)), none, false, []⟩,
      ⟨(some 6), .mov (.t 28), none, false, []⟩] none [1, 2, 4, 5, 6])
    (.seq (.block 4 (.loop [1, 2, 4] [5, 6] 1
      (.seq (.seq (.ops [⟨(some 29), .mov (.t 6), none, false, []⟩,
        ⟨(some 30), .mov (.t 1), none, false, []⟩,
        ⟨(some 31), .bin .none .leq (.t 29) (.t 30), none, false, []⟩] none [1, 2, 4, 5, 6, 31])
      (.cond (.t 31)
        .skip
        (.exit 4)))
      (.block 5 (.seq (.ops [⟨(some 32), .load 2 true (.t 2), none, false, []⟩,
        ⟨(some 33), .mov (.t 5), none, false, []⟩,
        ⟨(some 34), .mov (.t 5), none, false, []⟩,
        ⟨(some 35), .mov (.t 4), none, false, []⟩,
        ⟨(some 36), .bin .none .add (.t 34) (.t 35), none, false, []⟩,
        ⟨(some 37), .mov (.t 6), none, false, []⟩,
        ⟨(some 38), .call f_sort_symMerge_func [(.t 32), (.t 33), (.t 36), (.t 37)], none, false, []⟩] none [1, 2, 4, 6])
      (.seq (.ops [⟨(some 39), .mov (.t 6), none, false, []⟩,
        ⟨(some 5), .mov (.t 39), none, false, []⟩] none [1, 2, 4, 5, 6])
      (.ops [⟨(some 40), .mov (.t 6), none, false, []⟩,
        ⟨(some 41), .mov (.t 4), none, false, []⟩,
        ⟨(some 42), .bin .none .mul (.c (.int .i64 2)) (.t 41), none, false, []⟩,
        ⟨(some 43), .bin .none .add (.t 40) (.t 42), none, false, []⟩,
        ⟨(some 6), .mov (.t 43), none, false, []⟩] none [1, 2, 4, 5, 6])))))))
    (.join [1, 2, 4] [] 1 (.seq (.ops [⟨(some 44), .mov (.t 5), none, false, []⟩,
        ⟨(some 45), .mov (.t 4), none, false, []⟩,
        ⟨(some 46), .bin .none .add (.t 44) (.t 45), none, false, []⟩,
        ⟨(some 7), .mov (.t 46), none, false, []⟩] none [1, 2, 4, 5, 7])
      (.seq (.ops [⟨(some 47), .mov (.t 7), none, false, []⟩,
        ⟨(some 48), .mov (.t 1), none, false, []⟩,
        ⟨(some 49), .bin .none .lss (.t 47) (.t 48), none, false, []⟩] none [1, 2, 4, 5, 7, 49])
      (.cond (.t 49)
        (.ops [⟨(some 50), .load 2 true (.t 2), none, false, []⟩,
          ⟨(some 51), .mov (.t 5), none, false, []⟩,
          ⟨(some 52), .mov (.t 7), none, false, []⟩,
          ⟨(some 53), .mov (.t 1), none, false, []⟩,
          ⟨(some 54), .call f_sort_symMerge_func [(.t 50), (.t 51), (.t 52), (.t 53)], none, false, []⟩] none [1, 2, 4])
        .skip)))
    (.ops [⟨(some 55), .mov (.t 4), none, false, []⟩,
      ⟨(some 56), .bin .none .mul (.t 55) (.c (.int .i64 2)), none, false, []⟩,
      ⟨(some 4), .mov (.t 56), none, false, []⟩] none [1, 2, 4])))))))))))))
def sort_stable_func_r : List RRes := []
def sort_stable_func_hi : Hi := ⟨[], [(0, "data"), (1, "n"), (2, "data"), (3, "n"), (4, "blockSize"), (5, "a"), (6, "b"), (7, "m")]⟩
def sort_stable_func_an : An := (.seq .d (.seq .d (.seq .d (.seq (.loop [2] [] [] .d) (.seq .d (.loop [2] [] [] (.seq .d (.seq .d (.seq (.loop [2] [] [] .d) .d)))))))))
def sort_stable_func_fi : Fi := ⟨57, sort_stable_func_c, sort_stable_func_r, sort_stable_func_an, sort_stable_func_hi, none⟩
theorem sort_stable_func_ok : FiOk Try.prog f_sort_stable_func sort_stable_func_fi :=
  ⟨fun _ => by kernel_rfl, fun _ h hlen => fun_sound (by kernel_rfl) (fn := Try.f103) (draw_sound _ _) Try.func103 rfl (by kernel_rfl : comp Try.prog 57 _ sort_stable_func_c = some sort_stable_func_c) (by kernel_rfl : cRes Try.prog Try.f103.results.toList = some sort_stable_func_r) hlen h, fun _ h => nomatch h⟩

/-- sort.SliceStable: slots [0 x, 1 less, 2 x, 3 less, 4 rv, 5 swap] -/
def sort_SliceStable_c : SCode :=
  (.seq (.ops [⟨(some 6), .mov (.t 0), none, false, []⟩,
    ⟨(some 7), .bad, none, false, []⟩,
    ⟨(some 4), .alloc 0 [.nilp, .nilp, (.int .u64 0)], none, false, []⟩,
    ⟨none, .store 3 (.t 4) (.t 7), none, false, []⟩] none [0, 1, 4])
  (.seq (.ops [⟨(some 8), .mov (.t 0), none, false, []⟩,
    ⟨(some 9), .bad, none, false, []⟩,
    ⟨(some 5), .mov (.t 9), none, false, []⟩] none [1, 4, 5])
  (.ops [⟨(some 10), .mov (.t 1), none, false, []⟩,
    ⟨(some 11), .mov (.t 5), none, false, []⟩,
    ⟨(some 12), .build [.nilf, .nilf] [(0, 1, (.t 10)), (1, 1, (.t 11))], none, false, []⟩,
    ⟨(some 13), .load 3 true (.t 4), none, false, []⟩,
    ⟨(some 14), .bad, none, false, []⟩,
    ⟨(some 15), .call f_sort_stable_func [(.t 12), (.t 14)], none, false, []⟩] none [])))
def sort_SliceStable_r : List RRes := []
def sort_SliceStable_hi : Hi := ⟨[], [(0, "x"), (1, "less"), (2, "x"), (3, "less"), (4, "rv"), (5, "swap")]⟩
def sort_SliceStable_an : An := .d
def sort_SliceStable_fi : Fi := ⟨16, sort_SliceStable_c, sort_SliceStable_r, sort_SliceStable_an, sort_SliceStable_hi, none⟩
theorem sort_SliceStable_ok : FiOk Try.prog f_sort_SliceStable sort_SliceStable_fi :=
  ⟨fun _ => by kernel_rfl, fun _ h hlen => fun_sound (by kernel_rfl) (fn := Try.f67) (draw_sound _ _) Try.func67 rfl (by kernel_rfl : comp Try.prog 16 _ sort_SliceStable_c = some sort_SliceStable_c) (by kernel_rfl : cRes Try.prog Try.f67.results.toList = some sort_SliceStable_r) hlen h, fun _ h => nomatch h⟩

/-- fustian/fustianref.FuzzyGuess: slots [0 words, 1 word, 2 many, 3 words, 4 word, 5 many, 8 _, 9 w, 10 out, 11 i] -/
def ref_FuzzyGuess_c : SCode :=
  (.seq (.ops [⟨(some 3), .box 0 (.t 0), none, false, []⟩,
    ⟨(some 4), .box 0 (.t 1), none, false, []⟩,
    ⟨(some 6), .mov (.c .nils), none, false, []⟩,
    ⟨(some 7), .mov (.c (.int .i64 0)), none, false, []⟩] none [2, 3, 4])
  (.seq (.seq (.ops [⟨(some 12), .load 1 false (.t 3), none, false, []⟩,
    ⟨(some 13), .len false (.t 12), none, false, []⟩,
    ⟨(some 14), .bin .none .gtr (.t 13) (.c (.int .i64 80)), none, false, []⟩,
    ⟨(some 15), .mov (.t 14), none, true, []⟩,
    ⟨(some 16), .load 1 false (.t 4), (some (15, false)), false, []⟩,
    ⟨(some 17), .len true (.t 16), (some (15, false)), false, []⟩,
    ⟨(some 18), .bin .none .gtr (.t 17) (.c (.int .i64 20)), (some (15, false)), false, []⟩,
    ⟨(some 19), .pick (.t 15) (.c (.bool true)) (.t 18), none, false, []⟩] none [2, 3, 4, 19])
  (.cond (.t 19)
    (.seq (.ops [⟨(some 6), .mov (.c .nils), none, false, []⟩,
      ⟨(some 7), .mov (.c (.int .i64 1)), none, false, []⟩] none [6, 7])
    .ret)
    .skip))
  (.seq (.seq (.ops [⟨(some 20), .load 1 false (.t 3), none, false, []⟩,
    ⟨(some 21), .len false (.t 20), none, false, []⟩,
    ⟨(some 22), .mov (.c (.int .i64 0)), none, false, []⟩] none [2, 3, 4, 20, 21, 22])
  (.block 0 (.loop [2, 3, 4, 20, 21] [22] 2
    (.seq (.ops [⟨(some 23), .bin .none .lss (.t 22) (.t 21), none, false, []⟩] none [2, 3, 4, 20, 21, 22, 23])
    (.seq (.cond (.t 23)
      .skip
      (.exit 0))
    (.seq (.block 1 (.seq (.ops [⟨(some 24), .iaddr 1 none (.t 20) (.t 22), none, false, []⟩,
      ⟨(some 25), .load 1 false (.t 24), none, false, []⟩,
      ⟨(some 9), .mov (.t 25), none, false, []⟩] none [2, 3, 4, 9, 20, 21, 22])
    (.seq (.ops [⟨(some 26), .mov (.t 9), none, false, []⟩,
      ⟨(some 27), .len true (.t 26), none, false, []⟩,
      ⟨(some 28), .bin .none .gtr (.t 27) (.c (.int .i64 20)), none, false, []⟩] none [2, 3, 4, 20, 21, 22, 28])
    (.cond (.t 28)
      (.seq (.ops [⟨(some 6), .mov (.c .nils), none, false, []⟩,
        ⟨(some 7), .mov (.c (.int .i64 1)), none, false, []⟩] none [6, 7])
      .ret)
      .skip))))
    (.ops [⟨(some 29), .bin .none .add (.t 22) (.c (.int .i64 1)), none, false, []⟩,
      ⟨(some 22), .mov (.t 29), none, false, []⟩] none [2, 3, 4, 20, 21, 22])))))))
  (.seq (.seq (.ops [⟨(some 30), .mov (.t 2), none, false, []⟩,
    ⟨(some 31), .bin .none .lss (.t 30) (.c (.int .i64 0)), none, false, []⟩] none [2, 3, 4, 31])
  (.cond (.t 31)
    (.seq (.ops [⟨(some 6), .mov (.c .nils), none, false, []⟩,
      ⟨(some 7), .mov (.c (.int .i64 2)), none, false, []⟩] none [6, 7])
    .ret)
    .skip))
  (.seq (.ops [⟨(some 10), .alloc 0 [.nils], none, false, []⟩] none [2, 3, 4, 10])
  (.seq (.seq (.ops [⟨(some 32), .load 1 false (.t 3), none, false, []⟩,
    ⟨(some 33), .len false (.t 32), none, false, []⟩,
    ⟨(some 34), .mov (.c (.int .i64 0)), none, false, []⟩] none [2, 3, 4, 10, 33, 34])
  (.block 2 (.loop [2, 3, 4, 10, 33] [34] 3
    (.seq (.ops [⟨(some 35), .bin .none .lss (.t 34) (.t 33), none, false, []⟩] none [2, 3, 4, 10, 33, 34, 35])
    (.seq (.cond (.t 35)
      .skip
      (.exit 2))
    (.seq (.block 3 (.seq (.ops [⟨(some 36), .mov (.t 34), none, false, []⟩,
      ⟨(some 11), .mov (.t 36), none, false, []⟩] none [2, 3, 4, 10, 11, 33, 34])
    (.ops [⟨(some 37), .load 1 false (.t 10), none, false, []⟩,
      ⟨(some 38), .mov (.t 11), none, false, []⟩,
      ⟨(some 39), .bslice true 1 1 [(.int .i64 0)] [(0, 1, (.t 38))], none, false, []⟩,
      ⟨(some 40), .append 1 8 (.t 37) (.t 39), none, false, []⟩,
      ⟨none, .store 1 (.t 10) (.t 40), none, false, []⟩] none [2, 3, 4, 10, 33, 34])))
    (.ops [⟨(some 41), .bin .none .add (.t 34) (.c (.int .i64 1)), none, false, []⟩,
      ⟨(some 34), .mov (.t 41), none, false, []⟩] none [2, 3, 4, 10, 33, 34])))))))
  (.seq (.ops [⟨(some 42), .load 1 false (.t 10), none, false, []⟩,
    ⟨(some 43), .mkif 35 (.t 42), none, false, []⟩,
    ⟨(some 44), .mkfunc (.func f_ref_FuzzyGuess_1) [] [(.t 3), (.t 10), (.t 4)], none, false, []⟩,
    ⟨(some 45), .call f_sort_SliceStable [(.t 43), (.t 44)], none, false, []⟩] none [2, 10])
  (.seq (.ops [⟨(some 46), .load 1 false (.t 10), none, false, []⟩,
    ⟨(some 47), .mov (.t 2), none, false, []⟩,
    ⟨(some 48), .load 1 false (.t 10), none, false, []⟩,
    ⟨(some 49), .len false (.t 48), none, false, []⟩,
    ⟨(some 50), .min [(.t 47), (.t 49)], none, false, []⟩,
    ⟨(some 51), .slice 1 (.t 46) none (some (.t 50)), none, false, []⟩,
    ⟨(some 6), .mov (.t 51), none, false, []⟩,
    ⟨(some 7), .mov (.c (.int .i64 0)), none, false, []⟩] none [6, 7])
  .ret))))))))
def ref_FuzzyGuess_r : List RRes := [.tmp 6, .tmp 7]
def ref_FuzzyGuess_hi : Hi := ⟨[(39, (.int .i64)), (40, (.int .i64)), (3, (.sl .str)), (10, (.sl (.int .i64)))], [(0, "words"), (1, "word"), (2, "many"), (3, "words"), (4, "word"), (5, "many"), (9, "w"), (10, "out"), (11, "i")]⟩
def ref_FuzzyGuess_an : An := (.seq .d (.seq .d (.seq (.seq .d (.loop [] [] [] .d)) (.seq .d (.seq .d (.seq (.seq .d (.loop [10] [] [] .d)) .d))))))
def ref_FuzzyGuess_fi : Fi := ⟨52, ref_FuzzyGuess_c, ref_FuzzyGuess_r, ref_FuzzyGuess_an, ref_FuzzyGuess_hi, none⟩
theorem ref_FuzzyGuess_ok : FiOk Try.prog f_ref_FuzzyGuess ref_FuzzyGuess_fi :=
  ⟨fun _ => by kernel_rfl, fun _ h hlen => fun_sound (by kernel_rfl) (fn := Try.f26) (draw_sound _ _) Try.func26 rfl (by kernel_rfl : comp Try.prog 52 _ ref_FuzzyGuess_c = some ref_FuzzyGuess_c) (by kernel_rfl : cRes Try.prog Try.f26.results.toList = some ref_FuzzyGuess_r) hlen h, fun _ h => nomatch h⟩

/-- fustian/fustianlaw.sameInts: slots [0 a, 1 b, 2 a, 3 b, 5 i] -/
def law_sameInts_c : SCode :=
  (.seq (.ops [⟨(some 4), .mov (.c (.bool false)), none, false, []⟩] none [0, 1])
  (.seq (.seq (.ops [⟨(some 6), .mov (.t 0), none, false, []⟩,
    ⟨(some 7), .len false (.t 6), none, false, []⟩,
    ⟨(some 8), .mov (.t 1), none, false, []⟩,
    ⟨(some 9), .len false (.t 8), none, false, []⟩,
    ⟨(some 10), .bin .none .neq (.t 7) (.t 9), none, false, []⟩] none [0, 1, 10])
  (.cond (.t 10)
    (.seq (.ops [⟨(some 4), .mov (.c (.bool false)), none, false, []⟩] none [4])
    .ret)
    .skip))
  (.seq (.seq (.ops [⟨(some 5), .mov (.c (.int .i64 0)), none, false, []⟩] none [0, 1, 5])
  (.block 0 (.loop [0, 1] [5] 0
    (.seq (.seq (.ops [⟨(some 11), .mov (.t 5), none, false, []⟩,
      ⟨(some 12), .mov (.t 0), none, false, []⟩,
      ⟨(some 13), .len false (.t 12), none, false, []⟩,
      ⟨(some 14), .bin .none .lss (.t 11) (.t 13), none, false, []⟩] none [0, 1, 5, 14])
    (.cond (.t 14)
      .skip
      (.exit 0)))
    (.seq (.block 1 (.seq (.ops [⟨(some 17), .mov (.t 0), none, false, []⟩,
      ⟨(some 18), .mov (.t 5), none, false, []⟩,
      ⟨(some 19), .iaddr 1 none (.t 17) (.t 18), none, false, []⟩,
      ⟨(some 20), .load 1 false (.t 19), none, false, []⟩,
      ⟨(some 21), .mov (.t 1), none, false, []⟩,
      ⟨(some 22), .mov (.t 5), none, false, []⟩,
      ⟨(some 23), .iaddr 1 none (.t 21) (.t 22), none, false, []⟩,
      ⟨(some 24), .load 1 false (.t 23), none, false, []⟩,
      ⟨(some 25), .bin .none .neq (.t 20) (.t 24), none, false, []⟩] (some (0, 0, [0, 1, 2, 3, 4, 5, 6, 7, 8])) [0, 1, 5, 25])
    (.cond (.t 25)
      (.seq (.ops [⟨(some 4), .mov (.c (.bool false)), none, false, []⟩] none [4])
      .ret)
      .skip)))
    (.ops [⟨(some 15), .mov (.t 5), none, false, []⟩,
      ⟨(some 16), .bin .none .add (.t 15) (.c (.int .i64 1)), none, false, []⟩,
      ⟨(some 5), .mov (.t 16), none, false, []⟩] none [0, 1, 5]))))))
  (.seq (.ops [⟨(some 4), .mov (.c (.bool true)), none, false, []⟩] none [4])
  .ret))))
def law_sameInts_r : List RRes := [.tmp 4]
def law_sameInts_hi : Hi := ⟨[], [(0, "a"), (1, "b"), (2, "a"), (3, "b"), (5, "i")]⟩
def law_sameInts_an : An := (.seq .d (.seq .d (.seq (.seq .d (.loop [] [] [] .d)) .d)))
def law_sameInts_fi : Fi := ⟨26, law_sameInts_c, law_sameInts_r, law_sameInts_an, law_sameInts_hi, none⟩
theorem law_sameInts_ok : FiOk Try.prog f_law_sameInts law_sameInts_fi :=
  ⟨fun _ => by kernel_rfl, fun _ h hlen => fun_sound (by kernel_rfl) (fn := Try.f27) (draw_sound _ _) Try.func27 rfl (by kernel_rfl : comp Try.prog 26 _ law_sameInts_c = some law_sameInts_c) (by kernel_rfl : cRes Try.prog Try.f27.results.toList = some law_sameInts_r) hlen h, fun _ h => nomatch h⟩

/-- fustian/fustianlaw.FuzzyGuesses: slots [0 words, 1 word, 2 many, 3 words, 4 word, 5 many, 7 x, 8 e, 9 y, 10 f] -/
def law_FuzzyGuesses_c : SCode :=
  (.seq (.ops [⟨(some 6), .mov (.c (.bool false)), none, false, []⟩] none [0, 1, 2])
  (.seq (.ops [⟨(some 12), .mov (.t 0), none, false, []⟩,
    ⟨(some 13), .mov (.t 1), none, false, []⟩,
    ⟨(some 14), .mov (.t 2), none, false, []⟩,
    ⟨(some 15), .call f_fuzzy_Guess [(.t 12), (.t 13), (.t 14)], none, false, []⟩,
    ⟨(some 11), .mov (.t 15), none, false, []⟩,
    ⟨(some 16), .extract (.t 11) 0, none, false, []⟩,
    ⟨(some 17), .extract (.t 11) 1, none, false, []⟩,
    ⟨(some 7), .mov (.t 16), none, false, []⟩,
    ⟨(some 8), .mov (.t 17), none, false, []⟩] none [0, 1, 2, 7, 8])
  (.seq (.ops [⟨(some 19), .mov (.t 0), none, false, []⟩,
    ⟨(some 20), .mov (.t 1), none, false, []⟩,
    ⟨(some 21), .mov (.t 2), none, false, []⟩,
    ⟨(some 22), .call f_ref_FuzzyGuess [(.t 19), (.t 20), (.t 21)], none, false, []⟩,
    ⟨(some 18), .mov (.t 22), none, false, []⟩,
    ⟨(some 23), .extract (.t 18) 0, none, false, []⟩,
    ⟨(some 24), .extract (.t 18) 1, none, false, []⟩,
    ⟨(some 9), .mov (.t 23), none, false, []⟩,
    ⟨(some 10), .mov (.t 24), none, false, []⟩] none [7, 8, 9, 10])
  (.seq (.ops [⟨(some 25), .mov (.t 7), none, false, []⟩,
    ⟨(some 26), .mov (.t 9), none, false, []⟩,
    ⟨(some 27), .call f_law_sameInts [(.t 25), (.t 26)], none, false, []⟩,
    ⟨(some 28), .mov (.t 27), none, true, []⟩,
    ⟨(some 29), .mov (.t 8), (some (28, true)), false, []⟩,
    ⟨(some 30), .mov (.t 10), (some (28, true)), false, []⟩,
    ⟨(some 31), .bin .none .eql (.t 29) (.t 30), (some (28, true)), false, []⟩,
    ⟨(some 32), .pick (.t 28) (.t 31) (.c (.bool false)), none, false, []⟩,
    ⟨(some 6), .mov (.t 32), none, false, []⟩] none [6])
  .ret))))
def law_FuzzyGuesses_r : List RRes := [.tmp 6]
def law_FuzzyGuesses_hi : Hi := ⟨[], [(0, "words"), (1, "word"), (2, "many"), (3, "words"), (4, "word"), (5, "many"), (7, "x"), (8, "e"), (9, "y"), (10, "f")]⟩
def law_FuzzyGuesses_an : An := .d
def law_FuzzyGuesses_fi : Fi := ⟨33, law_FuzzyGuesses_c, law_FuzzyGuesses_r, law_FuzzyGuesses_an, law_FuzzyGuesses_hi, none⟩
theorem law_FuzzyGuesses_ok : FiOk Try.prog f_law_FuzzyGuesses law_FuzzyGuesses_fi :=
  ⟨fun _ => by kernel_rfl, fun _ h hlen => fun_sound (by kernel_rfl) (fn := Try.f7) (draw_sound _ _) Try.func7 rfl (by kernel_rfl : comp Try.prog 33 _ law_FuzzyGuesses_c = some law_FuzzyGuesses_c) (by kernel_rfl : cRes Try.prog Try.f7.results.toList = some law_FuzzyGuesses_r) hlen h, fun _ h => nomatch h⟩

/-- slices.ContainsFunc[[]string,string]: slots [0 s, 1 f, 2 s, 3 f] -/
def slices_ContainsFunc___string_string__c : SCode :=
  (.seq (.ops [⟨(some 4), .mov (.c (.bool false)), none, false, []⟩] none [0, 1])
  (.seq (.ops [⟨(some 5), .mov (.t 0), none, false, []⟩,
    ⟨(some 6), .mov (.t 1), none, false, []⟩,
    ⟨(some 7), .call f_slices_IndexFunc___string_string_ [(.t 5), (.t 6)], none, false, []⟩,
    ⟨(some 8), .bin .none .geq (.t 7) (.c (.int .i64 0)), none, false, []⟩,
    ⟨(some 4), .mov (.t 8), none, false, []⟩] none [4])
  .ret))
def slices_ContainsFunc___string_string__r : List RRes := [.tmp 4]
def slices_ContainsFunc___string_string__hi : Hi := ⟨[], [(0, "s"), (1, "f"), (2, "s"), (3, "f")]⟩
def slices_ContainsFunc___string_string__an : An := .d
def slices_ContainsFunc___string_string__fi : Fi := ⟨9, slices_ContainsFunc___string_string__c, slices_ContainsFunc___string_string__r, slices_ContainsFunc___string_string__an, slices_ContainsFunc___string_string__hi, none⟩
theorem slices_ContainsFunc___string_string__ok : FiOk Try.prog f_slices_ContainsFunc___string_string_ slices_ContainsFunc___string_string__fi :=
  ⟨fun _ => by kernel_rfl, fun _ h hlen => fun_sound (by kernel_rfl) (fn := Try.f95) (draw_sound _ _) Try.func95 rfl (by kernel_rfl : comp Try.prog 9 _ slices_ContainsFunc___string_string__c = some slices_ContainsFunc___string_string__c) (by kernel_rfl : cRes Try.prog Try.f95.results.toList = some slices_ContainsFunc___string_string__r) hlen h, fun _ h => nomatch h⟩

/-- slices.IndexFunc[[]string,string]: slots [0 s, 1 f, 2 s, 3 f, 5 i] -/
def slices_IndexFunc___string_string__c : SCode :=
  (.seq (.ops [⟨(some 4), .mov (.c (.int .i64 0)), none, false, []⟩] none [0, 1])
  (.seq (.seq (.ops [⟨(some 6), .mov (.t 0), none, false, []⟩,
    ⟨(some 7), .len false (.t 6), none, false, []⟩,
    ⟨(some 8), .mov (.c (.int .i64 0)), none, false, []⟩] none [0, 1, 7, 8])
  (.block 0 (.loop [0, 1, 7] [8] 0
    (.seq (.ops [⟨(some 9), .bin .none .lss (.t 8) (.t 7), none, false, []⟩] none [0, 1, 7, 8, 9])
    (.seq (.cond (.t 9)
      .skip
      (.exit 0))
    (.seq (.block 1 (.seq (.ops [⟨(some 10), .mov (.t 8), none, false, []⟩,
      ⟨(some 5), .mov (.t 10), none, false, []⟩] none [0, 1, 5, 7, 8])
    (.seq (.ops [⟨(some 11), .mov (.t 1), none, false, []⟩,
      ⟨(some 12), .mov (.t 0), none, false, []⟩,
      ⟨(some 13), .mov (.t 5), none, false, []⟩,
      ⟨(some 14), .iaddr 1 none (.t 12) (.t 13), none, false, []⟩,
      ⟨(some 15), .load 1 false (.t 14), none, false, []⟩,
      ⟨(some 16), .callv (.t 11) [(.t 15)], none, false, []⟩] none [0, 1, 5, 7, 8, 16])
    (.cond (.t 16)
      (.seq (.ops [⟨(some 17), .mov (.t 5), none, false, []⟩,
        ⟨(some 4), .mov (.t 17), none, false, []⟩] none [4])
      .ret)
      .skip))))
    (.ops [⟨(some 18), .bin .none .add (.t 8) (.c (.int .i64 1)), none, false, []⟩,
      ⟨(some 8), .mov (.t 18), none, false, []⟩] none [0, 1, 7, 8])))))))
  (.seq (.ops [⟨(some 4), .mov (.c (.int .i64 (-1))), none, false, []⟩] none [4])
  .ret)))
def slices_IndexFunc___string_string__r : List RRes := [.tmp 4]
def slices_IndexFunc___string_string__hi : Hi := ⟨[], [(0, "s"), (1, "f"), (2, "s"), (3, "f"), (5, "i")]⟩
def slices_IndexFunc___string_string__an : An := (.seq .d (.seq (.seq .d (.loop [1] [] [] .d)) .d))
def slices_IndexFunc___string_string__fi : Fi := ⟨19, slices_IndexFunc___string_string__c, slices_IndexFunc___string_string__r, slices_IndexFunc___string_string__an, slices_IndexFunc___string_string__hi, none⟩
theorem slices_IndexFunc___string_string__ok : FiOk Try.prog f_slices_IndexFunc___string_string_ slices_IndexFunc___string_string__fi :=
  ⟨fun _ => by kernel_rfl, fun _ h hlen => fun_sound (by kernel_rfl) (fn := Try.f118) (draw_sound _ _) Try.func118 rfl (by kernel_rfl : comp Try.prog 19 _ slices_IndexFunc___string_string__c = some slices_IndexFunc___string_string__c) (by kernel_rfl : cRes Try.prog Try.f118.results.toList = some slices_IndexFunc___string_string__r) hlen h, fun _ h => nomatch h⟩

/-- fustian/fuzzy.long$1: slots [0 s, 1 s] -/
def fuzzy_long_1_c : SCode :=
  (.seq (.ops [⟨(some 2), .mov (.c (.bool false)), none, false, []⟩] none [0])
  (.seq (.ops [⟨(some 3), .mov (.t 0), none, false, []⟩,
    ⟨(some 4), .len true (.t 3), none, false, []⟩,
    ⟨(some 5), .bin .none .gtr (.t 4) (.c (.int .i64 20)), none, false, []⟩,
    ⟨(some 2), .mov (.t 5), none, false, []⟩] none [2])
  .ret))
def fuzzy_long_1_r : List RRes := [.tmp 2]
def fuzzy_long_1_hi : Hi := ⟨[], [(0, "s"), (1, "s")]⟩
def fuzzy_long_1_an : An := .d
def fuzzy_long_1_fi : Fi := ⟨6, fuzzy_long_1_c, fuzzy_long_1_r, fuzzy_long_1_an, fuzzy_long_1_hi, none⟩
theorem fuzzy_long_1_ok : FiOk Try.prog f_fuzzy_long_1 fuzzy_long_1_fi :=
  ⟨fun _ => by kernel_rfl, fun _ h hlen => fun_sound (by kernel_rfl) (fn := Try.f96) (draw_sound _ _) Try.func96 rfl (by kernel_rfl : comp Try.prog 6 _ fuzzy_long_1_c = some fuzzy_long_1_c) (by kernel_rfl : cRes Try.prog Try.f96.results.toList = some fuzzy_long_1_r) hlen h, fun _ h => nomatch h⟩

end Go.Proofs.Ytkemhbclkglmbaa
