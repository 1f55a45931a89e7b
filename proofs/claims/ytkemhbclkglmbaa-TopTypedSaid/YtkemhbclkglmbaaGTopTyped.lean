/- The functions' simplified code, printed by a program of the claim's author; each is checked against the program's own code. Conditions: none. -/
import Derived.Test.YtkemhbclkglmbaaProg
import Derived.Test.YtkemhbclkglmbaaVyM
set_option linter.unusedVariables false
set_option maxRecDepth 100000
namespace Go.Proofs.Ytkemhbclkglmbaa
open Go.Vc
abbrev f_gosem_cut_init : Nat := 2
abbrev f_law_CursorsNorms : Nat := 3
abbrev f_law_CursorsTypes : Nat := 4
abbrev f_law_CursorsFollows : Nat := 5
abbrev f_top_TopTyped : Nat := 6
abbrev f_law_FuzzyGuesses : Nat := 7
abbrev f_law_SuffixAgains : Nat := 8
abbrev f_law_SuffixFinds : Nat := 9
abbrev f_law_SuffixSorts : Nat := 10
abbrev f_law_SuffixCommons : Nat := 11
abbrev f_law_SuffixUnlikes : Nat := 12
abbrev f_law_RopeDepths : Nat := 13
abbrev f_law_RopeMeasures : Nat := 14
abbrev f_cursors_Norm : Nat := 15
abbrev f_ref_CursorsNorm : Nat := 16
abbrev f_law_sameCursors : Nat := 17
abbrev f_cursors_Type : Nat := 18
abbrev f_ref_CursorsType : Nat := 19
abbrev f_cursors_Follow : Nat := 20
abbrev f_ref_CursorsFollow : Nat := 21
abbrev f_keep_Few : Nat := 22
abbrev f_find_All : Nat := 23
abbrev f_find_Replace : Nat := 24
abbrev f_fuzzy_Guess : Nat := 25
abbrev f_ref_FuzzyGuess : Nat := 26
abbrev f_law_sameInts : Nat := 27
abbrev f_suffix_Again : Nat := 28
abbrev f_ref_SuffixAgain : Nat := 29
abbrev f_suffix_Find : Nat := 30
abbrev f_ref_FindAll : Nat := 31
abbrev f_suffix_Sort : Nat := 32
abbrev f_ref_SuffixSort : Nat := 33
abbrev f_suffix_Common : Nat := 34
abbrev f_ref_SuffixCommon : Nat := 35
abbrev f_suffix_Unlike : Nat := 36
abbrev f_ref_SuffixUnlike : Nat := 37
abbrev f_rope_Depths : Nat := 38
abbrev f_ref_RopePlayed : Nat := 39
abbrev f_rope_Measure : Nat := 40
abbrev f_ref_PosOf : Nat := 41
abbrev f_ref_PolyOf : Nat := 42
abbrev f_cursors_fault : Nat := 43
abbrev f_cursors_norm : Nat := 44
abbrev f_ref_cursorsFault : Nat := 45
abbrev f_ref_cursorsNormed : Nat := 46
abbrev f_cursors_lo : Nat := 47
abbrev f_cursors_hi : Nat := 48
abbrev f_edit_Check : Nat := 49
abbrev f_slices_Clone___api_Cursor_api_Cursor_ : Nat := 50
abbrev f_edit_Moved : Nat := 51
abbrev f_ref_EditFault : Nat := 52
abbrev f_ref_editPlace : Nat := 53
abbrev f_keep_Picked : Nat := 54
abbrev f_find_fault : Nat := 55
abbrev f_find_In : Nat := 56
abbrev f___strings_Builder__WriteString : Nat := 57
abbrev f___strings_Builder__Len : Nat := 58
abbrev f___strings_Builder__String : Nat := 59
abbrev f_fuzzy_long : Nat := 60
abbrev f_fuzzy_far : Nat := 61
abbrev f_slices_SortFunc___int_int_ : Nat := 62
abbrev f_fuzzy_Guess_1 : Nat := 63
abbrev f_cmp_Or_int_ : Nat := 64
abbrev f_cmp_Compare_int_ : Nat := 65
abbrev f_cmp_Compare_string_ : Nat := 66
abbrev f_sort_SliceStable : Nat := 67
abbrev f_ref_FuzzyGuess_1 : Nat := 68
abbrev f_ref_farOf : Nat := 69
abbrev f_suffix_fault : Nat := 70
abbrev f_suffix_sorted : Nat := 71
abbrev f_suffix_common : Nat := 72
abbrev f_ref_beginAlike : Nat := 73
abbrev f_sort_Search : Nat := 74
abbrev f_suffix_Find_1 : Nat := 75
abbrev f_strings_HasPrefix : Nat := 76
abbrev f_slices_Sorted_int_ : Nat := 77
abbrev f_slices_Values___int_int_ : Nat := 78
abbrev f_ref_findFault : Nat := 79
abbrev f_ref_standsAt : Nat := 80
abbrev f_ref_ends : Nat := 81
abbrev f_rope_play : Nat := 82
abbrev f___rope_Rope__Deep : Nat := 83
abbrev f_ref_RopePlayed_1 : Nat := 84
abbrev f___rope_Rope__Pos : Nat := 85
abbrev f___rope_Rope__Hash : Nat := 86
abbrev f_slices_ContainsFunc___api_Cursor_api_Cursor_ : Nat := 87
abbrev f_cursors_fault_1 : Nat := 88
abbrev f_slices_SortStableFunc___api_Cursor_api_Cursor_ : Nat := 89
abbrev f_cursors_norm_1 : Nat := 90
abbrev f_cursors_both : Nat := 91
abbrev f_ref_cursorsNormed_1 : Nat := 92
abbrev f_find_border : Nat := 93
abbrev f___strings_Builder__copyCheck : Nat := 94
abbrev f_slices_ContainsFunc___string_string_ : Nat := 95
abbrev f_fuzzy_long_1 : Nat := 96
abbrev f_slices_pdqsortCmpFunc_int_ : Nat := 97
abbrev f_math_bits_Len : Nat := 98
abbrev f_cmp_isNaN_int_ : Nat := 99
abbrev f_cmp_isNaN_string_ : Nat := 100
abbrev f_sort_stable_func : Nat := 103
abbrev f_suffix_sorted_1 : Nat := 105
abbrev f_suffix_sorted_2 : Nat := 106
abbrev f_internal_stringslite_HasPrefix : Nat := 107
abbrev f_slices_Collect_int_ : Nat := 108
abbrev f_slices_Sort___int_int_ : Nat := 109
abbrev f_slices_Values___int_int__1 : Nat := 110
abbrev f_sort_Slice : Nat := 111
abbrev f_ref_ends_1 : Nat := 112
abbrev f___rope_maker__do : Nat := 113
abbrev f_poly_Of : Nat := 114
abbrev f_slices_IndexFunc___api_Cursor_api_Cursor_ : Nat := 115
abbrev f_slices_stableCmpFunc_api_Cursor_ : Nat := 116
abbrev f_slices_IndexFunc___string_string_ : Nat := 118
abbrev f_slices_insertionSortCmpFunc_int_ : Nat := 119
abbrev f_slices_heapSortCmpFunc_int_ : Nat := 120
abbrev f_slices_breakPatternsCmpFunc_int_ : Nat := 121
abbrev f_slices_choosePivotCmpFunc_int_ : Nat := 122
abbrev f_slices_reverseRangeCmpFunc_int_ : Nat := 123
abbrev f_slices_partialInsertionSortCmpFunc_int_ : Nat := 124
abbrev f_slices_partitionEqualCmpFunc_int_ : Nat := 125
abbrev f_slices_partitionCmpFunc_int_ : Nat := 126
abbrev f_math_bits_Len32 : Nat := 127
abbrev f_math_bits_Len64 : Nat := 128
abbrev f_internal_reflectlite_Swapper_1 : Nat := 129
abbrev f_internal_reflectlite_Swapper_2 : Nat := 130
abbrev f_internal_reflectlite_Swapper_3 : Nat := 131
abbrev f_internal_reflectlite_Swapper_4 : Nat := 132
abbrev f_internal_reflectlite_Swapper_5 : Nat := 133
abbrev f_internal_reflectlite_Swapper_6 : Nat := 134
abbrev f_internal_reflectlite_Swapper_7 : Nat := 135
abbrev f_internal_reflectlite_Swapper_8 : Nat := 136
abbrev f_internal_reflectlite_Swapper_9 : Nat := 137
abbrev f_sort_insertionSort_func : Nat := 138
abbrev f_sort_symMerge_func : Nat := 139
abbrev f_slices_AppendSeq___int_int_ : Nat := 140
abbrev f_slices_pdqsortOrdered_int_ : Nat := 141
abbrev f_sort_pdqsort_func : Nat := 142
abbrev f___rope_maker__fault : Nat := 143
abbrev f___rope_maker__length : Nat := 144
abbrev f___rope_maker__make : Nat := 145
abbrev f_slices_insertionSortCmpFunc_api_Cursor_ : Nat := 146
abbrev f_slices_symMergeCmpFunc_api_Cursor_ : Nat := 147
abbrev f_slices_siftDownCmpFunc_int_ : Nat := 148
abbrev f_slices_nextPowerOfTwo : Nat := 149
abbrev f___slices_xorshift__Next : Nat := 150
abbrev f_slices_medianAdjacentCmpFunc_int_ : Nat := 151
abbrev f_slices_medianCmpFunc_int_ : Nat := 152
abbrev f_sort_rotate_func : Nat := 153
abbrev f_slices_insertionSortOrdered_int_ : Nat := 154
abbrev f_slices_heapSortOrdered_int_ : Nat := 155
abbrev f_slices_breakPatternsOrdered_int_ : Nat := 156
abbrev f_slices_choosePivotOrdered_int_ : Nat := 157
abbrev f_slices_reverseRangeOrdered_int_ : Nat := 158
abbrev f_slices_partialInsertionSortOrdered_int_ : Nat := 159
abbrev f_cmp_Less_int_ : Nat := 160
abbrev f_slices_partitionEqualOrdered_int_ : Nat := 161
abbrev f_slices_partitionOrdered_int_ : Nat := 162
abbrev f_sort_heapSort_func : Nat := 163
abbrev f_sort_breakPatterns_func : Nat := 164
abbrev f_sort_choosePivot_func : Nat := 165
abbrev f_sort_reverseRange_func : Nat := 166
abbrev f_sort_partialInsertionSort_func : Nat := 167
abbrev f_sort_partitionEqual_func : Nat := 168
abbrev f_sort_partition_func : Nat := 169
abbrev f___rope_maker__there : Nat := 170
abbrev f___rope_Rope__Len : Nat := 171
abbrev f_rope_New : Nat := 172
abbrev f_rope_Join : Nat := 173
abbrev f_rope_Split : Nat := 174
abbrev f_slices_rotateCmpFunc_api_Cursor_ : Nat := 175
abbrev f_slices_order2CmpFunc_int_ : Nat := 176
abbrev f_sort_swapRange_func : Nat := 177
abbrev f_slices_siftDownOrdered_int_ : Nat := 178
abbrev f_slices_medianAdjacentOrdered_int_ : Nat := 179
abbrev f_slices_medianOrdered_int_ : Nat := 180
abbrev f_sort_siftDown_func : Nat := 181
abbrev f_sort_nextPowerOfTwo : Nat := 182
abbrev f___sort_xorshift__Next : Nat := 183
abbrev f_sort_medianAdjacent_func : Nat := 184
abbrev f_sort_median_func : Nat := 185
abbrev f_rope_leaf : Nat := 186
abbrev f_rope_node : Nat := 187
abbrev f_rope_balanced : Nat := 188
abbrev f_slices_swapRangeCmpFunc_api_Cursor_ : Nat := 189
abbrev f_slices_order2Ordered_int_ : Nat := 190
abbrev f_sort_order2_func : Nat := 191
abbrev f_pos_Of : Nat := 192
abbrev f_pos_Join : Nat := 193
abbrev f_poly_Join : Nat := 194
abbrev f_strings_Count : Nat := 195
abbrev f_strings_LastIndexByte : Nat := 196
abbrev f_pos_May : Nat := 197
abbrev f_poly_May : Nat := 198
abbrev f_unicode_utf8_RuneCountInString : Nat := 199
abbrev f_strings_Index : Nat := 201
abbrev f_internal_bytealg_LastIndexByteString : Nat := 202
abbrev f_internal_stringslite_Index : Nat := 203
abbrev f_internal_stringslite_IndexByte : Nat := 204
abbrev f_internal_bytealg_Cutover : Nat := 206
abbrev f_internal_bytealg_IndexRabinKarp_string_ : Nat := 207
abbrev f_internal_bytealg_hashStr_string_ : Nat := 209

/-- fustian/fustiankeep.Picked: slots [0 a, 1 n, 2 a, 3 n] -/
def keep_Picked_c : SCode :=
  (.seq (.ops [⟨(some 4), .mov (.c (.int .i64 0)), none, false, []⟩] none [0, 1])
  (.seq (.ops [⟨(some 5), .mov (.t 0), none, false, []⟩,
    ⟨(some 6), .mov (.t 1), none, false, []⟩,
    ⟨(some 7), .bin .none .rem (.t 5) (.t 6), none, false, []⟩,
    ⟨(some 0), .mov (.t 7), none, false, []⟩] none [0, 1])
  (.seq (.seq (.ops [⟨(some 8), .mov (.t 0), none, false, []⟩,
    ⟨(some 9), .bin .none .lss (.t 8) (.c (.int .i64 0)), none, false, []⟩] none [0, 1, 9])
  (.cond (.t 9)
    (.seq (.ops [⟨(some 10), .mov (.t 0), none, false, []⟩,
      ⟨(some 11), .mov (.t 1), none, false, []⟩,
      ⟨(some 12), .bin .none .add (.t 10) (.t 11), none, false, []⟩,
      ⟨(some 4), .mov (.t 12), none, false, []⟩] none [4])
    .ret)
    .skip))
  (.seq (.ops [⟨(some 13), .mov (.t 0), none, false, []⟩,
    ⟨(some 4), .mov (.t 13), none, false, []⟩] none [4])
  .ret))))
def keep_Picked_r : List RRes := [.tmp 4]
def keep_Picked_hi : Hi := ⟨[], [(0, "a"), (1, "n"), (2, "a"), (3, "n")]⟩
def keep_Picked_an : An := .d
def keep_Picked_fi : Fi := ⟨14, keep_Picked_c, keep_Picked_r, keep_Picked_an, keep_Picked_hi, none⟩
theorem keep_Picked_ok : FiOk Try.prog f_keep_Picked keep_Picked_fi :=
  ⟨fun _ => by kernel_rfl, fun _ h hlen => fun_sound (by kernel_rfl) (fn := Try.f54) (draw_sound _ _) Try.func54 rfl (by kernel_rfl : comp Try.prog 14 _ keep_Picked_c = some keep_Picked_c) (by kernel_rfl : cRes Try.prog Try.f54.results.toList = some keep_Picked_r) hlen h, fun _ h => nomatch h⟩

/-- fustian/fustiankeep.Few: slots [0 l, 1 n, 2 l, 3 n, 5 out, 6 i] -/
def keep_Few_c : SCode :=
  (.seq (.ops [⟨(some 4), .mov (.c (.str [])), none, false, []⟩] none [0, 1])
  (.seq (.ops [⟨(some 5), .mov (.c (.str [])), none, false, []⟩] none [0, 1, 5])
  (.seq (.seq (.ops [⟨(some 6), .mov (.c (.int .i64 0)), none, false, []⟩] none [0, 1, 5, 6])
  (.block 0 (.loop [0, 1] [5, 6] 0
    (.seq (.seq (.ops [⟨(some 7), .mov (.t 6), none, false, []⟩,
      ⟨(some 8), .mov (.t 0), none, false, []⟩,
      ⟨(some 9), .len false (.t 8), none, false, []⟩,
      ⟨(some 10), .bin .none .lss (.t 7) (.t 9), none, false, []⟩,
      ⟨(some 11), .mov (.t 10), none, true, []⟩,
      ⟨(some 12), .mov (.t 6), (some (11, true)), false, []⟩,
      ⟨(some 13), .mov (.t 1), (some (11, true)), false, []⟩,
      ⟨(some 14), .bin .none .lss (.t 12) (.t 13), (some (11, true)), false, []⟩,
      ⟨(some 15), .pick (.t 11) (.t 14) (.c (.bool false)), none, false, []⟩] none [0, 1, 5, 6, 15])
    (.cond (.t 15)
      .skip
      (.exit 0)))
    (.seq (.block 1 (.ops [⟨(some 18), .mov (.t 5), none, false, []⟩,
      ⟨(some 19), .bslice false 2 1 [(.str []), (.str [])] [(0, 1, (.c (.str [97]))), (1, 1, (.c (.str [98])))], none, false, []⟩,
      ⟨(some 20), .mov (.t 0), none, false, []⟩,
      ⟨(some 21), .mov (.t 6), none, false, []⟩,
      ⟨(some 22), .iaddr 1 none (.t 20) (.t 21), none, false, []⟩,
      ⟨(some 23), .load 1 false (.t 22), none, false, []⟩,
      ⟨(some 24), .call f_keep_Picked [(.t 23), (.c (.int .i64 2))], none, false, []⟩,
      ⟨(some 25), .iaddr 1 none (.t 19) (.t 24), none, false, []⟩,
      ⟨(some 26), .load 1 false (.t 25), none, false, []⟩,
      ⟨(some 27), .bin .none .add (.t 18) (.t 26), none, false, []⟩,
      ⟨(some 5), .mov (.t 27), none, false, []⟩] none [0, 1, 5, 6]))
    (.ops [⟨(some 16), .mov (.t 6), none, false, []⟩,
      ⟨(some 17), .bin .none .add (.t 16) (.c (.int .i64 1)), none, false, []⟩,
      ⟨(some 6), .mov (.t 17), none, false, []⟩] none [0, 1, 5, 6]))))))
  (.seq (.ops [⟨(some 28), .mov (.t 5), none, false, []⟩,
    ⟨(some 4), .mov (.t 28), none, false, []⟩] none [4])
  .ret))))
def keep_Few_r : List RRes := [.tmp 4]
def keep_Few_hi : Hi := ⟨[(19, .str)], [(0, "l"), (1, "n"), (2, "l"), (3, "n"), (5, "out"), (6, "i")]⟩
def keep_Few_an : An := (.seq .d (.seq .d (.seq (.seq .d (.loop [] [] [] .d)) .d)))
def keep_Few_fi : Fi := ⟨29, keep_Few_c, keep_Few_r, keep_Few_an, keep_Few_hi, none⟩
theorem keep_Few_ok : FiOk Try.prog f_keep_Few keep_Few_fi :=
  ⟨fun _ => by kernel_rfl, fun _ h hlen => fun_sound (by kernel_rfl) (fn := Try.f22) (draw_sound _ _) Try.func22 rfl (by kernel_rfl : comp Try.prog 29 _ keep_Few_c = some keep_Few_c) (by kernel_rfl : cRes Try.prog Try.f22.results.toList = some keep_Few_r) hlen h, fun _ h => nomatch h⟩

/-- fustian/find.fault: slots [0 text, 1 find, 2 text, 3 find] -/
def find_fault_c : SCode :=
  (.seq (.ops [⟨(some 4), .mov (.c (.int .i64 0)), none, false, []⟩] none [0, 1])
  (.seq (.block 0 (.seq (.ops [⟨(some 6), .mov (.t 0), none, false, []⟩,
    ⟨(some 7), .len true (.t 6), none, false, []⟩,
    ⟨(some 8), .bin .none .gtr (.t 7) (.c (.int .i64 600)), none, false, []⟩,
    ⟨(some 9), .mov (.t 8), none, true, []⟩,
    ⟨(some 10), .mov (.t 1), (some (9, false)), false, []⟩,
    ⟨(some 11), .len true (.t 10), (some (9, false)), false, []⟩,
    ⟨(some 12), .bin .none .gtr (.t 11) (.c (.int .i64 20)), (some (9, false)), false, []⟩,
    ⟨(some 13), .pick (.t 9) (.c (.bool true)) (.t 12), none, false, []⟩,
    ⟨(some 5), .mov (.t 13), none, false, []⟩] none [1, 5])
  (.cond (.t 5)
    (.seq (.ops [⟨(some 4), .mov (.c (.int .i64 1)), none, false, []⟩] none [4])
    .ret)
    (.seq (.ops [⟨(some 15), .mov (.t 1), none, false, []⟩,
      ⟨(some 16), .bin .none .eql (.t 15) (.c (.str [])), none, false, []⟩,
      ⟨(some 14), .mov (.t 16), none, false, []⟩] none [14])
    (.cond (.t 14)
      (.seq (.ops [⟨(some 4), .mov (.c (.int .i64 4)), none, false, []⟩] none [4])
      .ret)
      .skip)))))
  (.seq (.ops [⟨(some 4), .mov (.c (.int .i64 0)), none, false, []⟩] none [4])
  .ret)))
def find_fault_r : List RRes := [.tmp 4]
def find_fault_hi : Hi := ⟨[], [(0, "text"), (1, "find"), (2, "text"), (3, "find")]⟩
def find_fault_an : An := .d
def find_fault_fi : Fi := ⟨17, find_fault_c, find_fault_r, find_fault_an, find_fault_hi, none⟩
theorem find_fault_ok : FiOk Try.prog f_find_fault find_fault_fi :=
  ⟨fun _ => by kernel_rfl, fun _ h hlen => fun_sound (by kernel_rfl) (fn := Try.f55) (draw_sound _ _) Try.func55 rfl (by kernel_rfl : comp Try.prog 17 _ find_fault_c = some find_fault_c) (by kernel_rfl : cRes Try.prog Try.f55.results.toList = some find_fault_r) hlen h, fun _ h => nomatch h⟩

/-- fustian/find.border: slots [0 s, 1 s, 3 out, 4 n, 5 i] -/
def find_border_c : SCode :=
  (.seq (.ops [⟨(some 2), .mov (.c .nils), none, false, []⟩] none [0])
  (.seq (.ops [⟨(some 6), .mov (.t 0), none, false, []⟩,
    ⟨(some 7), .len true (.t 6), none, false, []⟩,
    ⟨(some 8), .mkslice 1 8 [(.int .i64 0)] (.t 7) (.t 7), none, false, []⟩,
    ⟨(some 3), .mov (.t 8), none, false, []⟩] none [0, 3])
  (.seq (.ops [⟨(some 4), .mov (.c (.int .i64 0)), none, false, []⟩] none [0, 3, 4])
  (.seq (.seq (.ops [⟨(some 5), .mov (.c (.int .i64 1)), none, false, []⟩] none [0, 3, 4, 5])
  (.block 0 (.loop [0, 3] [4, 5] 1
    (.seq (.seq (.ops [⟨(some 9), .mov (.t 5), none, false, []⟩,
      ⟨(some 10), .mov (.t 0), none, false, []⟩,
      ⟨(some 11), .len true (.t 10), none, false, []⟩,
      ⟨(some 12), .bin .none .lss (.t 9) (.t 11), none, false, []⟩] none [0, 3, 4, 5, 12])
    (.cond (.t 12)
      .skip
      (.exit 0)))
    (.seq (.block 1 (.seq (.block 2 (.loop [0, 3, 5] [4] 1
      (.seq (.seq (.ops [⟨(some 15), .mov (.t 4), none, false, []⟩,
        ⟨(some 16), .bin .none .gtr (.t 15) (.c (.int .i64 0)), none, false, []⟩,
        ⟨(some 17), .mov (.t 16), none, true, []⟩,
        ⟨(some 18), .mov (.t 0), (some (17, true)), false, []⟩,
        ⟨(some 19), .mov (.t 5), (some (17, true)), false, []⟩,
        ⟨(some 20), .index 1 none false (.t 18) (.t 19), (some (17, true)), false, []⟩,
        ⟨(some 21), .mov (.t 0), (some (17, true)), false, []⟩,
        ⟨(some 22), .mov (.t 4), (some (17, true)), false, []⟩,
        ⟨(some 23), .index 1 none false (.t 21) (.t 22), (some (17, true)), false, []⟩,
        ⟨(some 24), .bin .none .neq (.t 20) (.t 23), (some (17, true)), false, []⟩,
        ⟨(some 25), .pick (.t 17) (.t 24) (.c (.bool false)), none, false, []⟩] (some (0, 0, [0, 1, 2, 3, 4, 5, 6, 7, 8, 9, 10])) [0, 3, 4, 5, 25])
      (.cond (.t 25)
        .skip
        (.exit 2)))
      (.block 3 (.ops [⟨(some 26), .mov (.t 3), none, false, []⟩,
        ⟨(some 27), .mov (.t 4), none, false, []⟩,
        ⟨(some 28), .bin .none .sub (.t 27) (.c (.int .i64 1)), none, false, []⟩,
        ⟨(some 29), .iaddr 1 none (.t 26) (.t 28), none, false, []⟩,
        ⟨(some 30), .load 1 false (.t 29), none, false, []⟩,
        ⟨(some 4), .mov (.t 30), none, false, []⟩] none [0, 3, 4, 5])))))
    (.join [0, 3, 5] [4] 1 (.seq (.ops [⟨(some 31), .mov (.t 0), none, false, []⟩,
        ⟨(some 32), .mov (.t 5), none, false, []⟩,
        ⟨(some 33), .index 1 none false (.t 31) (.t 32), none, false, []⟩,
        ⟨(some 34), .mov (.t 0), none, false, []⟩,
        ⟨(some 35), .mov (.t 4), none, false, []⟩,
        ⟨(some 36), .index 1 none false (.t 34) (.t 35), none, false, []⟩,
        ⟨(some 37), .bin .none .eql (.t 33) (.t 36), none, false, []⟩] (some (0, 0, [0, 1, 2, 3, 4, 5, 6])) [0, 3, 4, 5, 37])
      (.cond (.t 37)
        (.ops [⟨(some 38), .mov (.t 4), none, false, []⟩,
          ⟨(some 39), .bin .none .add (.t 38) (.c (.int .i64 1)), none, false, []⟩,
          ⟨(some 4), .mov (.t 39), none, false, []⟩] none [0, 3, 4, 5])
        .skip))
    (.ops [⟨(some 40), .mov (.t 3), none, false, []⟩,
      ⟨(some 41), .mov (.t 5), none, false, []⟩,
      ⟨(some 42), .mov (.t 4), none, false, []⟩,
      ⟨(some 43), .iaddr 1 none (.t 40) (.t 41), none, false, []⟩,
      ⟨none, .store 1 (.t 43) (.t 42), none, false, []⟩] none [0, 3, 4, 5]))))
    (.ops [⟨(some 13), .mov (.t 5), none, false, []⟩,
      ⟨(some 14), .bin .none .add (.t 13) (.c (.int .i64 1)), none, false, []⟩,
      ⟨(some 5), .mov (.t 14), none, false, []⟩] none [0, 3, 4, 5]))))))
  (.seq (.ops [⟨(some 44), .mov (.t 3), none, false, []⟩,
    ⟨(some 2), .mov (.t 44), none, false, []⟩] none [2])
  .ret)))))
def find_border_r : List RRes := [.tmp 2]
def find_border_hi : Hi := ⟨[(8, (.int .i64))], [(0, "s"), (1, "s"), (3, "out"), (4, "n"), (5, "i")]⟩
def find_border_an : An := (.seq .d (.seq .d (.seq .d (.seq (.seq .d (.loop [3] [] [] (.seq .d (.seq (.seq (.loop [] [] [] .d) .d) .d)))) .d))))
def find_border_fi : Fi := ⟨45, find_border_c, find_border_r, find_border_an, find_border_hi, none⟩
theorem find_border_ok : FiOk Try.prog f_find_border find_border_fi :=
  ⟨fun _ => by kernel_rfl, fun _ h hlen => fun_sound (by kernel_rfl) (fn := Try.f93) (draw_sound _ _) Try.func93 rfl (by kernel_rfl : comp Try.prog 45 _ find_border_c = some find_border_c) (by kernel_rfl : cRes Try.prog Try.f93.results.toList = some find_border_r) hlen h, fun _ h => nomatch h⟩

/-- fustian/find.In: slots [0 text, 1 find, 2 text, 3 find, 5 b, 6 out, 7 n, 8 i] -/
def find_In_c : SCode :=
  (.seq (.ops [⟨(some 4), .mov (.c .nils), none, false, []⟩] none [0, 1])
  (.seq (.ops [⟨(some 9), .mov (.t 1), none, false, []⟩,
    ⟨(some 10), .call f_find_border [(.t 9)], none, false, []⟩,
    ⟨(some 5), .mov (.t 10), none, false, []⟩] none [0, 1, 5])
  (.seq (.ops [⟨(some 6), .newnil 1, none, false, []⟩] none [0, 1, 5, 6])
  (.seq (.ops [⟨(some 7), .mov (.c (.int .i64 0)), none, false, []⟩] none [0, 1, 5, 6, 7])
  (.seq (.seq (.ops [⟨(some 11), .mov (.t 0), none, false, []⟩,
    ⟨(some 12), .len true (.t 11), none, false, []⟩,
    ⟨(some 13), .mov (.c (.int .i64 0)), none, false, []⟩] none [0, 1, 5, 6, 7, 12, 13])
  (.block 0 (.loop [0, 1, 5, 12] [6, 7, 13] 1
    (.seq (.ops [⟨(some 14), .bin .none .lss (.t 13) (.t 12), none, false, []⟩] none [0, 1, 5, 6, 7, 12, 13, 14])
    (.seq (.cond (.t 14)
      .skip
      (.exit 0))
    (.join [0, 1, 5, 12, 13] [6, 7] 1 (.block 1 (.seq (.ops [⟨(some 15), .mov (.t 13), none, false, []⟩,
        ⟨(some 8), .mov (.t 15), none, false, []⟩] none [0, 1, 5, 6, 7, 8, 12, 13])
      (.seq (.block 2 (.loop [0, 1, 5, 6, 8, 12, 13] [7] 1
        (.seq (.seq (.ops [⟨(some 16), .mov (.t 7), none, false, []⟩,
          ⟨(some 17), .bin .none .gtr (.t 16) (.c (.int .i64 0)), none, false, []⟩,
          ⟨(some 18), .mov (.t 17), none, true, []⟩,
          ⟨(some 19), .mov (.t 7), (some (18, true)), false, []⟩,
          ⟨(some 20), .mov (.t 1), (some (18, true)), false, []⟩,
          ⟨(some 21), .len true (.t 20), (some (18, true)), false, []⟩,
          ⟨(some 22), .bin .none .eql (.t 19) (.t 21), (some (18, true)), false, []⟩,
          ⟨(some 23), .mov (.t 22), (some (18, true)), true, []⟩,
          ⟨(some 24), .mov (.t 0), (some (23, false)), false, []⟩,
          ⟨(some 25), .mov (.t 8), (some (23, false)), false, []⟩,
          ⟨(some 26), .index 1 none false (.t 24) (.t 25), (some (23, false)), false, []⟩,
          ⟨(some 27), .mov (.t 1), (some (23, false)), false, []⟩,
          ⟨(some 28), .mov (.t 7), (some (23, false)), false, []⟩,
          ⟨(some 29), .index 1 none false (.t 27) (.t 28), (some (23, false)), false, []⟩,
          ⟨(some 30), .bin .none .neq (.t 26) (.t 29), (some (23, false)), false, []⟩,
          ⟨(some 31), .pick (.t 23) (.c (.bool true)) (.t 30), (some (18, true)), false, []⟩,
          ⟨(some 32), .pick (.t 18) (.t 31) (.c (.bool false)), none, false, []⟩] (some (0, 0, [0, 1, 2, 3, 4, 5, 6, 7, 8, 9, 10, 11, 12, 13, 14, 15, 16])) [0, 1, 5, 6, 7, 8, 12, 13, 32])
        (.cond (.t 32)
          .skip
          (.exit 2)))
        (.block 3 (.ops [⟨(some 33), .mov (.t 5), none, false, []⟩,
          ⟨(some 34), .mov (.t 7), none, false, []⟩,
          ⟨(some 35), .bin .none .sub (.t 34) (.c (.int .i64 1)), none, false, []⟩,
          ⟨(some 36), .iaddr 1 none (.t 33) (.t 35), none, false, []⟩,
          ⟨(some 37), .load 1 false (.t 36), none, false, []⟩,
          ⟨(some 7), .mov (.t 37), none, false, []⟩] none [0, 1, 5, 6, 7, 8, 12, 13])))))
      (.join [0, 1, 5, 6, 8, 12, 13] [7] 1 (.seq (.ops [⟨(some 38), .mov (.t 0), none, false, []⟩,
          ⟨(some 39), .mov (.t 8), none, false, []⟩,
          ⟨(some 40), .index 1 none false (.t 38) (.t 39), none, false, []⟩,
          ⟨(some 41), .mov (.t 1), none, false, []⟩,
          ⟨(some 42), .mov (.t 7), none, false, []⟩,
          ⟨(some 43), .index 1 none false (.t 41) (.t 42), none, false, []⟩,
          ⟨(some 44), .bin .none .eql (.t 40) (.t 43), none, false, []⟩] (some (0, 0, [0, 1, 2, 3, 4, 5, 6])) [0, 1, 5, 6, 7, 8, 12, 13, 44])
        (.cond (.t 44)
          (.ops [⟨(some 45), .mov (.t 7), none, false, []⟩,
            ⟨(some 46), .bin .none .add (.t 45) (.c (.int .i64 1)), none, false, []⟩,
            ⟨(some 7), .mov (.t 46), none, false, []⟩] none [0, 1, 5, 6, 7, 8, 12, 13])
          .skip))
      (.seq (.ops [⟨(some 47), .mov (.t 7), none, false, []⟩,
        ⟨(some 48), .mov (.t 1), none, false, []⟩,
        ⟨(some 49), .len true (.t 48), none, false, []⟩,
        ⟨(some 50), .bin .none .eql (.t 47) (.t 49), none, false, []⟩] none [0, 1, 5, 6, 7, 8, 12, 13, 50])
      (.cond (.t 50)
        (.ops [⟨(some 51), .mov (.t 6), none, false, []⟩,
          ⟨(some 52), .mov (.t 8), none, false, []⟩,
          ⟨(some 53), .bin .none .add (.t 52) (.c (.int .i64 1)), none, false, []⟩,
          ⟨(some 54), .mov (.t 7), none, false, []⟩,
          ⟨(some 55), .bin .none .sub (.t 53) (.t 54), none, false, []⟩,
          ⟨(some 56), .bslice true 1 1 [(.int .i64 0)] [(0, 1, (.t 55))], none, false, []⟩,
          ⟨(some 57), .append 1 8 (.t 51) (.t 56), none, false, []⟩,
          ⟨(some 6), .mov (.t 57), none, false, []⟩] none [0, 1, 5, 6, 7, 12, 13])
        .skip))))))
    (.ops [⟨(some 58), .bin .none .add (.t 13) (.c (.int .i64 1)), none, false, []⟩,
      ⟨(some 13), .mov (.t 58), none, false, []⟩] none [0, 1, 5, 6, 7, 12, 13])))))))
  (.seq (.ops [⟨(some 59), .mov (.t 6), none, false, []⟩,
    ⟨(some 4), .mov (.t 59), none, false, []⟩] none [4])
  .ret))))))
def find_In_r : List RRes := [.tmp 4]
def find_In_hi : Hi := ⟨[(6, (.int .i64)), (56, (.int .i64)), (57, (.int .i64))], [(0, "text"), (1, "find"), (2, "text"), (3, "find"), (5, "b"), (6, "out"), (7, "n"), (8, "i")]⟩
def find_In_an : An := (.seq .d (.seq .d (.seq .d (.seq .d (.seq (.seq .d (.loop [6] [] [] (.seq .d (.seq .d (.seq (.seq .d (.seq (.loop [] [] [] .d) .d)) .d))))) .d)))))
def find_In_fi : Fi := ⟨60, find_In_c, find_In_r, find_In_an, find_In_hi, none⟩
theorem find_In_ok : FiOk Try.prog f_find_In find_In_fi :=
  ⟨fun _ => by kernel_rfl, fun _ h hlen => fun_sound (by kernel_rfl) (fn := Try.f56) (draw_sound _ _) Try.func56 rfl (by kernel_rfl : comp Try.prog 60 _ find_In_c = some find_In_c) (by kernel_rfl : cRes Try.prog Try.f56.results.toList = some find_In_r) hlen h, fun _ h => nomatch h⟩

/-- fustian/find.All: slots [0 text, 1 find, 2 text, 3 find, 6 e] -/
def find_All_c : SCode :=
  (.seq (.ops [⟨(some 4), .mov (.c .nils), none, false, []⟩,
    ⟨(some 5), .mov (.c (.int .i64 0)), none, false, []⟩] none [0, 1])
  (.seq (.seq (.ops [⟨(some 7), .mov (.t 0), none, false, []⟩,
    ⟨(some 8), .mov (.t 1), none, false, []⟩,
    ⟨(some 9), .call f_find_fault [(.t 7), (.t 8)], none, false, []⟩,
    ⟨(some 6), .mov (.t 9), none, false, []⟩] none [0, 1, 6])
  (.seq (.ops [⟨(some 10), .mov (.t 6), none, false, []⟩,
    ⟨(some 11), .bin .none .neq (.t 10) (.c (.int .i64 0)), none, false, []⟩] none [0, 1, 6, 11])
  (.cond (.t 11)
    (.seq (.ops [⟨(some 12), .mov (.t 6), none, false, []⟩,
      ⟨(some 4), .mov (.c .nils), none, false, []⟩,
      ⟨(some 5), .mov (.t 12), none, false, []⟩] none [4, 5])
    .ret)
    .skip)))
  (.seq (.ops [⟨(some 13), .mov (.t 0), none, false, []⟩,
    ⟨(some 14), .mov (.t 1), none, false, []⟩,
    ⟨(some 15), .call f_find_In [(.t 13), (.t 14)], none, false, []⟩,
    ⟨(some 4), .mov (.t 15), none, false, []⟩,
    ⟨(some 5), .mov (.c (.int .i64 0)), none, false, []⟩] none [4, 5])
  .ret)))
def find_All_r : List RRes := [.tmp 4, .tmp 5]
def find_All_hi : Hi := ⟨[], [(0, "text"), (1, "find"), (2, "text"), (3, "find"), (6, "e")]⟩
def find_All_an : An := .d
def find_All_fi : Fi := ⟨16, find_All_c, find_All_r, find_All_an, find_All_hi, none⟩
theorem find_All_ok : FiOk Try.prog f_find_All find_All_fi :=
  ⟨fun _ => by kernel_rfl, fun _ h hlen => fun_sound (by kernel_rfl) (fn := Try.f23) (draw_sound _ _) Try.func23 rfl (by kernel_rfl : comp Try.prog 16 _ find_All_c = some find_All_c) (by kernel_rfl : cRes Try.prog Try.f23.results.toList = some find_All_r) hlen h, fun _ h => nomatch h⟩

/-- fustian/find.Replace: slots [0 text, 1 find, 2 put, 3 text, 4 find, 5 put, 9 e, 10 out, 11 at, 12 n, 13 _, 14 i] -/
def find_Replace_c : SCode :=
  (.seq (.ops [⟨(some 6), .mov (.c (.str [])), none, false, []⟩,
    ⟨(some 7), .mov (.c (.int .i64 0)), none, false, []⟩,
    ⟨(some 8), .mov (.c (.int .i64 0)), none, false, []⟩] none [0, 1, 2])
  (.seq (.seq (.ops [⟨(some 15), .mov (.t 0), none, false, []⟩,
    ⟨(some 16), .mov (.t 1), none, false, []⟩,
    ⟨(some 17), .call f_find_fault [(.t 15), (.t 16)], none, false, []⟩,
    ⟨(some 9), .mov (.t 17), none, false, []⟩] none [0, 1, 2, 9])
  (.seq (.ops [⟨(some 18), .mov (.t 9), none, false, []⟩,
    ⟨(some 19), .bin .none .neq (.t 18) (.c (.int .i64 0)), none, false, []⟩] none [0, 1, 2, 9, 19])
  (.cond (.t 19)
    (.seq (.ops [⟨(some 20), .mov (.t 9), none, false, []⟩,
      ⟨(some 6), .mov (.c (.str [])), none, false, []⟩,
      ⟨(some 7), .mov (.c (.int .i64 0)), none, false, []⟩,
      ⟨(some 8), .mov (.t 20), none, false, []⟩] none [6, 7, 8])
    .ret)
    .skip)))
  (.seq (.ops [⟨(some 10), .alloc 0 [.nilp, .nils], none, false, []⟩] none [0, 1, 2, 10])
  (.seq (.ops [⟨(some 11), .mov (.c (.int .i64 0)), none, false, []⟩,
    ⟨(some 12), .mov (.c (.int .i64 0)), none, false, []⟩] none [0, 1, 2, 10, 11, 12])
  (.seq (.seq (.ops [⟨(some 21), .mov (.t 0), none, false, []⟩,
    ⟨(some 22), .mov (.t 1), none, false, []⟩,
    ⟨(some 23), .call f_find_In [(.t 21), (.t 22)], none, false, []⟩,
    ⟨(some 24), .len false (.t 23), none, false, []⟩,
    ⟨(some 25), .mov (.c (.int .i64 0)), none, false, []⟩] none [0, 1, 2, 10, 11, 12, 23, 24, 25])
  (.block 0 (.loop [0, 1, 2, 10, 23, 24] [11, 12, 25] 1
    (.seq (.ops [⟨(some 26), .bin .none .lss (.t 25) (.t 24), none, false, []⟩] none [0, 1, 2, 10, 11, 12, 23, 24, 25, 26])
    (.seq (.cond (.t 26)
      .skip
      (.exit 0))
    (.join [0, 1, 2, 10, 23, 24, 25] [11, 12] 1 (.block 1 (.seq (.ops [⟨(some 27), .iaddr 1 none (.t 23) (.t 25), none, false, []⟩,
        ⟨(some 28), .load 1 false (.t 27), none, false, []⟩,
        ⟨(some 14), .mov (.t 28), none, false, []⟩] none [0, 1, 2, 10, 11, 12, 14, 23, 24, 25])
      (.seq (.seq (.ops [⟨(some 29), .mov (.t 14), none, false, []⟩,
        ⟨(some 30), .mov (.t 11), none, false, []⟩,
        ⟨(some 31), .bin .none .lss (.t 29) (.t 30), none, false, []⟩] none [0, 1, 2, 10, 11, 12, 14, 23, 24, 25, 31])
      (.cond (.t 31)
        (.exit 1)
        .skip))
      (.seq (.ops [⟨(some 32), .mov (.t 0), none, false, []⟩,
        ⟨(some 33), .mov (.t 11), none, false, []⟩,
        ⟨(some 34), .mov (.t 14), none, false, []⟩,
        ⟨(some 35), .slice 0 (.t 32) (some (.t 33)) (some (.t 34)), none, false, []⟩,
        ⟨(some 36), .mov (.t 2), none, false, []⟩,
        ⟨(some 37), .bin .none .add (.t 35) (.t 36), none, false, []⟩,
        ⟨(some 38), .call f___strings_Builder__WriteString [(.t 10), (.t 37)], none, false, []⟩] none [0, 1, 2, 10, 12, 14, 23, 24, 25])
      (.seq (.ops [⟨(some 39), .mov (.t 14), none, false, []⟩,
        ⟨(some 40), .mov (.t 1), none, false, []⟩,
        ⟨(some 41), .len true (.t 40), none, false, []⟩,
        ⟨(some 42), .bin .none .add (.t 39) (.t 41), none, false, []⟩,
        ⟨(some 11), .mov (.t 42), none, false, []⟩] none [0, 1, 2, 10, 11, 12, 23, 24, 25])
      (.seq (.ops [⟨(some 43), .mov (.t 12), none, false, []⟩,
        ⟨(some 44), .bin .none .add (.t 43) (.c (.int .i64 1)), none, false, []⟩,
        ⟨(some 12), .mov (.t 44), none, false, []⟩] none [0, 1, 2, 10, 11, 12, 23, 24, 25])
      (.seq (.ops [⟨(some 45), .call f___strings_Builder__Len [(.t 10)], none, false, []⟩,
        ⟨(some 46), .bin .none .gtr (.t 45) (.c (.int .i64 600)), none, false, []⟩] none [0, 1, 2, 10, 11, 12, 23, 24, 25, 46])
      (.cond (.t 46)
        (.seq (.ops [⟨(some 6), .mov (.c (.str [])), none, false, []⟩,
          ⟨(some 7), .mov (.c (.int .i64 0)), none, false, []⟩,
          ⟨(some 8), .mov (.c (.int .i64 1)), none, false, []⟩] none [6, 7, 8])
        .ret)
        .skip))))))))
    (.ops [⟨(some 47), .bin .none .add (.t 25) (.c (.int .i64 1)), none, false, []⟩,
      ⟨(some 25), .mov (.t 47), none, false, []⟩] none [0, 1, 2, 10, 11, 12, 23, 24, 25])))))))
  (.seq (.ops [⟨(some 48), .mov (.t 0), none, false, []⟩,
    ⟨(some 49), .mov (.t 11), none, false, []⟩,
    ⟨(some 50), .slice 0 (.t 48) (some (.t 49)) none, none, false, []⟩,
    ⟨(some 51), .call f___strings_Builder__WriteString [(.t 10), (.t 50)], none, false, []⟩] none [10, 12])
  (.seq (.seq (.ops [⟨(some 52), .call f___strings_Builder__Len [(.t 10)], none, false, []⟩,
    ⟨(some 53), .bin .none .gtr (.t 52) (.c (.int .i64 600)), none, false, []⟩] none [10, 12, 53])
  (.cond (.t 53)
    (.seq (.ops [⟨(some 6), .mov (.c (.str [])), none, false, []⟩,
      ⟨(some 7), .mov (.c (.int .i64 0)), none, false, []⟩,
      ⟨(some 8), .mov (.c (.int .i64 1)), none, false, []⟩] none [6, 7, 8])
    .ret)
    .skip))
  (.seq (.ops [⟨(some 54), .call f___strings_Builder__String [(.t 10)], none, false, []⟩,
    ⟨(some 55), .mov (.t 12), none, false, []⟩,
    ⟨(some 6), .mov (.t 54), none, false, []⟩,
    ⟨(some 7), .mov (.t 55), none, false, []⟩,
    ⟨(some 8), .mov (.c (.int .i64 0)), none, false, []⟩] none [6, 7, 8])
  .ret))))))))
def find_Replace_r : List RRes := [.tmp 6, .tmp 7, .tmp 8]
def find_Replace_hi : Hi := ⟨[], [(0, "text"), (1, "find"), (2, "put"), (3, "text"), (4, "find"), (5, "put"), (9, "e"), (10, "out"), (11, "at"), (12, "n"), (14, "i")]⟩
def find_Replace_an : An := (.seq .d (.seq .d (.seq .d (.seq .d (.seq (.seq .d (.loop [] [] [] .d)) .d)))))
def find_Replace_fi : Fi := ⟨56, find_Replace_c, find_Replace_r, find_Replace_an, find_Replace_hi, none⟩
theorem find_Replace_ok : FiOk Try.prog f_find_Replace find_Replace_fi :=
  ⟨fun _ => by kernel_rfl, fun _ h hlen => fun_sound (by kernel_rfl) (fn := Try.f24) (draw_sound _ _) Try.func24 rfl (by kernel_rfl : comp Try.prog 56 _ find_Replace_c = some find_Replace_c) (by kernel_rfl : cRes Try.prog Try.f24.results.toList = some find_Replace_r) hlen h, fun _ h => nomatch h⟩

/-- fustian/cursors.lo: slots [0 c, 1 c] -/
def cursors_lo_c : SCode :=
  (.seq (.ops [⟨(some 1), .box 0 (.t 0), none, false, []⟩,
    ⟨(some 2), .mov (.c (.int .i64 0)), none, false, []⟩] none [1])
  (.seq (.ops [⟨(some 3), .faddr 0 (.t 1), none, false, []⟩,
    ⟨(some 4), .load 1 false (.t 3), none, false, []⟩,
    ⟨(some 5), .faddr 1 (.t 1), none, false, []⟩,
    ⟨(some 6), .load 1 false (.t 5), none, false, []⟩,
    ⟨(some 7), .min [(.t 4), (.t 6)], none, false, []⟩,
    ⟨(some 2), .mov (.t 7), none, false, []⟩] none [2])
  .ret))
def cursors_lo_r : List RRes := [.tmp 2]
def cursors_lo_hi : Hi := ⟨[(1, (.st (.cons (.int .i64) (.cons (.int .i64) .nil))))], [(0, "c"), (1, "c")]⟩
def cursors_lo_an : An := .d
def cursors_lo_fi : Fi := ⟨8, cursors_lo_c, cursors_lo_r, cursors_lo_an, cursors_lo_hi, none⟩
theorem cursors_lo_ok : FiOk Try.prog f_cursors_lo cursors_lo_fi :=
  ⟨fun _ => by kernel_rfl, fun _ h hlen => fun_sound (by kernel_rfl) (fn := Try.f47) (draw_sound _ _) Try.func47 rfl (by kernel_rfl : comp Try.prog 8 _ cursors_lo_c = some cursors_lo_c) (by kernel_rfl : cRes Try.prog Try.f47.results.toList = some cursors_lo_r) hlen h, fun _ h => nomatch h⟩

/-- fustian/cursors.hi: slots [0 c, 1 c] -/
def cursors_hi_c : SCode :=
  (.seq (.ops [⟨(some 1), .box 0 (.t 0), none, false, []⟩,
    ⟨(some 2), .mov (.c (.int .i64 0)), none, false, []⟩] none [1])
  (.seq (.ops [⟨(some 3), .faddr 0 (.t 1), none, false, []⟩,
    ⟨(some 4), .load 1 false (.t 3), none, false, []⟩,
    ⟨(some 5), .faddr 1 (.t 1), none, false, []⟩,
    ⟨(some 6), .load 1 false (.t 5), none, false, []⟩,
    ⟨(some 7), .max [(.t 4), (.t 6)], none, false, []⟩,
    ⟨(some 2), .mov (.t 7), none, false, []⟩] none [2])
  .ret))
def cursors_hi_r : List RRes := [.tmp 2]
def cursors_hi_hi : Hi := ⟨[(1, (.st (.cons (.int .i64) (.cons (.int .i64) .nil))))], [(0, "c"), (1, "c")]⟩
def cursors_hi_an : An := .d
def cursors_hi_fi : Fi := ⟨8, cursors_hi_c, cursors_hi_r, cursors_hi_an, cursors_hi_hi, none⟩
theorem cursors_hi_ok : FiOk Try.prog f_cursors_hi cursors_hi_fi :=
  ⟨fun _ => by kernel_rfl, fun _ h hlen => fun_sound (by kernel_rfl) (fn := Try.f48) (draw_sound _ _) Try.func48 rfl (by kernel_rfl : comp Try.prog 8 _ cursors_hi_c = some cursors_hi_c) (by kernel_rfl : cRes Try.prog Try.f48.results.toList = some cursors_hi_r) hlen h, fun _ h => nomatch h⟩

/-- fustian/cursors.fault: slots [0 size, 1 l, 2 size, 3 l] -/
def cursors_fault_c : SCode :=
  (.seq (.ops [⟨(some 2), .box 0 (.t 0), none, false, []⟩,
    ⟨(some 4), .mov (.c (.int .i64 0)), none, false, []⟩] none [1, 2])
  (.seq (.block 0 (.seq (.ops [⟨(some 6), .mov (.t 1), none, false, []⟩,
    ⟨(some 7), .len false (.t 6), none, false, []⟩,
    ⟨(some 8), .bin .none .gtr (.t 7) (.c (.int .i64 20)), none, false, []⟩,
    ⟨(some 5), .mov (.t 8), none, false, []⟩] none [1, 2, 5])
  (.cond (.t 5)
    (.seq (.ops [⟨(some 4), .mov (.c (.int .i64 1)), none, false, []⟩] none [4])
    .ret)
    (.seq (.ops [⟨(some 10), .load 1 false (.t 2), none, false, []⟩,
      ⟨(some 11), .bin .none .lss (.t 10) (.c (.int .i64 0)), none, false, []⟩,
      ⟨(some 12), .mov (.t 11), none, true, []⟩,
      ⟨(some 13), .load 1 false (.t 2), (some (12, false)), false, []⟩,
      ⟨(some 14), .bin .none .gtr (.t 13) (.c (.int .i64 600)), (some (12, false)), false, []⟩,
      ⟨(some 15), .pick (.t 12) (.c (.bool true)) (.t 14), none, false, []⟩,
      ⟨(some 9), .mov (.t 15), none, false, []⟩] none [1, 2, 9])
    (.cond (.t 9)
      (.seq (.ops [⟨(some 4), .mov (.c (.int .i64 2)), none, false, []⟩] none [4])
      .ret)
      (.seq (.ops [⟨(some 17), .mov (.t 1), none, false, []⟩,
        ⟨(some 18), .mkfunc (.func f_cursors_fault_1) [] [(.t 2)], none, false, []⟩,
        ⟨(some 19), .call f_slices_ContainsFunc___api_Cursor_api_Cursor_ [(.t 17), (.t 18)], none, false, []⟩,
        ⟨(some 16), .mov (.t 19), none, false, []⟩] none [16])
      (.cond (.t 16)
        (.seq (.ops [⟨(some 4), .mov (.c (.int .i64 2)), none, false, []⟩] none [4])
        .ret)
        .skip)))))))
  (.seq (.ops [⟨(some 4), .mov (.c (.int .i64 0)), none, false, []⟩] none [4])
  .ret)))
def cursors_fault_r : List RRes := [.tmp 4]
def cursors_fault_hi : Hi := ⟨[], [(0, "size"), (1, "l"), (2, "size"), (3, "l")]⟩
def cursors_fault_an : An := .d
def cursors_fault_fi : Fi := ⟨20, cursors_fault_c, cursors_fault_r, cursors_fault_an, cursors_fault_hi, none⟩
theorem cursors_fault_ok : FiOk Try.prog f_cursors_fault cursors_fault_fi :=
  ⟨fun _ => by kernel_rfl, fun _ h hlen => fun_sound (by kernel_rfl) (fn := Try.f43) (draw_sound _ _) Try.func43 rfl (by kernel_rfl : comp Try.prog 20 _ cursors_fault_c = some cursors_fault_c) (by kernel_rfl : cRes Try.prog Try.f43.results.toList = some cursors_fault_r) hlen h, fun _ h => nomatch h⟩

/-- fustian/cursors.both: slots [0 a, 1 b, 2 a, 3 b, 5 from, 6 to, 7 turned] -/
def cursors_both_c : SCode :=
  (.seq (.ops [⟨(some 2), .box 0 (.t 0), none, false, []⟩,
    ⟨(some 3), .box 0 (.t 1), none, false, []⟩,
    ⟨(some 4), .alloc 0 [(.int .i64 0), (.int .i64 0)], none, false, []⟩] none [2, 3, 4])
  (.seq (.ops [⟨(some 8), .load 2 true (.t 2), none, false, []⟩,
    ⟨(some 10), .load 2 true (.t 2), none, false, []⟩,
    ⟨(some 12), .load 2 true (.t 3), none, false, []⟩,
    ⟨(some 9), .call f_cursors_lo [(.t 8)], none, false, []⟩,
    ⟨(some 11), .call f_cursors_hi [(.t 10)], none, false, []⟩,
    ⟨(some 13), .call f_cursors_hi [(.t 12)], none, false, []⟩,
    ⟨(some 14), .max [(.t 11), (.t 13)], none, false, []⟩,
    ⟨(some 5), .mov (.t 9), none, false, []⟩,
    ⟨(some 6), .mov (.t 14), none, false, []⟩] (some (5, 0, [0, 2, 4, 1, 3, 5, 6, 7, 8])) [2, 3, 4, 5, 6])
  (.seq (.ops [⟨(some 15), .faddr 0 (.t 2), none, false, []⟩,
    ⟨(some 16), .load 1 false (.t 15), none, false, []⟩,
    ⟨(some 17), .faddr 1 (.t 2), none, false, []⟩,
    ⟨(some 18), .load 1 false (.t 17), none, false, []⟩,
    ⟨(some 19), .bin .none .gtr (.t 16) (.t 18), none, false, []⟩,
    ⟨(some 20), .mov (.t 19), none, true, []⟩,
    ⟨(some 21), .faddr 0 (.t 2), (some (20, false)), false, []⟩,
    ⟨(some 22), .load 1 false (.t 21), (some (20, false)), false, []⟩,
    ⟨(some 23), .faddr 1 (.t 2), (some (20, false)), false, []⟩,
    ⟨(some 24), .load 1 false (.t 23), (some (20, false)), false, []⟩,
    ⟨(some 25), .bin .none .eql (.t 22) (.t 24), (some (20, false)), false, []⟩,
    ⟨(some 26), .mov (.t 25), (some (20, false)), true, []⟩,
    ⟨(some 27), .faddr 0 (.t 3), (some (26, true)), false, []⟩,
    ⟨(some 28), .load 1 false (.t 27), (some (26, true)), false, []⟩,
    ⟨(some 29), .faddr 1 (.t 3), (some (26, true)), false, []⟩,
    ⟨(some 30), .load 1 false (.t 29), (some (26, true)), false, []⟩,
    ⟨(some 31), .bin .none .gtr (.t 28) (.t 30), (some (26, true)), false, []⟩,
    ⟨(some 32), .pick (.t 26) (.t 31) (.c (.bool false)), (some (20, false)), false, []⟩,
    ⟨(some 33), .pick (.t 20) (.c (.bool true)) (.t 32), none, false, []⟩,
    ⟨(some 7), .mov (.t 33), none, false, []⟩] none [4, 5, 6, 7])
  (.seq (.seq (.ops [⟨(some 34), .mov (.t 7), none, false, []⟩] none [4, 5, 6, 34])
  (.cond (.t 34)
    (.seq (.ops [⟨(some 35), .mov (.t 6), none, false, []⟩,
      ⟨(some 36), .mov (.t 5), none, false, []⟩,
      ⟨(some 37), .build [(.int .i64 0), (.int .i64 0)] [(0, 1, (.t 35)), (1, 1, (.t 36))], none, false, []⟩,
      ⟨none, .store 2 (.t 4) (.t 37), none, false, []⟩] none [4])
    .ret)
    .skip))
  (.seq (.ops [⟨(some 38), .mov (.t 5), none, false, []⟩,
    ⟨(some 39), .mov (.t 6), none, false, []⟩,
    ⟨(some 40), .build [(.int .i64 0), (.int .i64 0)] [(0, 1, (.t 38)), (1, 1, (.t 39))], none, false, []⟩,
    ⟨none, .store 2 (.t 4) (.t 40), none, false, []⟩] none [4])
  .ret)))))
def cursors_both_r : List RRes := [.cell 4 2 true]
def cursors_both_hi : Hi := ⟨[(2, (.st (.cons (.int .i64) (.cons (.int .i64) .nil)))), (3, (.st (.cons (.int .i64) (.cons (.int .i64) .nil)))), (4, (.st (.cons (.int .i64) (.cons (.int .i64) .nil))))], [(0, "a"), (1, "b"), (2, "a"), (3, "b"), (5, "from"), (6, "to"), (7, "turned")]⟩
def cursors_both_an : An := .d
def cursors_both_fi : Fi := ⟨41, cursors_both_c, cursors_both_r, cursors_both_an, cursors_both_hi, none⟩
theorem cursors_both_ok : FiOk Try.prog f_cursors_both cursors_both_fi :=
  ⟨fun _ => by kernel_rfl, fun _ h hlen => fun_sound (by kernel_rfl) (fn := Try.f91) (draw_sound _ _) Try.func91 rfl (by kernel_rfl : comp Try.prog 41 _ cursors_both_c = some cursors_both_c) (by kernel_rfl : cRes Try.prog Try.f91.results.toList = some cursors_both_r) hlen h, fun _ h => nomatch h⟩

/-- slices.Clone[[]fustian/api.Cursor,fustian/api.Cursor]: slots [0 s, 1 s] -/
def slices_Clone___api_Cursor_api_Cursor__c : SCode :=
  (.seq (.ops [⟨(some 2), .mov (.c .nils), none, false, []⟩] none [0])
  (.seq (.seq (.ops [⟨(some 3), .mov (.t 0), none, false, []⟩,
    ⟨(some 4), .isnil false (.t 3), none, false, []⟩] none [0, 4])
  (.cond (.t 4)
    (.seq (.ops [⟨(some 2), .mov (.c .nils), none, false, []⟩] none [2])
    .ret)
    .skip))
  (.seq (.ops [⟨(some 5), .bslice false 0 2 [] [], none, false, []⟩,
    ⟨(some 6), .mov (.t 0), none, false, []⟩,
    ⟨(some 7), .append 2 16 (.t 5) (.t 6), none, false, []⟩,
    ⟨(some 2), .mov (.t 7), none, false, []⟩] none [2])
  .ret)))
def slices_Clone___api_Cursor_api_Cursor__r : List RRes := [.tmp 2]
def slices_Clone___api_Cursor_api_Cursor__hi : Hi := ⟨[(5, (.st (.cons (.int .i64) (.cons (.int .i64) .nil)))), (7, (.st (.cons (.int .i64) (.cons (.int .i64) .nil))))], [(0, "s"), (1, "s")]⟩
def slices_Clone___api_Cursor_api_Cursor__an : An := .d
def slices_Clone___api_Cursor_api_Cursor__fi : Fi := ⟨8, slices_Clone___api_Cursor_api_Cursor__c, slices_Clone___api_Cursor_api_Cursor__r, slices_Clone___api_Cursor_api_Cursor__an, slices_Clone___api_Cursor_api_Cursor__hi, none⟩
theorem slices_Clone___api_Cursor_api_Cursor__ok : FiOk Try.prog f_slices_Clone___api_Cursor_api_Cursor_ slices_Clone___api_Cursor_api_Cursor__fi :=
  ⟨fun _ => by kernel_rfl, fun _ h hlen => fun_sound (by kernel_rfl) (fn := Try.f50) (draw_sound _ _) Try.func50 rfl (by kernel_rfl : comp Try.prog 8 _ slices_Clone___api_Cursor_api_Cursor__c = some slices_Clone___api_Cursor_api_Cursor__c) (by kernel_rfl : cRes Try.prog Try.f50.results.toList = some slices_Clone___api_Cursor_api_Cursor__r) hlen h, fun _ h => nomatch h⟩

/-- cmp.isNaN[int]: slots [0 x, 1 x] -/
def cmp_isNaN_int__c : SCode :=
  (.seq (.ops [⟨(some 2), .mov (.c (.bool false)), none, false, []⟩] none [0])
  (.seq (.ops [⟨(some 3), .mov (.t 0), none, false, []⟩,
    ⟨(some 4), .mov (.t 0), none, false, []⟩,
    ⟨(some 5), .bin .none .neq (.t 3) (.t 4), none, false, []⟩,
    ⟨(some 2), .mov (.t 5), none, false, []⟩] none [2])
  .ret))
def cmp_isNaN_int__r : List RRes := [.tmp 2]
def cmp_isNaN_int__hi : Hi := ⟨[], [(0, "x"), (1, "x")]⟩
def cmp_isNaN_int__an : An := .d
def cmp_isNaN_int__fi : Fi := ⟨6, cmp_isNaN_int__c, cmp_isNaN_int__r, cmp_isNaN_int__an, cmp_isNaN_int__hi, none⟩
theorem cmp_isNaN_int__ok : FiOk Try.prog f_cmp_isNaN_int_ cmp_isNaN_int__fi :=
  ⟨fun _ => by kernel_rfl, fun _ h hlen => fun_sound (by kernel_rfl) (fn := Try.f99) (draw_sound _ _) Try.func99 rfl (by kernel_rfl : comp Try.prog 6 _ cmp_isNaN_int__c = some cmp_isNaN_int__c) (by kernel_rfl : cRes Try.prog Try.f99.results.toList = some cmp_isNaN_int__r) hlen h, fun _ h => nomatch h⟩

/-- cmp.Compare[int]: slots [0 x, 1 y, 2 x, 3 y, 5 xNaN, 6 yNaN] -/
def cmp_Compare_int__c : SCode :=
  (.seq (.ops [⟨(some 4), .mov (.c (.int .i64 0)), none, false, []⟩] none [0, 1])
  (.seq (.ops [⟨(some 7), .mov (.t 0), none, false, []⟩,
    ⟨(some 8), .call f_cmp_isNaN_int_ [(.t 7)], none, false, []⟩,
    ⟨(some 5), .mov (.t 8), none, false, []⟩] none [0, 1, 5])
  (.seq (.ops [⟨(some 9), .mov (.t 1), none, false, []⟩,
    ⟨(some 10), .call f_cmp_isNaN_int_ [(.t 9)], none, false, []⟩,
    ⟨(some 6), .mov (.t 10), none, false, []⟩] none [0, 1, 5, 6])
  (.seq (.seq (.ops [⟨(some 11), .mov (.t 5), none, false, []⟩] none [0, 1, 6, 11])
  (.cond (.t 11)
    (.seq (.seq (.ops [⟨(some 12), .mov (.t 6), none, false, []⟩] none [12])
    (.cond (.t 12)
      (.seq (.ops [⟨(some 4), .mov (.c (.int .i64 0)), none, false, []⟩] none [4])
      .ret)
      .skip))
    (.seq (.ops [⟨(some 4), .mov (.c (.int .i64 (-1))), none, false, []⟩] none [4])
    .ret))
    .skip))
  (.seq (.seq (.ops [⟨(some 13), .mov (.t 6), none, false, []⟩] none [0, 1, 13])
  (.cond (.t 13)
    (.seq (.ops [⟨(some 4), .mov (.c (.int .i64 1)), none, false, []⟩] none [4])
    .ret)
    .skip))
  (.seq (.seq (.ops [⟨(some 14), .mov (.t 0), none, false, []⟩,
    ⟨(some 15), .mov (.t 1), none, false, []⟩,
    ⟨(some 16), .bin .none .lss (.t 14) (.t 15), none, false, []⟩] none [0, 1, 16])
  (.cond (.t 16)
    (.seq (.ops [⟨(some 4), .mov (.c (.int .i64 (-1))), none, false, []⟩] none [4])
    .ret)
    .skip))
  (.seq (.seq (.ops [⟨(some 17), .mov (.t 0), none, false, []⟩,
    ⟨(some 18), .mov (.t 1), none, false, []⟩,
    ⟨(some 19), .bin .none .gtr (.t 17) (.t 18), none, false, []⟩] none [19])
  (.cond (.t 19)
    (.seq (.ops [⟨(some 4), .mov (.c (.int .i64 1)), none, false, []⟩] none [4])
    .ret)
    .skip))
  (.seq (.ops [⟨(some 4), .mov (.c (.int .i64 0)), none, false, []⟩] none [4])
  .ret))))))))
def cmp_Compare_int__r : List RRes := [.tmp 4]
def cmp_Compare_int__hi : Hi := ⟨[], [(0, "x"), (1, "y"), (2, "x"), (3, "y"), (5, "xNaN"), (6, "yNaN")]⟩
def cmp_Compare_int__an : An := .d
def cmp_Compare_int__fi : Fi := ⟨20, cmp_Compare_int__c, cmp_Compare_int__r, cmp_Compare_int__an, cmp_Compare_int__hi, none⟩
theorem cmp_Compare_int__ok : FiOk Try.prog f_cmp_Compare_int_ cmp_Compare_int__fi :=
  ⟨fun _ => by kernel_rfl, fun _ h hlen => fun_sound (by kernel_rfl) (fn := Try.f65) (draw_sound _ _) Try.func65 rfl (by kernel_rfl : comp Try.prog 20 _ cmp_Compare_int__c = some cmp_Compare_int__c) (by kernel_rfl : cRes Try.prog Try.f65.results.toList = some cmp_Compare_int__r) hlen h, fun _ h => nomatch h⟩

/-- cmp.Or[int]: slots [0 vals, 1 vals, 3 zero, 4 _, 5 val] -/
def cmp_Or_int__c : SCode :=
  (.seq (.ops [⟨(some 2), .mov (.c (.int .i64 0)), none, false, []⟩] none [0])
  (.seq (.ops [⟨(some 3), .mov (.c (.int .i64 0)), none, false, []⟩] none [0, 3])
  (.seq (.seq (.ops [⟨(some 6), .mov (.t 0), none, false, []⟩,
    ⟨(some 7), .len false (.t 6), none, false, []⟩,
    ⟨(some 8), .mov (.c (.int .i64 0)), none, false, []⟩] none [3, 6, 7, 8])
  (.block 0 (.loop [3, 6, 7] [8] 0
    (.seq (.ops [⟨(some 9), .bin .none .lss (.t 8) (.t 7), none, false, []⟩] none [3, 6, 7, 8, 9])
    (.seq (.cond (.t 9)
      .skip
      (.exit 0))
    (.seq (.block 1 (.seq (.ops [⟨(some 10), .iaddr 1 none (.t 6) (.t 8), none, false, []⟩,
      ⟨(some 11), .load 1 false (.t 10), none, false, []⟩,
      ⟨(some 5), .mov (.t 11), none, false, []⟩] none [3, 5, 6, 7, 8])
    (.seq (.ops [⟨(some 12), .mov (.t 5), none, false, []⟩,
      ⟨(some 13), .mov (.t 3), none, false, []⟩,
      ⟨(some 14), .bin .none .neq (.t 12) (.t 13), none, false, []⟩] none [3, 5, 6, 7, 8, 14])
    (.cond (.t 14)
      (.seq (.ops [⟨(some 15), .mov (.t 5), none, false, []⟩,
        ⟨(some 2), .mov (.t 15), none, false, []⟩] none [2])
      .ret)
      .skip))))
    (.ops [⟨(some 16), .bin .none .add (.t 8) (.c (.int .i64 1)), none, false, []⟩,
      ⟨(some 8), .mov (.t 16), none, false, []⟩] none [3, 6, 7, 8])))))))
  (.seq (.ops [⟨(some 17), .mov (.t 3), none, false, []⟩,
    ⟨(some 2), .mov (.t 17), none, false, []⟩] none [2])
  .ret))))
def cmp_Or_int__r : List RRes := [.tmp 2]
def cmp_Or_int__hi : Hi := ⟨[], [(0, "vals"), (1, "vals"), (3, "zero"), (5, "val")]⟩
def cmp_Or_int__an : An := (.seq .d (.seq .d (.seq (.seq .d (.loop [] [] [] .d)) .d)))
def cmp_Or_int__fi : Fi := ⟨18, cmp_Or_int__c, cmp_Or_int__r, cmp_Or_int__an, cmp_Or_int__hi, none⟩
theorem cmp_Or_int__ok : FiOk Try.prog f_cmp_Or_int_ cmp_Or_int__fi :=
  ⟨fun _ => by kernel_rfl, fun _ h hlen => fun_sound (by kernel_rfl) (fn := Try.f64) (draw_sound _ _) Try.func64 rfl (by kernel_rfl : comp Try.prog 18 _ cmp_Or_int__c = some cmp_Or_int__c) (by kernel_rfl : cRes Try.prog Try.f64.results.toList = some cmp_Or_int__r) hlen h, fun _ h => nomatch h⟩

/-- fustian/cursors.norm$1: slots [0 a, 1 b, 2 a, 3 b] -/
def cursors_norm_1_c : SCode :=
  (.seq (.ops [⟨(some 2), .box 0 (.t 0), none, false, []⟩,
    ⟨(some 3), .box 0 (.t 1), none, false, []⟩,
    ⟨(some 4), .mov (.c (.int .i64 0)), none, false, []⟩] none [2, 3])
  (.seq (.ops [⟨(some 5), .load 2 true (.t 2), none, false, []⟩,
    ⟨(some 7), .load 2 true (.t 3), none, false, []⟩,
    ⟨(some 10), .load 2 true (.t 2), none, false, []⟩,
    ⟨(some 12), .load 2 true (.t 3), none, false, []⟩,
    ⟨(some 6), .call f_cursors_lo [(.t 5)], none, false, []⟩,
    ⟨(some 8), .call f_cursors_lo [(.t 7)], none, false, []⟩,
    ⟨(some 9), .call f_cmp_Compare_int_ [(.t 6), (.t 8)], none, false, []⟩,
    ⟨(some 11), .call f_cursors_hi [(.t 10)], none, false, []⟩,
    ⟨(some 13), .call f_cursors_hi [(.t 12)], none, false, []⟩,
    ⟨(some 14), .call f_cmp_Compare_int_ [(.t 11), (.t 13)], none, false, []⟩,
    ⟨(some 15), .bslice true 2 1 [(.int .i64 0), (.int .i64 0)] [(0, 1, (.t 9)), (1, 1, (.t 14))], none, false, []⟩,
    ⟨(some 16), .call f_cmp_Or_int_ [(.t 15)], none, false, []⟩,
    ⟨(some 4), .mov (.t 16), none, false, []⟩] (some (8, 0, [0, 2, 5, 7, 1, 3, 4, 6, 8, 9, 10, 11, 12])) [4])
  .ret))
def cursors_norm_1_r : List RRes := [.tmp 4]
def cursors_norm_1_hi : Hi := ⟨[(15, (.int .i64)), (2, (.st (.cons (.int .i64) (.cons (.int .i64) .nil)))), (3, (.st (.cons (.int .i64) (.cons (.int .i64) .nil))))], [(0, "a"), (1, "b"), (2, "a"), (3, "b")]⟩
def cursors_norm_1_an : An := .d
def cursors_norm_1_fi : Fi := ⟨17, cursors_norm_1_c, cursors_norm_1_r, cursors_norm_1_an, cursors_norm_1_hi, none⟩
theorem cursors_norm_1_ok : FiOk Try.prog f_cursors_norm_1 cursors_norm_1_fi :=
  ⟨fun _ => by kernel_rfl, fun _ h hlen => fun_sound (by kernel_rfl) (fn := Try.f90) (draw_sound _ _) Try.func90 rfl (by kernel_rfl : comp Try.prog 17 _ cursors_norm_1_c = some cursors_norm_1_c) (by kernel_rfl : cRes Try.prog Try.f90.results.toList = some cursors_norm_1_r) hlen h, fun _ h => nomatch h⟩

/-- slices.insertionSortCmpFunc[fustian/api.Cursor]: slots [0 data, 1 a, 2 b, 3 cmp, 4 data, 5 a, 6 b, 7 cmp, 8 i, 9 j] -/
def slices_insertionSortCmpFunc_api_Cursor__c : SCode :=
  (.seq (.ops [⟨(some 10), .mov (.t 1), none, false, []⟩,
    ⟨(some 11), .bin .none .add (.t 10) (.c (.int .i64 1)), none, false, []⟩,
    ⟨(some 8), .mov (.t 11), none, false, []⟩] none [0, 1, 2, 3, 8])
  (.block 0 (.loop [0, 1, 2, 3] [8] 0
    (.seq (.seq (.ops [⟨(some 12), .mov (.t 8), none, false, []⟩,
      ⟨(some 13), .mov (.t 2), none, false, []⟩,
      ⟨(some 14), .bin .none .lss (.t 12) (.t 13), none, false, []⟩] none [0, 1, 2, 3, 8, 14])
    (.cond (.t 14)
      .skip
      (.exit 0)))
    (.seq (.block 1 (.seq (.ops [⟨(some 17), .mov (.t 8), none, false, []⟩,
      ⟨(some 9), .mov (.t 17), none, false, []⟩] none [0, 1, 2, 3, 8, 9])
    (.block 2 (.loop [0, 1, 2, 3, 8] [9] 0
      (.seq (.seq (.ops [⟨(some 18), .mov (.t 9), none, false, []⟩,
        ⟨(some 19), .mov (.t 1), none, false, []⟩,
        ⟨(some 20), .bin .none .gtr (.t 18) (.t 19), none, false, []⟩,
        ⟨(some 21), .mov (.t 20), none, true, []⟩,
        ⟨(some 22), .mov (.t 3), (some (21, true)), false, []⟩,
        ⟨(some 23), .mov (.t 0), (some (21, true)), false, []⟩,
        ⟨(some 24), .mov (.t 9), (some (21, true)), false, []⟩,
        ⟨(some 25), .iaddr 2 none (.t 23) (.t 24), (some (21, true)), false, []⟩,
        ⟨(some 26), .load 2 true (.t 25), (some (21, true)), false, []⟩,
        ⟨(some 27), .mov (.t 0), (some (21, true)), false, []⟩,
        ⟨(some 28), .mov (.t 9), (some (21, true)), false, []⟩,
        ⟨(some 29), .bin .none .sub (.t 28) (.c (.int .i64 1)), (some (21, true)), false, []⟩,
        ⟨(some 30), .iaddr 2 none (.t 27) (.t 29), (some (21, true)), false, []⟩,
        ⟨(some 31), .load 2 true (.t 30), (some (21, true)), false, []⟩,
        ⟨(some 32), .callv (.t 22) [(.t 26), (.t 31)], (some (21, true)), false, []⟩,
        ⟨(some 33), .bin .none .lss (.t 32) (.c (.int .i64 0)), (some (21, true)), false, []⟩,
        ⟨(some 34), .pick (.t 21) (.t 33) (.c (.bool false)), none, false, []⟩] (some (0, 0, [0, 1, 2, 3, 4, 5, 6, 7, 8, 9, 10, 11, 12, 13, 14, 15, 16])) [0, 1, 2, 3, 8, 9, 34])
      (.cond (.t 34)
        .skip
        (.exit 2)))
      (.seq (.block 3 (.ops [⟨(some 37), .mov (.t 0), none, false, []⟩,
        ⟨(some 38), .mov (.t 9), none, false, []⟩,
        ⟨(some 39), .mov (.t 0), none, false, []⟩,
        ⟨(some 40), .mov (.t 9), none, false, []⟩,
        ⟨(some 41), .bin .none .sub (.t 40) (.c (.int .i64 1)), none, false, []⟩,
        ⟨(some 42), .mov (.t 0), none, false, []⟩,
        ⟨(some 43), .mov (.t 9), none, false, []⟩,
        ⟨(some 44), .bin .none .sub (.t 43) (.c (.int .i64 1)), none, false, []⟩,
        ⟨(some 45), .iaddr 2 none (.t 42) (.t 44), none, false, []⟩,
        ⟨(some 46), .load 2 true (.t 45), none, false, []⟩,
        ⟨(some 47), .mov (.t 0), none, false, []⟩,
        ⟨(some 48), .mov (.t 9), none, false, []⟩,
        ⟨(some 49), .iaddr 2 none (.t 47) (.t 48), none, false, []⟩,
        ⟨(some 50), .load 2 true (.t 49), none, false, []⟩,
        ⟨(some 51), .iaddr 2 none (.t 37) (.t 38), none, false, []⟩,
        ⟨none, .store 2 (.t 51) (.t 46), none, false, []⟩,
        ⟨(some 52), .iaddr 2 none (.t 39) (.t 41), none, false, []⟩,
        ⟨none, .store 2 (.t 52) (.t 50), none, false, []⟩] (some (0, 0, [0, 1, 2, 3, 4, 5, 6, 7, 8, 9, 10, 11, 12, 13, 14, 15, 16, 17])) [0, 1, 2, 3, 8, 9]))
      (.ops [⟨(some 35), .mov (.t 9), none, false, []⟩,
        ⟨(some 36), .bin .none .sub (.t 35) (.c (.int .i64 1)), none, false, []⟩,
        ⟨(some 9), .mov (.t 36), none, false, []⟩] none [0, 1, 2, 3, 8, 9])))))))
    (.ops [⟨(some 15), .mov (.t 8), none, false, []⟩,
      ⟨(some 16), .bin .none .add (.t 15) (.c (.int .i64 1)), none, false, []⟩,
      ⟨(some 8), .mov (.t 16), none, false, []⟩] none [0, 1, 2, 3, 8]))))))
def slices_insertionSortCmpFunc_api_Cursor__r : List RRes := []
def slices_insertionSortCmpFunc_api_Cursor__hi : Hi := ⟨[], [(0, "data"), (1, "a"), (2, "b"), (3, "cmp"), (4, "data"), (5, "a"), (6, "b"), (7, "cmp"), (8, "i"), (9, "j")]⟩
def slices_insertionSortCmpFunc_api_Cursor__an : An := (.seq .d (.loop [3, 0] [] [] (.seq .d (.seq (.seq .d (.loop [3, 0] [] [] .d)) .d))))
def slices_insertionSortCmpFunc_api_Cursor__fi : Fi := ⟨53, slices_insertionSortCmpFunc_api_Cursor__c, slices_insertionSortCmpFunc_api_Cursor__r, slices_insertionSortCmpFunc_api_Cursor__an, slices_insertionSortCmpFunc_api_Cursor__hi, none⟩
theorem slices_insertionSortCmpFunc_api_Cursor__ok : FiOk Try.prog f_slices_insertionSortCmpFunc_api_Cursor_ slices_insertionSortCmpFunc_api_Cursor__fi :=
  ⟨fun _ => by kernel_rfl, fun _ h hlen => fun_sound (by kernel_rfl) (fn := Try.f146) (draw_sound _ _) Try.func146 rfl (by kernel_rfl : comp Try.prog 53 _ slices_insertionSortCmpFunc_api_Cursor__c = some slices_insertionSortCmpFunc_api_Cursor__c) (by kernel_rfl : cRes Try.prog Try.f146.results.toList = some slices_insertionSortCmpFunc_api_Cursor__r) hlen h, fun _ h => nomatch h⟩

/-- slices.swapRangeCmpFunc[fustian/api.Cursor]: slots [0 data, 1 a, 2 b, 3 n, 4 cmp, 5 data, 6 a, 7 b, 8 n, 9 cmp, 10 i] -/
def slices_swapRangeCmpFunc_api_Cursor__c : SCode :=
  (.seq (.ops [⟨(some 10), .mov (.c (.int .i64 0)), none, false, []⟩] none [0, 1, 2, 3, 10])
  (.block 0 (.loop [0, 1, 2, 3] [10] 0
    (.seq (.seq (.ops [⟨(some 11), .mov (.t 10), none, false, []⟩,
      ⟨(some 12), .mov (.t 3), none, false, []⟩,
      ⟨(some 13), .bin .none .lss (.t 11) (.t 12), none, false, []⟩] none [0, 1, 2, 3, 10, 13])
    (.cond (.t 13)
      .skip
      (.exit 0)))
    (.seq (.block 1 (.ops [⟨(some 16), .mov (.t 0), none, false, []⟩,
      ⟨(some 17), .mov (.t 1), none, false, []⟩,
      ⟨(some 18), .mov (.t 10), none, false, []⟩,
      ⟨(some 19), .bin .none .add (.t 17) (.t 18), none, false, []⟩,
      ⟨(some 20), .mov (.t 0), none, false, []⟩,
      ⟨(some 21), .mov (.t 2), none, false, []⟩,
      ⟨(some 22), .mov (.t 10), none, false, []⟩,
      ⟨(some 23), .bin .none .add (.t 21) (.t 22), none, false, []⟩,
      ⟨(some 24), .mov (.t 0), none, false, []⟩,
      ⟨(some 25), .mov (.t 2), none, false, []⟩,
      ⟨(some 26), .mov (.t 10), none, false, []⟩,
      ⟨(some 27), .bin .none .add (.t 25) (.t 26), none, false, []⟩,
      ⟨(some 28), .iaddr 2 none (.t 24) (.t 27), none, false, []⟩,
      ⟨(some 29), .load 2 true (.t 28), none, false, []⟩,
      ⟨(some 30), .mov (.t 0), none, false, []⟩,
      ⟨(some 31), .mov (.t 1), none, false, []⟩,
      ⟨(some 32), .mov (.t 10), none, false, []⟩,
      ⟨(some 33), .bin .none .add (.t 31) (.t 32), none, false, []⟩,
      ⟨(some 34), .iaddr 2 none (.t 30) (.t 33), none, false, []⟩,
      ⟨(some 35), .load 2 true (.t 34), none, false, []⟩,
      ⟨(some 36), .iaddr 2 none (.t 16) (.t 19), none, false, []⟩,
      ⟨none, .store 2 (.t 36) (.t 29), none, false, []⟩,
      ⟨(some 37), .iaddr 2 none (.t 20) (.t 23), none, false, []⟩,
      ⟨none, .store 2 (.t 37) (.t 35), none, false, []⟩] (some (0, 0, [0, 1, 2, 3, 4, 5, 6, 7, 8, 9, 10, 11, 12, 13, 14, 15, 16, 17, 18, 19, 20, 21, 22, 23])) [0, 1, 2, 3, 10]))
    (.ops [⟨(some 14), .mov (.t 10), none, false, []⟩,
      ⟨(some 15), .bin .none .add (.t 14) (.c (.int .i64 1)), none, false, []⟩,
      ⟨(some 10), .mov (.t 15), none, false, []⟩] none [0, 1, 2, 3, 10]))))))
def slices_swapRangeCmpFunc_api_Cursor__r : List RRes := []
def slices_swapRangeCmpFunc_api_Cursor__hi : Hi := ⟨[], [(0, "data"), (1, "a"), (2, "b"), (3, "n"), (4, "cmp"), (5, "data"), (6, "a"), (7, "b"), (8, "n"), (9, "cmp"), (10, "i")]⟩
def slices_swapRangeCmpFunc_api_Cursor__an : An := (.seq .d (.loop [0] [] [] .d))
def slices_swapRangeCmpFunc_api_Cursor__fi : Fi := ⟨38, slices_swapRangeCmpFunc_api_Cursor__c, slices_swapRangeCmpFunc_api_Cursor__r, slices_swapRangeCmpFunc_api_Cursor__an, slices_swapRangeCmpFunc_api_Cursor__hi, none⟩
theorem slices_swapRangeCmpFunc_api_Cursor__ok : FiOk Try.prog f_slices_swapRangeCmpFunc_api_Cursor_ slices_swapRangeCmpFunc_api_Cursor__fi :=
  ⟨fun _ => by kernel_rfl, fun _ h hlen => fun_sound (by kernel_rfl) (fn := Try.f189) (draw_sound _ _) Try.func189 rfl (by kernel_rfl : comp Try.prog 38 _ slices_swapRangeCmpFunc_api_Cursor__c = some slices_swapRangeCmpFunc_api_Cursor__c) (by kernel_rfl : cRes Try.prog Try.f189.results.toList = some slices_swapRangeCmpFunc_api_Cursor__r) hlen h, fun _ h => nomatch h⟩

/-- slices.rotateCmpFunc[fustian/api.Cursor]: slots [0 data, 1 a, 2 m, 3 b, 4 cmp, 5 data, 6 a, 7 m, 8 b, 9 cmp, 10 i, 11 j] -/
def slices_rotateCmpFunc_api_Cursor__c : SCode :=
  (.seq (.ops [⟨(some 12), .mov (.t 2), none, false, []⟩,
    ⟨(some 13), .mov (.t 1), none, false, []⟩,
    ⟨(some 14), .bin .none .sub (.t 12) (.t 13), none, false, []⟩,
    ⟨(some 10), .mov (.t 14), none, false, []⟩] none [0, 2, 3, 4, 10])
  (.seq (.ops [⟨(some 15), .mov (.t 3), none, false, []⟩,
    ⟨(some 16), .mov (.t 2), none, false, []⟩,
    ⟨(some 17), .bin .none .sub (.t 15) (.t 16), none, false, []⟩,
    ⟨(some 11), .mov (.t 17), none, false, []⟩] none [0, 2, 4, 10, 11])
  (.seq (.block 0 (.loop [0, 2, 4] [10, 11] 0
    (.seq (.seq (.ops [⟨(some 18), .mov (.t 10), none, false, []⟩,
      ⟨(some 19), .mov (.t 11), none, false, []⟩,
      ⟨(some 20), .bin .none .neq (.t 18) (.t 19), none, false, []⟩] none [0, 2, 4, 10, 11, 20])
    (.cond (.t 20)
      .skip
      (.exit 0)))
    (.block 1 (.seq (.ops [⟨(some 21), .mov (.t 10), none, false, []⟩,
      ⟨(some 22), .mov (.t 11), none, false, []⟩,
      ⟨(some 23), .bin .none .gtr (.t 21) (.t 22), none, false, []⟩] none [0, 2, 4, 10, 11, 23])
    (.cond (.t 23)
      (.seq (.ops [⟨(some 24), .mov (.t 0), none, false, []⟩,
        ⟨(some 25), .mov (.t 2), none, false, []⟩,
        ⟨(some 26), .mov (.t 10), none, false, []⟩,
        ⟨(some 27), .bin .none .sub (.t 25) (.t 26), none, false, []⟩,
        ⟨(some 28), .mov (.t 2), none, false, []⟩,
        ⟨(some 29), .mov (.t 11), none, false, []⟩,
        ⟨(some 30), .mov (.t 4), none, false, []⟩,
        ⟨(some 31), .call f_slices_swapRangeCmpFunc_api_Cursor_ [(.t 24), (.t 27), (.t 28), (.t 29), (.t 30)], none, false, []⟩] none [0, 2, 4, 10, 11])
      (.ops [⟨(some 32), .mov (.t 10), none, false, []⟩,
        ⟨(some 33), .mov (.t 11), none, false, []⟩,
        ⟨(some 34), .bin .none .sub (.t 32) (.t 33), none, false, []⟩,
        ⟨(some 10), .mov (.t 34), none, false, []⟩] none [0, 2, 4, 10, 11]))
      (.seq (.ops [⟨(some 35), .mov (.t 0), none, false, []⟩,
        ⟨(some 36), .mov (.t 2), none, false, []⟩,
        ⟨(some 37), .mov (.t 10), none, false, []⟩,
        ⟨(some 38), .bin .none .sub (.t 36) (.t 37), none, false, []⟩,
        ⟨(some 39), .mov (.t 2), none, false, []⟩,
        ⟨(some 40), .mov (.t 11), none, false, []⟩,
        ⟨(some 41), .bin .none .add (.t 39) (.t 40), none, false, []⟩,
        ⟨(some 42), .mov (.t 10), none, false, []⟩,
        ⟨(some 43), .bin .none .sub (.t 41) (.t 42), none, false, []⟩,
        ⟨(some 44), .mov (.t 10), none, false, []⟩,
        ⟨(some 45), .mov (.t 4), none, false, []⟩,
        ⟨(some 46), .call f_slices_swapRangeCmpFunc_api_Cursor_ [(.t 35), (.t 38), (.t 43), (.t 44), (.t 45)], none, false, []⟩] none [0, 2, 4, 10, 11])
      (.ops [⟨(some 47), .mov (.t 11), none, false, []⟩,
        ⟨(some 48), .mov (.t 10), none, false, []⟩,
        ⟨(some 49), .bin .none .sub (.t 47) (.t 48), none, false, []⟩,
        ⟨(some 11), .mov (.t 49), none, false, []⟩] none [0, 2, 4, 10, 11]))))))))
  (.ops [⟨(some 50), .mov (.t 0), none, false, []⟩,
    ⟨(some 51), .mov (.t 2), none, false, []⟩,
    ⟨(some 52), .mov (.t 10), none, false, []⟩,
    ⟨(some 53), .bin .none .sub (.t 51) (.t 52), none, false, []⟩,
    ⟨(some 54), .mov (.t 2), none, false, []⟩,
    ⟨(some 55), .mov (.t 10), none, false, []⟩,
    ⟨(some 56), .mov (.t 4), none, false, []⟩,
    ⟨(some 57), .call f_slices_swapRangeCmpFunc_api_Cursor_ [(.t 50), (.t 53), (.t 54), (.t 55), (.t 56)], none, false, []⟩] none []))))
def slices_rotateCmpFunc_api_Cursor__r : List RRes := []
def slices_rotateCmpFunc_api_Cursor__hi : Hi := ⟨[], [(0, "data"), (1, "a"), (2, "m"), (3, "b"), (4, "cmp"), (5, "data"), (6, "a"), (7, "m"), (8, "b"), (9, "cmp"), (10, "i"), (11, "j")]⟩
def slices_rotateCmpFunc_api_Cursor__an : An := (.seq .d (.seq .d (.seq (.loop [0, 4] [] [] .d) .d)))
def slices_rotateCmpFunc_api_Cursor__fi : Fi := ⟨58, slices_rotateCmpFunc_api_Cursor__c, slices_rotateCmpFunc_api_Cursor__r, slices_rotateCmpFunc_api_Cursor__an, slices_rotateCmpFunc_api_Cursor__hi, none⟩
theorem slices_rotateCmpFunc_api_Cursor__ok : FiOk Try.prog f_slices_rotateCmpFunc_api_Cursor_ slices_rotateCmpFunc_api_Cursor__fi :=
  ⟨fun _ => by kernel_rfl, fun _ h hlen => fun_sound (by kernel_rfl) (fn := Try.f175) (draw_sound _ _) Try.func175 rfl (by kernel_rfl : comp Try.prog 58 _ slices_rotateCmpFunc_api_Cursor__c = some slices_rotateCmpFunc_api_Cursor__c) (by kernel_rfl : cRes Try.prog Try.f175.results.toList = some slices_rotateCmpFunc_api_Cursor__r) hlen h, fun _ h => nomatch h⟩

/-- slices.symMergeCmpFunc[fustian/api.Cursor]: slots [0 data, 1 a, 2 m, 3 b, 4 cmp, 5 data, 6 a, 7 m, 8 b, 9 cmp, 10 i, 11 j, 12 h, 13 k, 14 i, 15 j, 16 h, 17 k, 18 mid, 19 n, 20 start, 21 r, 22 p, 23 c, 24 end] -/
def slices_symMergeCmpFunc_api_Cursor__c : SCode :=
  (.seq (.seq (.ops [⟨(some 25), .mov (.t 2), none, false, []⟩,
    ⟨(some 26), .mov (.t 1), none, false, []⟩,
    ⟨(some 27), .bin .none .sub (.t 25) (.t 26), none, false, []⟩,
    ⟨(some 28), .bin .none .eql (.t 27) (.c (.int .i64 1)), none, false, []⟩] none [0, 1, 2, 3, 4, 28])
  (.cond (.t 28)
    (.seq (.ops [⟨(some 29), .mov (.t 2), none, false, []⟩,
      ⟨(some 10), .mov (.t 29), none, false, []⟩] none [0, 1, 3, 4, 10])
    (.seq (.ops [⟨(some 30), .mov (.t 3), none, false, []⟩,
      ⟨(some 11), .mov (.t 30), none, false, []⟩] none [0, 1, 4, 10, 11])
    (.seq (.block 0 (.loop [0, 1, 4] [10, 11] 0
      (.seq (.seq (.ops [⟨(some 31), .mov (.t 10), none, false, []⟩,
        ⟨(some 32), .mov (.t 11), none, false, []⟩,
        ⟨(some 33), .bin .none .lss (.t 31) (.t 32), none, false, []⟩] none [0, 1, 4, 10, 11, 33])
      (.cond (.t 33)
        .skip
        (.exit 0)))
      (.block 1 (.seq (.ops [⟨(some 34), .mov (.t 10), none, false, []⟩,
        ⟨(some 35), .mov (.t 11), none, false, []⟩,
        ⟨(some 36), .bin .none .add (.t 34) (.t 35), none, false, []⟩,
        ⟨(some 37), .conv .u64 (.t 36), none, false, []⟩,
        ⟨(some 38), .bin .none .shr (.t 37) (.c (.int .u64 1)), none, false, []⟩,
        ⟨(some 39), .conv .i64 (.t 38), none, false, []⟩,
        ⟨(some 12), .mov (.t 39), none, false, []⟩] none [0, 1, 4, 10, 11, 12])
      (.seq (.ops [⟨(some 40), .mov (.t 4), none, false, []⟩,
        ⟨(some 41), .mov (.t 0), none, false, []⟩,
        ⟨(some 42), .mov (.t 12), none, false, []⟩,
        ⟨(some 43), .iaddr 2 none (.t 41) (.t 42), none, false, []⟩,
        ⟨(some 44), .load 2 true (.t 43), none, false, []⟩,
        ⟨(some 45), .mov (.t 0), none, false, []⟩,
        ⟨(some 46), .mov (.t 1), none, false, []⟩,
        ⟨(some 47), .iaddr 2 none (.t 45) (.t 46), none, false, []⟩,
        ⟨(some 48), .load 2 true (.t 47), none, false, []⟩,
        ⟨(some 49), .callv (.t 40) [(.t 44), (.t 48)], none, false, []⟩,
        ⟨(some 50), .bin .none .lss (.t 49) (.c (.int .i64 0)), none, false, []⟩] (some (0, 0, [0, 1, 2, 3, 4, 5, 6, 7, 8, 9, 10])) [0, 1, 4, 10, 11, 12, 50])
      (.cond (.t 50)
        (.ops [⟨(some 51), .mov (.t 12), none, false, []⟩,
          ⟨(some 52), .bin .none .add (.t 51) (.c (.int .i64 1)), none, false, []⟩,
          ⟨(some 10), .mov (.t 52), none, false, []⟩] none [0, 1, 4, 10, 11])
        (.ops [⟨(some 53), .mov (.t 12), none, false, []⟩,
          ⟨(some 11), .mov (.t 53), none, false, []⟩] none [0, 1, 4, 10, 11]))))))))
    (.seq (.seq (.ops [⟨(some 54), .mov (.t 1), none, false, []⟩,
      ⟨(some 13), .mov (.t 54), none, false, []⟩] none [0, 10, 13])
    (.block 2 (.loop [0, 10] [13] 0
      (.seq (.seq (.ops [⟨(some 55), .mov (.t 13), none, false, []⟩,
        ⟨(some 56), .mov (.t 10), none, false, []⟩,
        ⟨(some 57), .bin .none .sub (.t 56) (.c (.int .i64 1)), none, false, []⟩,
        ⟨(some 58), .bin .none .lss (.t 55) (.t 57), none, false, []⟩] none [0, 10, 13, 58])
      (.cond (.t 58)
        .skip
        (.exit 2)))
      (.seq (.block 3 (.ops [⟨(some 61), .mov (.t 0), none, false, []⟩,
        ⟨(some 62), .mov (.t 13), none, false, []⟩,
        ⟨(some 63), .mov (.t 0), none, false, []⟩,
        ⟨(some 64), .mov (.t 13), none, false, []⟩,
        ⟨(some 65), .bin .none .add (.t 64) (.c (.int .i64 1)), none, false, []⟩,
        ⟨(some 66), .mov (.t 0), none, false, []⟩,
        ⟨(some 67), .mov (.t 13), none, false, []⟩,
        ⟨(some 68), .bin .none .add (.t 67) (.c (.int .i64 1)), none, false, []⟩,
        ⟨(some 69), .iaddr 2 none (.t 66) (.t 68), none, false, []⟩,
        ⟨(some 70), .load 2 true (.t 69), none, false, []⟩,
        ⟨(some 71), .mov (.t 0), none, false, []⟩,
        ⟨(some 72), .mov (.t 13), none, false, []⟩,
        ⟨(some 73), .iaddr 2 none (.t 71) (.t 72), none, false, []⟩,
        ⟨(some 74), .load 2 true (.t 73), none, false, []⟩,
        ⟨(some 75), .iaddr 2 none (.t 61) (.t 62), none, false, []⟩,
        ⟨none, .store 2 (.t 75) (.t 70), none, false, []⟩,
        ⟨(some 76), .iaddr 2 none (.t 63) (.t 65), none, false, []⟩,
        ⟨none, .store 2 (.t 76) (.t 74), none, false, []⟩] (some (0, 0, [0, 1, 2, 3, 4, 5, 6, 7, 8, 9, 10, 11, 12, 13, 14, 15, 16, 17])) [0, 10, 13]))
      (.ops [⟨(some 59), .mov (.t 13), none, false, []⟩,
        ⟨(some 60), .bin .none .add (.t 59) (.c (.int .i64 1)), none, false, []⟩,
        ⟨(some 13), .mov (.t 60), none, false, []⟩] none [0, 10, 13]))))))
    .ret))))
    .skip))
  (.seq (.seq (.ops [⟨(some 77), .mov (.t 3), none, false, []⟩,
    ⟨(some 78), .mov (.t 2), none, false, []⟩,
    ⟨(some 79), .bin .none .sub (.t 77) (.t 78), none, false, []⟩,
    ⟨(some 80), .bin .none .eql (.t 79) (.c (.int .i64 1)), none, false, []⟩] none [0, 1, 2, 3, 4, 80])
  (.cond (.t 80)
    (.seq (.ops [⟨(some 81), .mov (.t 1), none, false, []⟩,
      ⟨(some 14), .mov (.t 81), none, false, []⟩] none [0, 2, 4, 14])
    (.seq (.ops [⟨(some 82), .mov (.t 2), none, false, []⟩,
      ⟨(some 15), .mov (.t 82), none, false, []⟩] none [0, 2, 4, 14, 15])
    (.seq (.block 4 (.loop [0, 2, 4] [14, 15] 0
      (.seq (.seq (.ops [⟨(some 83), .mov (.t 14), none, false, []⟩,
        ⟨(some 84), .mov (.t 15), none, false, []⟩,
        ⟨(some 85), .bin .none .lss (.t 83) (.t 84), none, false, []⟩] none [0, 2, 4, 14, 15, 85])
      (.cond (.t 85)
        .skip
        (.exit 4)))
      (.block 5 (.seq (.ops [⟨(some 86), .mov (.t 14), none, false, []⟩,
        ⟨(some 87), .mov (.t 15), none, false, []⟩,
        ⟨(some 88), .bin .none .add (.t 86) (.t 87), none, false, []⟩,
        ⟨(some 89), .conv .u64 (.t 88), none, false, []⟩,
        ⟨(some 90), .bin .none .shr (.t 89) (.c (.int .u64 1)), none, false, []⟩,
        ⟨(some 91), .conv .i64 (.t 90), none, false, []⟩,
        ⟨(some 16), .mov (.t 91), none, false, []⟩] none [0, 2, 4, 14, 15, 16])
      (.seq (.ops [⟨(some 92), .mov (.t 4), none, false, []⟩,
        ⟨(some 93), .mov (.t 0), none, false, []⟩,
        ⟨(some 94), .mov (.t 2), none, false, []⟩,
        ⟨(some 95), .iaddr 2 none (.t 93) (.t 94), none, false, []⟩,
        ⟨(some 96), .load 2 true (.t 95), none, false, []⟩,
        ⟨(some 97), .mov (.t 0), none, false, []⟩,
        ⟨(some 98), .mov (.t 16), none, false, []⟩,
        ⟨(some 99), .iaddr 2 none (.t 97) (.t 98), none, false, []⟩,
        ⟨(some 100), .load 2 true (.t 99), none, false, []⟩,
        ⟨(some 101), .callv (.t 92) [(.t 96), (.t 100)], none, false, []⟩,
        ⟨(some 102), .bin .none .lss (.t 101) (.c (.int .i64 0)), none, false, []⟩,
        ⟨(some 103), .not (.t 102), none, false, []⟩] (some (0, 0, [0, 1, 2, 3, 4, 5, 6, 7, 8, 9, 10, 11])) [0, 2, 4, 14, 15, 16, 103])
      (.cond (.t 103)
        (.ops [⟨(some 104), .mov (.t 16), none, false, []⟩,
          ⟨(some 105), .bin .none .add (.t 104) (.c (.int .i64 1)), none, false, []⟩,
          ⟨(some 14), .mov (.t 105), none, false, []⟩] none [0, 2, 4, 14, 15])
        (.ops [⟨(some 106), .mov (.t 16), none, false, []⟩,
          ⟨(some 15), .mov (.t 106), none, false, []⟩] none [0, 2, 4, 14, 15]))))))))
    (.seq (.seq (.ops [⟨(some 107), .mov (.t 2), none, false, []⟩,
      ⟨(some 17), .mov (.t 107), none, false, []⟩] none [0, 14, 17])
    (.block 6 (.loop [0, 14] [17] 0
      (.seq (.seq (.ops [⟨(some 108), .mov (.t 17), none, false, []⟩,
        ⟨(some 109), .mov (.t 14), none, false, []⟩,
        ⟨(some 110), .bin .none .gtr (.t 108) (.t 109), none, false, []⟩] none [0, 14, 17, 110])
      (.cond (.t 110)
        .skip
        (.exit 6)))
      (.seq (.block 7 (.ops [⟨(some 113), .mov (.t 0), none, false, []⟩,
        ⟨(some 114), .mov (.t 17), none, false, []⟩,
        ⟨(some 115), .mov (.t 0), none, false, []⟩,
        ⟨(some 116), .mov (.t 17), none, false, []⟩,
        ⟨(some 117), .bin .none .sub (.t 116) (.c (.int .i64 1)), none, false, []⟩,
        ⟨(some 118), .mov (.t 0), none, false, []⟩,
        ⟨(some 119), .mov (.t 17), none, false, []⟩,
        ⟨(some 120), .bin .none .sub (.t 119) (.c (.int .i64 1)), none, false, []⟩,
        ⟨(some 121), .iaddr 2 none (.t 118) (.t 120), none, false, []⟩,
        ⟨(some 122), .load 2 true (.t 121), none, false, []⟩,
        ⟨(some 123), .mov (.t 0), none, false, []⟩,
        ⟨(some 124), .mov (.t 17), none, false, []⟩,
        ⟨(some 125), .iaddr 2 none (.t 123) (.t 124), none, false, []⟩,
        ⟨(some 126), .load 2 true (.t 125), none, false, []⟩,
        ⟨(some 127), .iaddr 2 none (.t 113) (.t 114), none, false, []⟩,
        ⟨none, .store 2 (.t 127) (.t 122), none, false, []⟩,
        ⟨(some 128), .iaddr 2 none (.t 115) (.t 117), none, false, []⟩,
        ⟨none, .store 2 (.t 128) (.t 126), none, false, []⟩] (some (0, 0, [0, 1, 2, 3, 4, 5, 6, 7, 8, 9, 10, 11, 12, 13, 14, 15, 16, 17])) [0, 14, 17]))
      (.ops [⟨(some 111), .mov (.t 17), none, false, []⟩,
        ⟨(some 112), .bin .none .sub (.t 111) (.c (.int .i64 1)), none, false, []⟩,
        ⟨(some 17), .mov (.t 112), none, false, []⟩] none [0, 14, 17]))))))
    .ret))))
    .skip))
  (.seq (.ops [⟨(some 129), .mov (.t 1), none, false, []⟩,
    ⟨(some 130), .mov (.t 3), none, false, []⟩,
    ⟨(some 131), .bin .none .add (.t 129) (.t 130), none, false, []⟩,
    ⟨(some 132), .conv .u64 (.t 131), none, false, []⟩,
    ⟨(some 133), .bin .none .shr (.t 132) (.c (.int .u64 1)), none, false, []⟩,
    ⟨(some 134), .conv .i64 (.t 133), none, false, []⟩,
    ⟨(some 18), .mov (.t 134), none, false, []⟩] none [0, 1, 2, 3, 4, 18])
  (.seq (.ops [⟨(some 135), .mov (.t 18), none, false, []⟩,
    ⟨(some 136), .mov (.t 2), none, false, []⟩,
    ⟨(some 137), .bin .none .add (.t 135) (.t 136), none, false, []⟩,
    ⟨(some 19), .mov (.t 137), none, false, []⟩] none [0, 1, 2, 3, 4, 18, 19])
  (.seq (.ops [⟨(some 20), .mov (.c (.int .i64 0)), none, false, []⟩,
    ⟨(some 21), .mov (.c (.int .i64 0)), none, false, []⟩] none [0, 1, 2, 3, 4, 18, 19])
  (.join [0, 1, 2, 3, 4, 18, 19] [20, 21] 0 (.seq (.ops [⟨(some 138), .mov (.t 2), none, false, []⟩,
      ⟨(some 139), .mov (.t 18), none, false, []⟩,
      ⟨(some 140), .bin .none .gtr (.t 138) (.t 139), none, false, []⟩] none [0, 1, 2, 3, 4, 18, 19, 140])
    (.cond (.t 140)
      (.seq (.ops [⟨(some 141), .mov (.t 19), none, false, []⟩,
        ⟨(some 142), .mov (.t 3), none, false, []⟩,
        ⟨(some 143), .bin .none .sub (.t 141) (.t 142), none, false, []⟩,
        ⟨(some 20), .mov (.t 143), none, false, []⟩] none [0, 1, 2, 3, 4, 18, 19, 20])
      (.ops [⟨(some 144), .mov (.t 18), none, false, []⟩,
        ⟨(some 21), .mov (.t 144), none, false, []⟩] none [0, 1, 2, 3, 4, 18, 19, 20, 21]))
      (.seq (.ops [⟨(some 145), .mov (.t 1), none, false, []⟩,
        ⟨(some 20), .mov (.t 145), none, false, []⟩] none [0, 1, 2, 3, 4, 18, 19, 20])
      (.ops [⟨(some 146), .mov (.t 2), none, false, []⟩,
        ⟨(some 21), .mov (.t 146), none, false, []⟩] none [0, 1, 2, 3, 4, 18, 19, 20, 21]))))
  (.seq (.ops [⟨(some 147), .mov (.t 19), none, false, []⟩,
    ⟨(some 148), .bin .none .sub (.t 147) (.c (.int .i64 1)), none, false, []⟩,
    ⟨(some 22), .mov (.t 148), none, false, []⟩] none [0, 1, 2, 3, 4, 18, 19, 20, 21, 22])
  (.seq (.block 8 (.loop [0, 1, 2, 3, 4, 18, 19, 22] [20, 21] 0
    (.seq (.seq (.ops [⟨(some 149), .mov (.t 20), none, false, []⟩,
      ⟨(some 150), .mov (.t 21), none, false, []⟩,
      ⟨(some 151), .bin .none .lss (.t 149) (.t 150), none, false, []⟩] none [0, 1, 2, 3, 4, 18, 19, 20, 21, 22, 151])
    (.cond (.t 151)
      .skip
      (.exit 8)))
    (.block 9 (.seq (.ops [⟨(some 152), .mov (.t 20), none, false, []⟩,
      ⟨(some 153), .mov (.t 21), none, false, []⟩,
      ⟨(some 154), .bin .none .add (.t 152) (.t 153), none, false, []⟩,
      ⟨(some 155), .conv .u64 (.t 154), none, false, []⟩,
      ⟨(some 156), .bin .none .shr (.t 155) (.c (.int .u64 1)), none, false, []⟩,
      ⟨(some 157), .conv .i64 (.t 156), none, false, []⟩,
      ⟨(some 23), .mov (.t 157), none, false, []⟩] none [0, 1, 2, 3, 4, 18, 19, 20, 21, 22, 23])
    (.seq (.ops [⟨(some 158), .mov (.t 4), none, false, []⟩,
      ⟨(some 159), .mov (.t 0), none, false, []⟩,
      ⟨(some 160), .mov (.t 22), none, false, []⟩,
      ⟨(some 161), .mov (.t 23), none, false, []⟩,
      ⟨(some 162), .bin .none .sub (.t 160) (.t 161), none, false, []⟩,
      ⟨(some 163), .iaddr 2 none (.t 159) (.t 162), none, false, []⟩,
      ⟨(some 164), .load 2 true (.t 163), none, false, []⟩,
      ⟨(some 165), .mov (.t 0), none, false, []⟩,
      ⟨(some 166), .mov (.t 23), none, false, []⟩,
      ⟨(some 167), .iaddr 2 none (.t 165) (.t 166), none, false, []⟩,
      ⟨(some 168), .load 2 true (.t 167), none, false, []⟩,
      ⟨(some 169), .callv (.t 158) [(.t 164), (.t 168)], none, false, []⟩,
      ⟨(some 170), .bin .none .lss (.t 169) (.c (.int .i64 0)), none, false, []⟩,
      ⟨(some 171), .not (.t 170), none, false, []⟩] (some (0, 0, [0, 1, 2, 3, 4, 5, 6, 7, 8, 9, 10, 11, 12, 13])) [0, 1, 2, 3, 4, 18, 19, 20, 21, 22, 23, 171])
    (.cond (.t 171)
      (.ops [⟨(some 172), .mov (.t 23), none, false, []⟩,
        ⟨(some 173), .bin .none .add (.t 172) (.c (.int .i64 1)), none, false, []⟩,
        ⟨(some 20), .mov (.t 173), none, false, []⟩] none [0, 1, 2, 3, 4, 18, 19, 20, 21, 22])
      (.ops [⟨(some 174), .mov (.t 23), none, false, []⟩,
        ⟨(some 21), .mov (.t 174), none, false, []⟩] none [0, 1, 2, 3, 4, 18, 19, 20, 21, 22]))))))))
  (.seq (.ops [⟨(some 175), .mov (.t 19), none, false, []⟩,
    ⟨(some 176), .mov (.t 20), none, false, []⟩,
    ⟨(some 177), .bin .none .sub (.t 175) (.t 176), none, false, []⟩,
    ⟨(some 24), .mov (.t 177), none, false, []⟩] none [0, 1, 2, 3, 4, 18, 20, 24])
  (.join [0, 1, 3, 4, 18, 20, 24] [] 0 (.seq (.ops [⟨(some 178), .mov (.t 20), none, false, []⟩,
      ⟨(some 179), .mov (.t 2), none, false, []⟩,
      ⟨(some 180), .bin .none .lss (.t 178) (.t 179), none, false, []⟩,
      ⟨(some 181), .mov (.t 180), none, true, []⟩,
      ⟨(some 182), .mov (.t 2), (some (181, true)), false, []⟩,
      ⟨(some 183), .mov (.t 24), (some (181, true)), false, []⟩,
      ⟨(some 184), .bin .none .lss (.t 182) (.t 183), (some (181, true)), false, []⟩,
      ⟨(some 185), .pick (.t 181) (.t 184) (.c (.bool false)), none, false, []⟩] none [0, 1, 2, 3, 4, 18, 20, 24, 185])
    (.cond (.t 185)
      (.ops [⟨(some 186), .mov (.t 0), none, false, []⟩,
        ⟨(some 187), .mov (.t 20), none, false, []⟩,
        ⟨(some 188), .mov (.t 2), none, false, []⟩,
        ⟨(some 189), .mov (.t 24), none, false, []⟩,
        ⟨(some 190), .mov (.t 4), none, false, []⟩,
        ⟨(some 191), .call f_slices_rotateCmpFunc_api_Cursor_ [(.t 186), (.t 187), (.t 188), (.t 189), (.t 190)], none, false, []⟩] none [0, 1, 3, 4, 18, 20, 24])
      .skip))
  (.join [0, 3, 4, 18, 24] [] 0 (.seq (.ops [⟨(some 192), .mov (.t 1), none, false, []⟩,
      ⟨(some 193), .mov (.t 20), none, false, []⟩,
      ⟨(some 194), .bin .none .lss (.t 192) (.t 193), none, false, []⟩,
      ⟨(some 195), .mov (.t 194), none, true, []⟩,
      ⟨(some 196), .mov (.t 20), (some (195, true)), false, []⟩,
      ⟨(some 197), .mov (.t 18), (some (195, true)), false, []⟩,
      ⟨(some 198), .bin .none .lss (.t 196) (.t 197), (some (195, true)), false, []⟩,
      ⟨(some 199), .pick (.t 195) (.t 198) (.c (.bool false)), none, false, []⟩] none [0, 1, 3, 4, 18, 20, 24, 199])
    (.cond (.t 199)
      (.ops [⟨(some 200), .mov (.t 0), none, false, []⟩,
        ⟨(some 201), .mov (.t 1), none, false, []⟩,
        ⟨(some 202), .mov (.t 20), none, false, []⟩,
        ⟨(some 203), .mov (.t 18), none, false, []⟩,
        ⟨(some 204), .mov (.t 4), none, false, []⟩,
        ⟨(some 205), .call f_slices_symMergeCmpFunc_api_Cursor_ [(.t 200), (.t 201), (.t 202), (.t 203), (.t 204)], none, false, []⟩] none [0, 3, 4, 18, 24])
      .skip))
  (.seq (.ops [⟨(some 206), .mov (.t 18), none, false, []⟩,
    ⟨(some 207), .mov (.t 24), none, false, []⟩,
    ⟨(some 208), .bin .none .lss (.t 206) (.t 207), none, false, []⟩,
    ⟨(some 209), .mov (.t 208), none, true, []⟩,
    ⟨(some 210), .mov (.t 24), (some (209, true)), false, []⟩,
    ⟨(some 211), .mov (.t 3), (some (209, true)), false, []⟩,
    ⟨(some 212), .bin .none .lss (.t 210) (.t 211), (some (209, true)), false, []⟩,
    ⟨(some 213), .pick (.t 209) (.t 212) (.c (.bool false)), none, false, []⟩] none [0, 3, 4, 18, 24, 213])
  (.cond (.t 213)
    (.ops [⟨(some 214), .mov (.t 0), none, false, []⟩,
      ⟨(some 215), .mov (.t 18), none, false, []⟩,
      ⟨(some 216), .mov (.t 24), none, false, []⟩,
      ⟨(some 217), .mov (.t 3), none, false, []⟩,
      ⟨(some 218), .mov (.t 4), none, false, []⟩,
      ⟨(some 219), .call f_slices_symMergeCmpFunc_api_Cursor_ [(.t 214), (.t 215), (.t 216), (.t 217), (.t 218)], none, false, []⟩] none [])
    .skip)))))))))))))
def slices_symMergeCmpFunc_api_Cursor__r : List RRes := []
def slices_symMergeCmpFunc_api_Cursor__hi : Hi := ⟨[], [(0, "data"), (1, "a"), (2, "m"), (3, "b"), (4, "cmp"), (5, "data"), (6, "a"), (7, "m"), (8, "b"), (9, "cmp"), (10, "i"), (11, "j"), (12, "h"), (13, "k"), (14, "i"), (15, "j"), (16, "h"), (17, "k"), (18, "mid"), (19, "n"), (20, "start"), (21, "r"), (22, "p"), (23, "c"), (24, "end")]⟩
def slices_symMergeCmpFunc_api_Cursor__an : An := (.seq (.seq .d (.seq (.seq .d (.seq .d (.seq (.loop [4] [] [] .d) (.seq (.seq .d (.loop [0] [] [] .d)) .d)))) .d)) (.seq (.seq .d (.seq (.seq .d (.seq .d (.seq (.loop [4] [] [] .d) (.seq (.seq .d (.loop [0] [] [] .d)) .d)))) .d)) (.seq .d (.seq .d (.seq .d (.seq .d (.seq .d (.seq (.loop [4] [] [] .d) .d))))))))
def slices_symMergeCmpFunc_api_Cursor__fi : Fi := ⟨220, slices_symMergeCmpFunc_api_Cursor__c, slices_symMergeCmpFunc_api_Cursor__r, slices_symMergeCmpFunc_api_Cursor__an, slices_symMergeCmpFunc_api_Cursor__hi, none⟩
theorem slices_symMergeCmpFunc_api_Cursor__ok : FiOk Try.prog f_slices_symMergeCmpFunc_api_Cursor_ slices_symMergeCmpFunc_api_Cursor__fi :=
  ⟨fun _ => by kernel_rfl, fun _ h hlen => fun_sound (by kernel_rfl) (fn := Try.f147) (draw_sound _ _) Try.func147 rfl (by kernel_rfl : comp Try.prog 220 _ slices_symMergeCmpFunc_api_Cursor__c = some slices_symMergeCmpFunc_api_Cursor__c) (by kernel_rfl : cRes Try.prog Try.f147.results.toList = some slices_symMergeCmpFunc_api_Cursor__r) hlen h, fun _ h => nomatch h⟩

/-- slices.stableCmpFunc[fustian/api.Cursor]: slots [0 data, 1 n, 2 cmp, 3 data, 4 n, 5 cmp, 6 blockSize, 7 a, 8 b, 9 m] -/
def slices_stableCmpFunc_api_Cursor__c : SCode :=
  (.seq (.ops [⟨(some 6), .mov (.c (.int .i64 20)), none, false, []⟩] none [0, 1, 2, 6])
  (.seq (.ops [⟨(some 10), .mov (.t 6), none, false, []⟩,
    ⟨(some 7), .mov (.c (.int .i64 0)), none, false, []⟩,
    ⟨(some 8), .mov (.t 10), none, false, []⟩] none [0, 1, 2, 6, 7, 8])
  (.seq (.block 0 (.loop [0, 1, 2, 6] [7, 8] 0
    (.seq (.seq (.ops [⟨(some 11), .mov (.t 8), none, false, []⟩,
      ⟨(some 12), .mov (.t 1), none, false, []⟩,
      ⟨(some 13), .bin .none .leq (.t 11) (.t 12), none, false, []⟩] none [0, 1, 2, 6, 7, 8, 13])
    (.cond (.t 13)
      .skip
      (.exit 0)))
    (.block 1 (.seq (.ops [⟨(some 14), .mov (.t 0), none, false, []⟩,
      ⟨(some 15), .mov (.t 7), none, false, []⟩,
      ⟨(some 16), .mov (.t 8), none, false, []⟩,
      ⟨(some 17), .mov (.t 2), none, false, []⟩,
      ⟨(some 18), .call f_slices_insertionSortCmpFunc_api_Cursor_ [(.t 14), (.t 15), (.t 16), (.t 17)], none, false, []⟩] none [0, 1, 2, 6, 8])
    (.seq (.ops [⟨(some 19), .mov (.t 8), none, false, []⟩,
      ⟨(some 7), .mov (.t 19), none, false, []⟩] none [0, 1, 2, 6, 7, 8])
    (.ops [⟨(some 20), .mov (.t 8), none, false, []⟩,
      ⟨(some 21), .mov (.t 6), none, false, []⟩,
      ⟨(some 22), .bin .none .add (.t 20) (.t 21), none, false, []⟩,
      ⟨(some 8), .mov (.t 22), none, false, []⟩] none [0, 1, 2, 6, 7, 8])))))))
  (.seq (.ops [⟨(some 23), .mov (.t 0), none, false, []⟩,
    ⟨(some 24), .mov (.t 7), none, false, []⟩,
    ⟨(some 25), .mov (.t 1), none, false, []⟩,
    ⟨(some 26), .mov (.t 2), none, false, []⟩,
    ⟨(some 27), .call f_slices_insertionSortCmpFunc_api_Cursor_ [(.t 23), (.t 24), (.t 25), (.t 26)], none, false, []⟩] none [0, 1, 2, 6])
  (.block 2 (.loop [0, 1, 2] [6] 0
    (.seq (.seq (.ops [⟨(some 28), .mov (.t 6), none, false, []⟩,
      ⟨(some 29), .mov (.t 1), none, false, []⟩,
      ⟨(some 30), .bin .none .lss (.t 28) (.t 29), none, false, []⟩] none [0, 1, 2, 6, 30])
    (.cond (.t 30)
      .skip
      (.exit 2)))
    (.block 3 (.seq (.ops [⟨(some 31), .mov (.t 6), none, false, []⟩,
      ⟨(some 32), .bin .none .mul (.c (.int .i64 2)) (.t 31), none, false, []⟩,
      ⟨(some 7), .mov (.c (.int .i64 0)), none, false, []⟩,
      ⟨(some 8), .mov (.t 32), none, false, []⟩] none [0, 1, 2, 6, 7, 8])
    (.seq (.block 4 (.loop [0, 1, 2, 6] [7, 8] 0
      (.seq (.seq (.ops [⟨(some 33), .mov (.t 8), none, false, []⟩,
        ⟨(some 34), .mov (.t 1), none, false, []⟩,
        ⟨(some 35), .bin .none .leq (.t 33) (.t 34), none, false, []⟩] none [0, 1, 2, 6, 7, 8, 35])
      (.cond (.t 35)
        .skip
        (.exit 4)))
      (.block 5 (.seq (.ops [⟨(some 36), .mov (.t 0), none, false, []⟩,
        ⟨(some 37), .mov (.t 7), none, false, []⟩,
        ⟨(some 38), .mov (.t 7), none, false, []⟩,
        ⟨(some 39), .mov (.t 6), none, false, []⟩,
        ⟨(some 40), .bin .none .add (.t 38) (.t 39), none, false, []⟩,
        ⟨(some 41), .mov (.t 8), none, false, []⟩,
        ⟨(some 42), .mov (.t 2), none, false, []⟩,
        ⟨(some 43), .call f_slices_symMergeCmpFunc_api_Cursor_ [(.t 36), (.t 37), (.t 40), (.t 41), (.t 42)], none, false, []⟩] none [0, 1, 2, 6, 8])
      (.seq (.ops [⟨(some 44), .mov (.t 8), none, false, []⟩,
        ⟨(some 7), .mov (.t 44), none, false, []⟩] none [0, 1, 2, 6, 7, 8])
      (.ops [⟨(some 45), .mov (.t 8), none, false, []⟩,
        ⟨(some 46), .mov (.t 6), none, false, []⟩,
        ⟨(some 47), .bin .none .mul (.c (.int .i64 2)) (.t 46), none, false, []⟩,
        ⟨(some 48), .bin .none .add (.t 45) (.t 47), none, false, []⟩,
        ⟨(some 8), .mov (.t 48), none, false, []⟩] none [0, 1, 2, 6, 7, 8])))))))
    (.join [0, 1, 2, 6] [] 0 (.seq (.ops [⟨(some 49), .mov (.t 7), none, false, []⟩,
        ⟨(some 50), .mov (.t 6), none, false, []⟩,
        ⟨(some 51), .bin .none .add (.t 49) (.t 50), none, false, []⟩,
        ⟨(some 9), .mov (.t 51), none, false, []⟩] none [0, 1, 2, 6, 7, 9])
      (.seq (.ops [⟨(some 52), .mov (.t 9), none, false, []⟩,
        ⟨(some 53), .mov (.t 1), none, false, []⟩,
        ⟨(some 54), .bin .none .lss (.t 52) (.t 53), none, false, []⟩] none [0, 1, 2, 6, 7, 9, 54])
      (.cond (.t 54)
        (.ops [⟨(some 55), .mov (.t 0), none, false, []⟩,
          ⟨(some 56), .mov (.t 7), none, false, []⟩,
          ⟨(some 57), .mov (.t 9), none, false, []⟩,
          ⟨(some 58), .mov (.t 1), none, false, []⟩,
          ⟨(some 59), .mov (.t 2), none, false, []⟩,
          ⟨(some 60), .call f_slices_symMergeCmpFunc_api_Cursor_ [(.t 55), (.t 56), (.t 57), (.t 58), (.t 59)], none, false, []⟩] none [0, 1, 2, 6])
        .skip)))
    (.ops [⟨(some 61), .mov (.t 6), none, false, []⟩,
      ⟨(some 62), .bin .none .mul (.t 61) (.c (.int .i64 2)), none, false, []⟩,
      ⟨(some 6), .mov (.t 62), none, false, []⟩] none [0, 1, 2, 6]))))))))))))
def slices_stableCmpFunc_api_Cursor__r : List RRes := []
def slices_stableCmpFunc_api_Cursor__hi : Hi := ⟨[], [(0, "data"), (1, "n"), (2, "cmp"), (3, "data"), (4, "n"), (5, "cmp"), (6, "blockSize"), (7, "a"), (8, "b"), (9, "m")]⟩
def slices_stableCmpFunc_api_Cursor__an : An := (.seq .d (.seq .d (.seq (.loop [0, 2] [] [] .d) (.seq .d (.loop [0, 2] [] [] (.seq .d (.seq .d (.seq (.loop [0, 2] [] [] .d) .d))))))))
def slices_stableCmpFunc_api_Cursor__fi : Fi := ⟨63, slices_stableCmpFunc_api_Cursor__c, slices_stableCmpFunc_api_Cursor__r, slices_stableCmpFunc_api_Cursor__an, slices_stableCmpFunc_api_Cursor__hi, none⟩
theorem slices_stableCmpFunc_api_Cursor__ok : FiOk Try.prog f_slices_stableCmpFunc_api_Cursor_ slices_stableCmpFunc_api_Cursor__fi :=
  ⟨fun _ => by kernel_rfl, fun _ h hlen => fun_sound (by kernel_rfl) (fn := Try.f116) (draw_sound _ _) Try.func116 rfl (by kernel_rfl : comp Try.prog 63 _ slices_stableCmpFunc_api_Cursor__c = some slices_stableCmpFunc_api_Cursor__c) (by kernel_rfl : cRes Try.prog Try.f116.results.toList = some slices_stableCmpFunc_api_Cursor__r) hlen h, fun _ h => nomatch h⟩

/-- slices.SortStableFunc[[]fustian/api.Cursor,fustian/api.Cursor]: slots [0 x, 1 cmp, 2 x, 3 cmp] -/
def slices_SortStableFunc___api_Cursor_api_Cursor__c : SCode :=
  (.ops [⟨(some 4), .mov (.t 0), none, false, []⟩,
    ⟨(some 5), .mov (.t 0), none, false, []⟩,
    ⟨(some 6), .len false (.t 5), none, false, []⟩,
    ⟨(some 7), .mov (.t 1), none, false, []⟩,
    ⟨(some 8), .call f_slices_stableCmpFunc_api_Cursor_ [(.t 4), (.t 6), (.t 7)], none, false, []⟩] none [])
def slices_SortStableFunc___api_Cursor_api_Cursor__r : List RRes := []
def slices_SortStableFunc___api_Cursor_api_Cursor__hi : Hi := ⟨[], [(0, "x"), (1, "cmp"), (2, "x"), (3, "cmp")]⟩
def slices_SortStableFunc___api_Cursor_api_Cursor__an : An := .d
def slices_SortStableFunc___api_Cursor_api_Cursor__fi : Fi := ⟨9, slices_SortStableFunc___api_Cursor_api_Cursor__c, slices_SortStableFunc___api_Cursor_api_Cursor__r, slices_SortStableFunc___api_Cursor_api_Cursor__an, slices_SortStableFunc___api_Cursor_api_Cursor__hi, none⟩
theorem slices_SortStableFunc___api_Cursor_api_Cursor__ok : FiOk Try.prog f_slices_SortStableFunc___api_Cursor_api_Cursor_ slices_SortStableFunc___api_Cursor_api_Cursor__fi :=
  ⟨fun _ => by kernel_rfl, fun _ h hlen => fun_sound (by kernel_rfl) (fn := Try.f89) (draw_sound _ _) Try.func89 rfl (by kernel_rfl : comp Try.prog 9 _ slices_SortStableFunc___api_Cursor_api_Cursor__c = some slices_SortStableFunc___api_Cursor_api_Cursor__c) (by kernel_rfl : cRes Try.prog Try.f89.results.toList = some slices_SortStableFunc___api_Cursor_api_Cursor__r) hlen h, fun _ h => nomatch h⟩

/-- fustian/cursors.norm: slots [0 l, 1 l, 3 sorted, 4 out, 5 _, 6 c, 7 n, 8 a, 9 bare] -/
def cursors_norm_c : SCode :=
  (.seq (.ops [⟨(some 2), .mov (.c .nils), none, false, []⟩] none [0])
  (.seq (.ops [⟨(some 10), .mov (.t 0), none, false, []⟩,
    ⟨(some 11), .call f_slices_Clone___api_Cursor_api_Cursor_ [(.t 10)], none, false, []⟩,
    ⟨(some 3), .mov (.t 11), none, false, []⟩] none [3])
  (.seq (.ops [⟨(some 12), .mov (.t 3), none, false, []⟩,
    ⟨(some 13), .call f_slices_SortStableFunc___api_Cursor_api_Cursor_ [(.t 12), (.c (.fn (.func f_cursors_norm_1) [] []))], none, false, []⟩] none [3])
  (.seq (.ops [⟨(some 4), .newnil 2, none, false, []⟩] none [3, 4])
  (.seq (.seq (.ops [⟨(some 14), .mov (.t 3), none, false, []⟩,
    ⟨(some 15), .len false (.t 14), none, false, []⟩,
    ⟨(some 16), .mov (.c (.int .i64 0)), none, false, []⟩] none [4, 14, 15, 16])
  (.block 0 (.loop [14, 15] [4, 16] 1
    (.seq (.ops [⟨(some 17), .bin .none .lss (.t 16) (.t 15), none, false, []⟩] none [4, 14, 15, 16, 17])
    (.seq (.cond (.t 17)
      .skip
      (.exit 0))
    (.join [14, 15, 16] [4] 3 (.block 1 (.seq (.ops [⟨(some 18), .iaddr 2 none (.t 14) (.t 16), none, false, []⟩,
        ⟨(some 19), .load 2 true (.t 18), none, false, []⟩,
        ⟨(some 6), .alloc 0 [(.int .i64 0), (.int .i64 0)], none, false, []⟩,
        ⟨none, .store 2 (.t 6) (.t 19), none, false, []⟩] none [4, 6, 14, 15, 16])
      (.join [4, 6, 14, 15, 16] [] 3 (.seq (.ops [⟨(some 20), .mov (.t 4), none, false, []⟩,
          ⟨(some 21), .len false (.t 20), none, false, []⟩,
          ⟨(some 7), .mov (.t 21), none, false, []⟩] none [4, 6, 7, 14, 15, 16])
        (.seq (.ops [⟨(some 22), .mov (.t 7), none, false, []⟩,
          ⟨(some 23), .bin .none .gtr (.t 22) (.c (.int .i64 0)), none, false, []⟩] none [4, 6, 7, 14, 15, 16, 23])
        (.cond (.t 23)
          (.seq (.ops [⟨(some 24), .mov (.t 4), none, false, []⟩,
            ⟨(some 25), .mov (.t 7), none, false, []⟩,
            ⟨(some 26), .bin .none .sub (.t 25) (.c (.int .i64 1)), none, false, []⟩,
            ⟨(some 27), .iaddr 2 none (.t 24) (.t 26), none, false, []⟩,
            ⟨(some 28), .load 2 true (.t 27), none, false, []⟩,
            ⟨(some 8), .alloc 0 [(.int .i64 0), (.int .i64 0)], none, false, []⟩,
            ⟨none, .store 2 (.t 8) (.t 28), none, false, []⟩] none [4, 6, 7, 8, 14, 15, 16])
          (.seq (.ops [⟨(some 29), .load 2 true (.t 8), none, false, []⟩,
            ⟨(some 31), .load 2 true (.t 8), none, false, []⟩,
            ⟨(some 30), .call f_cursors_lo [(.t 29)], none, false, []⟩,
            ⟨(some 32), .call f_cursors_hi [(.t 31)], none, false, []⟩,
            ⟨(some 33), .bin .none .eql (.t 30) (.t 32), none, false, []⟩,
            ⟨(some 34), .mov (.t 33), none, true, []⟩,
            ⟨(some 35), .load 2 true (.t 6), (some (34, false)), false, []⟩,
            ⟨(some 37), .load 2 true (.t 6), (some (34, false)), false, []⟩,
            ⟨(some 36), .call f_cursors_lo [(.t 35)], (some (34, false)), false, []⟩,
            ⟨(some 38), .call f_cursors_hi [(.t 37)], (some (34, false)), false, []⟩,
            ⟨(some 39), .bin .none .eql (.t 36) (.t 38), (some (34, false)), false, []⟩,
            ⟨(some 40), .pick (.t 34) (.c (.bool true)) (.t 39), none, false, []⟩,
            ⟨(some 9), .mov (.t 40), none, false, []⟩] (some (9, 0, [0, 2, 1, 3, 4, 5, 6, 8, 7, 9, 10, 11, 12])) [4, 6, 7, 8, 9, 14, 15, 16])
          (.seq (.ops [⟨(some 41), .load 2 true (.t 6), none, false, []⟩,
            ⟨(some 43), .load 2 true (.t 8), none, false, []⟩,
            ⟨(some 42), .call f_cursors_lo [(.t 41)], none, false, []⟩,
            ⟨(some 44), .call f_cursors_hi [(.t 43)], none, false, []⟩,
            ⟨(some 45), .bin .none .lss (.t 42) (.t 44), none, false, []⟩,
            ⟨(some 46), .mov (.t 45), none, true, []⟩,
            ⟨(some 47), .load 2 true (.t 6), (some (46, false)), false, []⟩,
            ⟨(some 49), .load 2 true (.t 8), (some (46, false)), false, []⟩,
            ⟨(some 48), .call f_cursors_lo [(.t 47)], (some (46, false)), false, []⟩,
            ⟨(some 50), .call f_cursors_hi [(.t 49)], (some (46, false)), false, []⟩,
            ⟨(some 51), .bin .none .eql (.t 48) (.t 50), (some (46, false)), false, []⟩,
            ⟨(some 52), .mov (.t 51), (some (46, false)), true, []⟩,
            ⟨(some 53), .mov (.t 9), (some (52, true)), false, []⟩,
            ⟨(some 54), .pick (.t 52) (.t 53) (.c (.bool false)), (some (46, false)), false, []⟩,
            ⟨(some 55), .pick (.t 46) (.c (.bool true)) (.t 54), none, false, []⟩] (some (9, 0, [0, 2, 1, 3, 4, 5, 6, 8, 7, 9, 10, 11, 12, 13, 14])) [4, 6, 7, 8, 14, 15, 16, 55])
          (.cond (.t 55)
            (.seq (.ops [⟨(some 56), .mov (.t 4), none, false, []⟩,
              ⟨(some 57), .mov (.t 7), none, false, []⟩,
              ⟨(some 58), .bin .none .sub (.t 57) (.c (.int .i64 1)), none, false, []⟩,
              ⟨(some 59), .load 2 true (.t 8), none, false, []⟩,
              ⟨(some 60), .load 2 true (.t 6), none, false, []⟩,
              ⟨(some 61), .call f_cursors_both [(.t 59), (.t 60)], none, false, []⟩,
              ⟨(some 62), .iaddr 2 none (.t 56) (.t 58), none, false, []⟩,
              ⟨none, .store 2 (.t 62) (.t 61), none, false, []⟩] none [4, 14, 15, 16])
            (.exit 1))
            .skip))))
          .skip)))
      (.ops [⟨(some 63), .mov (.t 4), none, false, []⟩,
        ⟨(some 64), .load 2 true (.t 6), none, false, []⟩,
        ⟨(some 65), .bslice true 1 2 [(.int .i64 0), (.int .i64 0)] [(0, 2, (.t 64))], none, false, []⟩,
        ⟨(some 66), .append 2 16 (.t 63) (.t 65), none, false, []⟩,
        ⟨(some 4), .mov (.t 66), none, false, []⟩] none [4, 14, 15, 16]))))
    (.ops [⟨(some 67), .bin .none .add (.t 16) (.c (.int .i64 1)), none, false, []⟩,
      ⟨(some 16), .mov (.t 67), none, false, []⟩] none [4, 14, 15, 16])))))))
  (.seq (.ops [⟨(some 68), .mov (.t 4), none, false, []⟩,
    ⟨(some 2), .mov (.t 68), none, false, []⟩] none [2])
  .ret))))))
def cursors_norm_r : List RRes := [.tmp 2]
def cursors_norm_hi : Hi := ⟨[(4, (.st (.cons (.int .i64) (.cons (.int .i64) .nil)))), (65, (.st (.cons (.int .i64) (.cons (.int .i64) .nil)))), (66, (.st (.cons (.int .i64) (.cons (.int .i64) .nil)))), (6, (.st (.cons (.int .i64) (.cons (.int .i64) .nil)))), (8, (.st (.cons (.int .i64) (.cons (.int .i64) .nil))))], [(0, "l"), (1, "l"), (3, "sorted"), (4, "out"), (6, "c"), (7, "n"), (8, "a"), (9, "bare")]⟩
def cursors_norm_an : An := (.seq .d (.seq .d (.seq .d (.seq .d (.seq (.seq .d (.loop [4] [] [] .d)) .d)))))
def cursors_norm_fi : Fi := ⟨69, cursors_norm_c, cursors_norm_r, cursors_norm_an, cursors_norm_hi, none⟩
theorem cursors_norm_ok : FiOk Try.prog f_cursors_norm cursors_norm_fi :=
  ⟨fun _ => by kernel_rfl, fun _ h hlen => fun_sound (by kernel_rfl) (fn := Try.f44) (draw_sound _ _) Try.func44 rfl (by kernel_rfl : comp Try.prog 69 _ cursors_norm_c = some cursors_norm_c) (by kernel_rfl : cRes Try.prog Try.f44.results.toList = some cursors_norm_r) hlen h, fun _ h => nomatch h⟩

/-- fustian/cursors.Type: slots [0 text, 1 l, 2 put, 3 text, 4 l, 5 put, 9 e, 10 out, 11 made, 12 at, 13 _, 14 c] -/
def cursors_Type_c : SCode :=
  (.seq (.ops [⟨(some 6), .mov (.c (.str [])), none, false, []⟩,
    ⟨(some 7), .mov (.c .nils), none, false, []⟩,
    ⟨(some 8), .mov (.c (.int .i64 0)), none, false, []⟩] none [0, 1, 2])
  (.seq (.seq (.ops [⟨(some 15), .mov (.t 0), none, false, []⟩,
    ⟨(some 16), .len true (.t 15), none, false, []⟩,
    ⟨(some 17), .mov (.t 1), none, false, []⟩,
    ⟨(some 18), .call f_cursors_fault [(.t 16), (.t 17)], none, false, []⟩,
    ⟨(some 9), .mov (.t 18), none, false, []⟩] none [0, 1, 2, 9])
  (.seq (.ops [⟨(some 19), .mov (.t 9), none, false, []⟩,
    ⟨(some 20), .bin .none .neq (.t 19) (.c (.int .i64 0)), none, false, []⟩] none [0, 1, 2, 9, 20])
  (.cond (.t 20)
    (.seq (.ops [⟨(some 21), .mov (.t 9), none, false, []⟩,
      ⟨(some 6), .mov (.c (.str [])), none, false, []⟩,
      ⟨(some 7), .mov (.c .nils), none, false, []⟩,
      ⟨(some 8), .mov (.t 21), none, false, []⟩] none [6, 7, 8])
    .ret)
    .skip)))
  (.seq (.ops [⟨(some 10), .newnil 2, none, false, []⟩] none [0, 1, 2, 10])
  (.seq (.ops [⟨(some 11), .mov (.c (.str [])), none, false, []⟩] none [0, 1, 2, 10, 11])
  (.seq (.ops [⟨(some 12), .mov (.c (.int .i64 0)), none, false, []⟩] none [0, 1, 2, 10, 11, 12])
  (.seq (.seq (.ops [⟨(some 22), .mov (.t 1), none, false, []⟩,
    ⟨(some 23), .call f_cursors_norm [(.t 22)], none, false, []⟩,
    ⟨(some 24), .len false (.t 23), none, false, []⟩,
    ⟨(some 25), .mov (.c (.int .i64 0)), none, false, []⟩] none [0, 2, 10, 11, 12, 23, 24, 25])
  (.block 0 (.loop [0, 2, 23, 24] [10, 11, 12, 25] 1
    (.seq (.ops [⟨(some 26), .bin .none .lss (.t 25) (.t 24), none, false, []⟩] none [0, 2, 10, 11, 12, 23, 24, 25, 26])
    (.seq (.cond (.t 26)
      .skip
      (.exit 0))
    (.seq (.block 1 (.seq (.ops [⟨(some 27), .iaddr 2 none (.t 23) (.t 25), none, false, []⟩,
      ⟨(some 28), .load 2 true (.t 27), none, false, []⟩,
      ⟨(some 14), .alloc 0 [(.int .i64 0), (.int .i64 0)], none, false, []⟩,
      ⟨none, .store 2 (.t 14) (.t 28), none, false, []⟩] none [0, 2, 10, 11, 12, 14, 23, 24, 25])
    (.seq (.ops [⟨(some 29), .mov (.t 11), none, false, []⟩,
      ⟨(some 30), .mov (.t 0), none, false, []⟩,
      ⟨(some 31), .mov (.t 12), none, false, []⟩,
      ⟨(some 32), .load 2 true (.t 14), none, false, []⟩,
      ⟨(some 33), .call f_cursors_lo [(.t 32)], none, false, []⟩,
      ⟨(some 34), .slice 0 (.t 30) (some (.t 31)) (some (.t 33)), none, false, []⟩,
      ⟨(some 35), .mov (.t 2), none, false, []⟩,
      ⟨(some 36), .bin .none .add (.t 34) (.t 35), none, false, []⟩,
      ⟨(some 37), .bin .none .add (.t 29) (.t 36), none, false, []⟩,
      ⟨(some 11), .mov (.t 37), none, false, []⟩] none [0, 2, 10, 11, 14, 23, 24, 25])
    (.seq (.ops [⟨(some 38), .load 2 true (.t 14), none, false, []⟩,
      ⟨(some 39), .call f_cursors_hi [(.t 38)], none, false, []⟩,
      ⟨(some 12), .mov (.t 39), none, false, []⟩] none [0, 2, 10, 11, 12, 23, 24, 25])
    (.seq (.seq (.ops [⟨(some 40), .mov (.t 11), none, false, []⟩,
      ⟨(some 41), .len true (.t 40), none, false, []⟩,
      ⟨(some 42), .bin .none .gtr (.t 41) (.c (.int .i64 600)), none, false, []⟩] none [0, 2, 10, 11, 12, 23, 24, 25, 42])
    (.cond (.t 42)
      (.seq (.ops [⟨(some 6), .mov (.c (.str [])), none, false, []⟩,
        ⟨(some 7), .mov (.c .nils), none, false, []⟩,
        ⟨(some 8), .mov (.c (.int .i64 1)), none, false, []⟩] none [6, 7, 8])
      .ret)
      .skip))
    (.ops [⟨(some 43), .mov (.t 10), none, false, []⟩,
      ⟨(some 44), .mov (.t 11), none, false, []⟩,
      ⟨(some 45), .len true (.t 44), none, false, []⟩,
      ⟨(some 46), .mov (.t 11), none, false, []⟩,
      ⟨(some 47), .len true (.t 46), none, false, []⟩,
      ⟨(some 48), .build [(.int .i64 0), (.int .i64 0)] [(0, 1, (.t 45)), (1, 1, (.t 47))], none, false, []⟩,
      ⟨(some 49), .bslice true 1 2 [(.int .i64 0), (.int .i64 0)] [(0, 2, (.t 48))], none, false, []⟩,
      ⟨(some 50), .append 2 16 (.t 43) (.t 49), none, false, []⟩,
      ⟨(some 10), .mov (.t 50), none, false, []⟩] none [0, 2, 10, 11, 12, 23, 24, 25]))))))
    (.ops [⟨(some 51), .bin .none .add (.t 25) (.c (.int .i64 1)), none, false, []⟩,
      ⟨(some 25), .mov (.t 51), none, false, []⟩] none [0, 2, 10, 11, 12, 23, 24, 25])))))))
  (.seq (.seq (.ops [⟨(some 52), .mov (.t 11), none, false, []⟩,
    ⟨(some 53), .mov (.t 0), none, false, []⟩,
    ⟨(some 54), .mov (.t 12), none, false, []⟩,
    ⟨(some 55), .slice 0 (.t 53) (some (.t 54)) none, none, false, []⟩,
    ⟨(some 56), .bin .none .add (.t 52) (.t 55), none, false, []⟩,
    ⟨(some 11), .mov (.t 56), none, false, []⟩] none [10, 11])
  (.seq (.ops [⟨(some 57), .mov (.t 11), none, false, []⟩,
    ⟨(some 58), .len true (.t 57), none, false, []⟩,
    ⟨(some 59), .bin .none .gtr (.t 58) (.c (.int .i64 600)), none, false, []⟩] none [10, 11, 59])
  (.cond (.t 59)
    (.seq (.ops [⟨(some 6), .mov (.c (.str [])), none, false, []⟩,
      ⟨(some 7), .mov (.c .nils), none, false, []⟩,
      ⟨(some 8), .mov (.c (.int .i64 1)), none, false, []⟩] none [6, 7, 8])
    .ret)
    .skip)))
  (.seq (.ops [⟨(some 60), .mov (.t 11), none, false, []⟩,
    ⟨(some 61), .mov (.t 10), none, false, []⟩,
    ⟨(some 6), .mov (.t 60), none, false, []⟩,
    ⟨(some 7), .mov (.t 61), none, false, []⟩,
    ⟨(some 8), .mov (.c (.int .i64 0)), none, false, []⟩] none [6, 7, 8])
  .ret))))))))
def cursors_Type_r : List RRes := [.tmp 6, .tmp 7, .tmp 8]
def cursors_Type_hi : Hi := ⟨[(10, (.st (.cons (.int .i64) (.cons (.int .i64) .nil)))), (49, (.st (.cons (.int .i64) (.cons (.int .i64) .nil)))), (50, (.st (.cons (.int .i64) (.cons (.int .i64) .nil)))), (14, (.st (.cons (.int .i64) (.cons (.int .i64) .nil))))], [(0, "text"), (1, "l"), (2, "put"), (3, "text"), (4, "l"), (5, "put"), (9, "e"), (10, "out"), (11, "made"), (12, "at"), (14, "c")]⟩
def cursors_Type_an : An := (.seq .d (.seq .d (.seq .d (.seq .d (.seq .d (.seq (.seq .d (.loop [10] [] [] .d)) .d))))))
def cursors_Type_fi : Fi := ⟨62, cursors_Type_c, cursors_Type_r, cursors_Type_an, cursors_Type_hi, none⟩
theorem cursors_Type_ok : FiOk Try.prog f_cursors_Type cursors_Type_fi :=
  ⟨fun _ => by kernel_rfl, fun _ h hlen => fun_sound (by kernel_rfl) (fn := Try.f18) (draw_sound _ _) Try.func18 rfl (by kernel_rfl : comp Try.prog 62 _ cursors_Type_c = some cursors_Type_c) (by kernel_rfl : cRes Try.prog Try.f18.results.toList = some cursors_Type_r) hlen h, fun _ h => nomatch h⟩

/-- fustian/fustiantop.TopTyped: slots [0 l, 1 m, 2 o, 3 l, 4 m, 5 o, 7 s, 8 f, 9 p, 10 x, 11 e, 12 want, 13 n, 14 g, 15 cs, 16 end, 17 i, 18 t, 19 after, 20 h, 21 one, 22 _, 23 j] -/
def top_TopTyped_c : SCode :=
  (.seq (.ops [⟨(some 6), .mov (.c (.bool false)), none, false, []⟩] none [0, 1, 2])
  (.seq (.ops [⟨(some 24), .mov (.t 0), none, false, []⟩,
    ⟨(some 25), .call f_keep_Few [(.t 24), (.c (.int .i64 60))], none, false, []⟩,
    ⟨(some 7), .mov (.t 25), none, false, []⟩] none [1, 2, 7])
  (.seq (.ops [⟨(some 26), .mov (.t 1), none, false, []⟩,
    ⟨(some 27), .call f_keep_Few [(.t 26), (.c (.int .i64 2))], none, false, []⟩,
    ⟨(some 28), .bin .none .add (.t 27) (.c (.str [97])), none, false, []⟩,
    ⟨(some 8), .mov (.t 28), none, false, []⟩] none [2, 7, 8])
  (.seq (.ops [⟨(some 29), .mov (.t 2), none, false, []⟩,
    ⟨(some 30), .call f_keep_Few [(.t 29), (.c (.int .i64 3))], none, false, []⟩,
    ⟨(some 9), .mov (.t 30), none, false, []⟩] none [7, 8, 9])
  (.seq (.ops [⟨(some 32), .mov (.t 7), none, false, []⟩,
    ⟨(some 33), .mov (.t 8), none, false, []⟩,
    ⟨(some 34), .call f_find_All [(.t 32), (.t 33)], none, false, []⟩,
    ⟨(some 31), .mov (.t 34), none, false, []⟩,
    ⟨(some 35), .extract (.t 31) 0, none, false, []⟩,
    ⟨(some 36), .extract (.t 31) 1, none, false, []⟩,
    ⟨(some 10), .mov (.t 35), none, false, []⟩,
    ⟨(some 11), .mov (.t 36), none, false, []⟩] none [7, 8, 9, 10, 11])
  (.seq (.ops [⟨(some 38), .mov (.t 7), none, false, []⟩,
    ⟨(some 39), .mov (.t 8), none, false, []⟩,
    ⟨(some 40), .mov (.t 9), none, false, []⟩,
    ⟨(some 41), .call f_find_Replace [(.t 38), (.t 39), (.t 40)], none, false, []⟩,
    ⟨(some 37), .mov (.t 41), none, false, []⟩,
    ⟨(some 42), .extract (.t 37) 0, none, false, []⟩,
    ⟨(some 43), .extract (.t 37) 1, none, false, []⟩,
    ⟨(some 44), .extract (.t 37) 2, none, false, []⟩,
    ⟨(some 12), .mov (.t 42), none, false, []⟩,
    ⟨(some 13), .mov (.t 43), none, false, []⟩,
    ⟨(some 14), .mov (.t 44), none, false, []⟩] none [7, 8, 9, 10, 11, 12, 13, 14])
  (.seq (.seq (.ops [⟨(some 45), .mov (.t 11), none, false, []⟩,
    ⟨(some 46), .bin .none .neq (.t 45) (.c (.int .i64 0)), none, false, []⟩,
    ⟨(some 47), .mov (.t 46), none, true, []⟩,
    ⟨(some 48), .mov (.t 14), (some (47, false)), false, []⟩,
    ⟨(some 49), .bin .none .neq (.t 48) (.c (.int .i64 0)), (some (47, false)), false, []⟩,
    ⟨(some 50), .pick (.t 47) (.c (.bool true)) (.t 49), none, false, []⟩] none [7, 8, 9, 10, 12, 13, 50])
  (.cond (.t 50)
    (.seq (.ops [⟨(some 6), .mov (.c (.bool false)), none, false, []⟩] none [6])
    .ret)
    .skip))
  (.seq (.ops [⟨(some 15), .newnil 2, none, false, []⟩] none [7, 8, 9, 10, 12, 13, 15])
  (.seq (.ops [⟨(some 16), .mov (.c (.int .i64 0)), none, false, []⟩] none [7, 8, 9, 10, 12, 13, 15, 16])
  (.seq (.seq (.ops [⟨(some 17), .mov (.c (.int .i64 0)), none, false, []⟩] none [7, 8, 9, 10, 12, 13, 15, 16, 17])
  (.block 0 (.loop [7, 8, 9, 10, 12, 13] [15, 16, 17] 1
    (.seq (.seq (.ops [⟨(some 51), .mov (.t 17), none, false, []⟩,
      ⟨(some 52), .mov (.t 10), none, false, []⟩,
      ⟨(some 53), .len false (.t 52), none, false, []⟩,
      ⟨(some 54), .bin .none .lss (.t 51) (.t 53), none, false, []⟩] none [7, 8, 9, 10, 12, 13, 15, 16, 17, 54])
    (.cond (.t 54)
      .skip
      (.exit 0)))
    (.join [7, 8, 9, 10, 12, 13, 17] [15, 16] 1 (.block 1 (.seq (.ops [⟨(some 57), .mov (.t 10), none, false, []⟩,
        ⟨(some 58), .mov (.t 17), none, false, []⟩,
        ⟨(some 59), .iaddr 1 none (.t 57) (.t 58), none, false, []⟩,
        ⟨(some 60), .load 1 false (.t 59), none, false, []⟩,
        ⟨(some 61), .mov (.t 16), none, false, []⟩,
        ⟨(some 62), .bin .none .geq (.t 60) (.t 61), none, false, []⟩] none [7, 8, 9, 10, 12, 13, 15, 16, 17, 62])
      (.cond (.t 62)
        (.seq (.ops [⟨(some 63), .mov (.t 15), none, false, []⟩,
          ⟨(some 64), .mov (.t 10), none, false, []⟩,
          ⟨(some 65), .mov (.t 17), none, false, []⟩,
          ⟨(some 66), .iaddr 1 none (.t 64) (.t 65), none, false, []⟩,
          ⟨(some 67), .load 1 false (.t 66), none, false, []⟩,
          ⟨(some 68), .mov (.t 10), none, false, []⟩,
          ⟨(some 69), .mov (.t 17), none, false, []⟩,
          ⟨(some 70), .iaddr 1 none (.t 68) (.t 69), none, false, []⟩,
          ⟨(some 71), .load 1 false (.t 70), none, false, []⟩,
          ⟨(some 72), .mov (.t 8), none, false, []⟩,
          ⟨(some 73), .len true (.t 72), none, false, []⟩,
          ⟨(some 74), .bin .none .add (.t 71) (.t 73), none, false, []⟩,
          ⟨(some 75), .build [(.int .i64 0), (.int .i64 0)] [(0, 1, (.t 67)), (1, 1, (.t 74))], none, false, []⟩,
          ⟨(some 76), .bslice true 1 2 [(.int .i64 0), (.int .i64 0)] [(0, 2, (.t 75))], none, false, []⟩,
          ⟨(some 77), .append 2 16 (.t 63) (.t 76), none, false, []⟩,
          ⟨(some 15), .mov (.t 77), none, false, []⟩] (some (0, 0, [0, 1, 2, 3, 4, 5, 6, 7, 8, 9, 10, 11, 12, 13, 14, 15])) [7, 8, 9, 10, 12, 13, 15, 17])
        (.ops [⟨(some 78), .mov (.t 10), none, false, []⟩,
          ⟨(some 79), .mov (.t 17), none, false, []⟩,
          ⟨(some 80), .iaddr 1 none (.t 78) (.t 79), none, false, []⟩,
          ⟨(some 81), .load 1 false (.t 80), none, false, []⟩,
          ⟨(some 82), .mov (.t 8), none, false, []⟩,
          ⟨(some 83), .len true (.t 82), none, false, []⟩,
          ⟨(some 84), .bin .none .add (.t 81) (.t 83), none, false, []⟩,
          ⟨(some 16), .mov (.t 84), none, false, []⟩] none [7, 8, 9, 10, 12, 13, 15, 16, 17]))
        .skip)))
    (.ops [⟨(some 55), .mov (.t 17), none, false, []⟩,
      ⟨(some 56), .bin .none .add (.t 55) (.c (.int .i64 1)), none, false, []⟩,
      ⟨(some 17), .mov (.t 56), none, false, []⟩] none [7, 8, 9, 10, 12, 13, 15, 16, 17]))))))
  (.seq (.seq (.ops [⟨(some 85), .mov (.t 15), none, false, []⟩,
    ⟨(some 86), .len false (.t 85), none, false, []⟩,
    ⟨(some 87), .mov (.t 13), none, false, []⟩,
    ⟨(some 88), .bin .none .neq (.t 86) (.t 87), none, false, []⟩] none [7, 9, 12, 13, 15, 88])
  (.cond (.t 88)
    (.seq (.ops [⟨(some 6), .mov (.c (.bool false)), none, false, []⟩] none [6])
    .ret)
    .skip))
  (.seq (.seq (.ops [⟨(some 89), .mov (.t 13), none, false, []⟩,
    ⟨(some 90), .bin .none .gtr (.t 89) (.c (.int .i64 20)), none, false, []⟩] none [7, 9, 12, 13, 15, 90])
  (.cond (.t 90)
    (.seq (.ops [⟨(some 6), .mov (.c (.bool true)), none, false, []⟩] none [6])
    .ret)
    .skip))
  (.seq (.ops [⟨(some 92), .mov (.t 7), none, false, []⟩,
    ⟨(some 93), .mov (.t 15), none, false, []⟩,
    ⟨(some 94), .mov (.t 9), none, false, []⟩,
    ⟨(some 95), .call f_cursors_Type [(.t 92), (.t 93), (.t 94)], none, false, []⟩,
    ⟨(some 91), .mov (.t 95), none, false, []⟩,
    ⟨(some 96), .extract (.t 91) 0, none, false, []⟩,
    ⟨(some 97), .extract (.t 91) 1, none, false, []⟩,
    ⟨(some 98), .extract (.t 91) 2, none, false, []⟩,
    ⟨(some 18), .mov (.t 96), none, false, []⟩,
    ⟨(some 19), .mov (.t 97), none, false, []⟩,
    ⟨(some 20), .mov (.t 98), none, false, []⟩] none [12, 13, 18, 19, 20])
  (.seq (.ops [⟨(some 100), .build [(.int .i64 0), (.int .i64 0)] [], none, false, []⟩,
    ⟨(some 101), .bslice true 1 2 [(.int .i64 0), (.int .i64 0)] [(0, 2, (.t 100))], none, false, []⟩,
    ⟨(some 102), .call f_cursors_Type [(.c (.str [98])), (.t 101), (.c (.str [97]))], none, false, []⟩,
    ⟨(some 99), .mov (.t 102), none, false, []⟩,
    ⟨(some 103), .extract (.t 99) 0, none, false, []⟩,
    ⟨(some 104), .extract (.t 99) 1, none, false, []⟩,
    ⟨(some 105), .extract (.t 99) 2, none, false, []⟩,
    ⟨(some 21), .mov (.t 103), none, false, []⟩,
    ⟨(some 22), .mov (.t 104), none, false, []⟩,
    ⟨(some 23), .mov (.t 105), none, false, []⟩] none [12, 13, 18, 19, 20, 21, 23])
  (.seq (.ops [⟨(some 106), .mov (.t 20), none, false, []⟩,
    ⟨(some 107), .bin .none .eql (.t 106) (.c (.int .i64 0)), none, false, []⟩,
    ⟨(some 108), .mov (.t 107), none, true, []⟩,
    ⟨(some 109), .mov (.t 23), (some (108, true)), false, []⟩,
    ⟨(some 110), .bin .none .eql (.t 109) (.c (.int .i64 0)), (some (108, true)), false, []⟩,
    ⟨(some 111), .pick (.t 108) (.t 110) (.c (.bool false)), none, false, []⟩,
    ⟨(some 112), .mov (.t 111), none, true, []⟩,
    ⟨(some 113), .mov (.t 21), (some (112, true)), false, []⟩,
    ⟨(some 114), .bin .none .eql (.t 113) (.c (.str [97, 98])), (some (112, true)), false, []⟩,
    ⟨(some 115), .pick (.t 112) (.t 114) (.c (.bool false)), none, false, []⟩,
    ⟨(some 116), .mov (.t 115), none, true, []⟩,
    ⟨(some 117), .mov (.t 18), (some (116, true)), false, []⟩,
    ⟨(some 118), .mov (.t 12), (some (116, true)), false, []⟩,
    ⟨(some 119), .bin .none .eql (.t 117) (.t 118), (some (116, true)), false, []⟩,
    ⟨(some 120), .pick (.t 116) (.t 119) (.c (.bool false)), none, false, []⟩,
    ⟨(some 121), .mov (.t 120), none, true, []⟩,
    ⟨(some 122), .mov (.t 19), (some (121, true)), false, []⟩,
    ⟨(some 123), .len false (.t 122), (some (121, true)), false, []⟩,
    ⟨(some 124), .mov (.t 13), (some (121, true)), false, []⟩,
    ⟨(some 125), .bin .none .eql (.t 123) (.t 124), (some (121, true)), false, []⟩,
    ⟨(some 126), .pick (.t 121) (.t 125) (.c (.bool false)), none, false, []⟩,
    ⟨(some 6), .mov (.t 126), none, false, []⟩] none [6])
  .ret)))))))))))))))
def top_TopTyped_r : List RRes := [.tmp 6]
def top_TopTyped_hi : Hi := ⟨[(15, (.st (.cons (.int .i64) (.cons (.int .i64) .nil)))), (76, (.st (.cons (.int .i64) (.cons (.int .i64) .nil)))), (77, (.st (.cons (.int .i64) (.cons (.int .i64) .nil)))), (101, (.st (.cons (.int .i64) (.cons (.int .i64) .nil))))], [(0, "l"), (1, "m"), (2, "o"), (3, "l"), (4, "m"), (5, "o"), (7, "s"), (8, "f"), (9, "p"), (10, "x"), (11, "e"), (12, "want"), (13, "n"), (14, "g"), (15, "cs"), (16, "end"), (17, "i"), (18, "t"), (19, "after"), (20, "h"), (21, "one"), (23, "j")]⟩
def top_TopTyped_an : An := (.seq .d (.seq .d (.seq .d (.seq .d (.seq .d (.seq .d (.seq .d (.seq .d (.seq .d (.seq (.seq .d (.loop [15] [] [] .d)) .d))))))))))
def top_TopTyped_fi : Fi := ⟨127, top_TopTyped_c, top_TopTyped_r, top_TopTyped_an, top_TopTyped_hi, none⟩
theorem top_TopTyped_ok : FiOk Try.prog f_top_TopTyped top_TopTyped_fi :=
  ⟨fun _ => by kernel_rfl, fun _ h hlen => fun_sound (by kernel_rfl) (fn := Try.f6) (draw_sound _ _) Try.func6 rfl (by kernel_rfl : comp Try.prog 127 _ top_TopTyped_c = some top_TopTyped_c) (by kernel_rfl : cRes Try.prog Try.f6.results.toList = some top_TopTyped_r) hlen h, fun _ h => nomatch h⟩

/-- slices.ContainsFunc[[]fustian/api.Cursor,fustian/api.Cursor]: slots [0 s, 1 f, 2 s, 3 f] -/
def slices_ContainsFunc___api_Cursor_api_Cursor__c : SCode :=
  (.seq (.ops [⟨(some 4), .mov (.c (.bool false)), none, false, []⟩] none [0, 1])
  (.seq (.ops [⟨(some 5), .mov (.t 0), none, false, []⟩,
    ⟨(some 6), .mov (.t 1), none, false, []⟩,
    ⟨(some 7), .call f_slices_IndexFunc___api_Cursor_api_Cursor_ [(.t 5), (.t 6)], none, false, []⟩,
    ⟨(some 8), .bin .none .geq (.t 7) (.c (.int .i64 0)), none, false, []⟩,
    ⟨(some 4), .mov (.t 8), none, false, []⟩] none [4])
  .ret))
def slices_ContainsFunc___api_Cursor_api_Cursor__r : List RRes := [.tmp 4]
def slices_ContainsFunc___api_Cursor_api_Cursor__hi : Hi := ⟨[], [(0, "s"), (1, "f"), (2, "s"), (3, "f")]⟩
def slices_ContainsFunc___api_Cursor_api_Cursor__an : An := .d
def slices_ContainsFunc___api_Cursor_api_Cursor__fi : Fi := ⟨9, slices_ContainsFunc___api_Cursor_api_Cursor__c, slices_ContainsFunc___api_Cursor_api_Cursor__r, slices_ContainsFunc___api_Cursor_api_Cursor__an, slices_ContainsFunc___api_Cursor_api_Cursor__hi, none⟩
theorem slices_ContainsFunc___api_Cursor_api_Cursor__ok : FiOk Try.prog f_slices_ContainsFunc___api_Cursor_api_Cursor_ slices_ContainsFunc___api_Cursor_api_Cursor__fi :=
  ⟨fun _ => by kernel_rfl, fun _ h hlen => fun_sound (by kernel_rfl) (fn := Try.f87) (draw_sound _ _) Try.func87 rfl (by kernel_rfl : comp Try.prog 9 _ slices_ContainsFunc___api_Cursor_api_Cursor__c = some slices_ContainsFunc___api_Cursor_api_Cursor__c) (by kernel_rfl : cRes Try.prog Try.f87.results.toList = some slices_ContainsFunc___api_Cursor_api_Cursor__r) hlen h, fun _ h => nomatch h⟩

/-- slices.IndexFunc[[]fustian/api.Cursor,fustian/api.Cursor]: slots [0 s, 1 f, 2 s, 3 f, 5 i] -/
def slices_IndexFunc___api_Cursor_api_Cursor__c : SCode :=
  (.seq (.ops [⟨(some 4), .mov (.c (.int .i64 0)), none, false, []⟩] none [0, 1])
  (.seq (.seq (.ops [⟨(some 6), .mov (.t 0), none, false, []⟩,
    ⟨(some 7), .len false (.t 6), none, false, []⟩,
    ⟨(some 8), .mov (.c (.int .i64 0)), none, false, []⟩] none [0, 1, 7, 8])
  (.block 0 (.loop [0, 1, 7] [8] 0
    (.seq (.ops [⟨(some 9), .bin .none .lss (.t 8) (.t 7), none, false, []⟩] none [0, 1, 7, 8, 9])
    (.seq (.cond (.t 9)
      .skip
      (.exit 0))
    (.seq (.block 1 (.seq (.ops [⟨(some 10), .mov (.t 8), none, false, []⟩,
      ⟨(some 5), .mov (.t 10), none, false, []⟩] none [0, 1, 5, 7, 8])
    (.seq (.ops [⟨(some 11), .mov (.t 1), none, false, []⟩,
      ⟨(some 12), .mov (.t 0), none, false, []⟩,
      ⟨(some 13), .mov (.t 5), none, false, []⟩,
      ⟨(some 14), .iaddr 2 none (.t 12) (.t 13), none, false, []⟩,
      ⟨(some 15), .load 2 true (.t 14), none, false, []⟩,
      ⟨(some 16), .callv (.t 11) [(.t 15)], none, false, []⟩] none [0, 1, 5, 7, 8, 16])
    (.cond (.t 16)
      (.seq (.ops [⟨(some 17), .mov (.t 5), none, false, []⟩,
        ⟨(some 4), .mov (.t 17), none, false, []⟩] none [4])
      .ret)
      .skip))))
    (.ops [⟨(some 18), .bin .none .add (.t 8) (.c (.int .i64 1)), none, false, []⟩,
      ⟨(some 8), .mov (.t 18), none, false, []⟩] none [0, 1, 7, 8])))))))
  (.seq (.ops [⟨(some 4), .mov (.c (.int .i64 (-1))), none, false, []⟩] none [4])
  .ret)))
def slices_IndexFunc___api_Cursor_api_Cursor__r : List RRes := [.tmp 4]
def slices_IndexFunc___api_Cursor_api_Cursor__hi : Hi := ⟨[], [(0, "s"), (1, "f"), (2, "s"), (3, "f"), (5, "i")]⟩
def slices_IndexFunc___api_Cursor_api_Cursor__an : An := (.seq .d (.seq (.seq .d (.loop [1] [] [] .d)) .d))
def slices_IndexFunc___api_Cursor_api_Cursor__fi : Fi := ⟨19, slices_IndexFunc___api_Cursor_api_Cursor__c, slices_IndexFunc___api_Cursor_api_Cursor__r, slices_IndexFunc___api_Cursor_api_Cursor__an, slices_IndexFunc___api_Cursor_api_Cursor__hi, none⟩
theorem slices_IndexFunc___api_Cursor_api_Cursor__ok : FiOk Try.prog f_slices_IndexFunc___api_Cursor_api_Cursor_ slices_IndexFunc___api_Cursor_api_Cursor__fi :=
  ⟨fun _ => by kernel_rfl, fun _ h hlen => fun_sound (by kernel_rfl) (fn := Try.f115) (draw_sound _ _) Try.func115 rfl (by kernel_rfl : comp Try.prog 19 _ slices_IndexFunc___api_Cursor_api_Cursor__c = some slices_IndexFunc___api_Cursor_api_Cursor__c) (by kernel_rfl : cRes Try.prog Try.f115.results.toList = some slices_IndexFunc___api_Cursor_api_Cursor__r) hlen h, fun _ h => nomatch h⟩

/-- fustian/cursors.fault$1: slots [0 c, 2 c] -/
def cursors_fault_1_c : SCode :=
  (.seq (.ops [⟨(some 2), .box 0 (.t 0), none, false, []⟩,
    ⟨(some 3), .mov (.c (.bool false)), none, false, []⟩] none [1, 2])
  (.seq (.ops [⟨(some 4), .load 2 true (.t 2), none, false, []⟩,
    ⟨(some 5), .call f_cursors_lo [(.t 4)], none, false, []⟩,
    ⟨(some 6), .bin .none .lss (.t 5) (.c (.int .i64 0)), none, false, []⟩,
    ⟨(some 7), .mov (.t 6), none, true, []⟩,
    ⟨(some 8), .load 2 true (.t 2), (some (7, false)), false, []⟩,
    ⟨(some 10), .load 1 false (.t 1), (some (7, false)), false, []⟩,
    ⟨(some 9), .call f_cursors_hi [(.t 8)], (some (7, false)), false, []⟩,
    ⟨(some 11), .bin .none .gtr (.t 9) (.t 10), (some (7, false)), false, []⟩,
    ⟨(some 12), .pick (.t 7) (.c (.bool true)) (.t 11), none, false, []⟩,
    ⟨(some 3), .mov (.t 12), none, false, []⟩] (some (7, 0, [0, 1, 2, 3, 4, 6, 5, 7, 8, 9])) [3])
  .ret))
def cursors_fault_1_r : List RRes := [.tmp 3]
def cursors_fault_1_hi : Hi := ⟨[(2, (.st (.cons (.int .i64) (.cons (.int .i64) .nil))))], [(0, "c"), (2, "c")]⟩
def cursors_fault_1_an : An := .d
def cursors_fault_1_fi : Fi := ⟨13, cursors_fault_1_c, cursors_fault_1_r, cursors_fault_1_an, cursors_fault_1_hi, none⟩
theorem cursors_fault_1_ok : FiOk Try.prog f_cursors_fault_1 cursors_fault_1_fi :=
  ⟨fun _ => by kernel_rfl, fun _ h hlen => fun_sound (by kernel_rfl) (fn := Try.f88) (draw_sound _ _) Try.func88 rfl (by kernel_rfl : comp Try.prog 13 _ cursors_fault_1_c = some cursors_fault_1_c) (by kernel_rfl : cRes Try.prog Try.f88.results.toList = some cursors_fault_1_r) hlen h, fun _ h => nomatch h⟩

end Go.Proofs.Ytkemhbclkglmbaa
