/- The functions' simplified code, printed by a program of the claim's author; each is checked against the program's own code. Conditions: none. -/
import Derived.Test.YtkemhbclkglmbaaProg
import Derived.Test.YtkemhbclkglmbaaVyM
set_option linter.unusedVariables false
set_option maxRecDepth 100000
namespace Go.Proofs.Ytkemhbclkglmbaa
open Go.Vc
abbrev f_gosem_cut_init : Nat := 2
abbrev f_law_CursorsNorms : Nat := 3
abbrev f_law_CursorsTypes : Nat := 4
abbrev f_law_CursorsFollows : Nat := 5
abbrev f_top_TopTyped : Nat := 6
abbrev f_law_FuzzyGuesses : Nat := 7
abbrev f_law_SuffixAgains : Nat := 8
abbrev f_law_SuffixFinds : Nat := 9
abbrev f_law_SuffixSorts : Nat := 10
abbrev f_law_SuffixCommons : Nat := 11
abbrev f_law_SuffixUnlikes : Nat := 12
abbrev f_law_RopeDepths : Nat := 13
abbrev f_law_RopeMeasures : Nat := 14
abbrev f_cursors_Norm : Nat := 15
abbrev f_ref_CursorsNorm : Nat := 16
abbrev f_law_sameCursors : Nat := 17
abbrev f_cursors_Type : Nat := 18
abbrev f_ref_CursorsType : Nat := 19
abbrev f_cursors_Follow : Nat := 20
abbrev f_ref_CursorsFollow : Nat := 21
abbrev f_keep_Few : Nat := 22
abbrev f_find_All : Nat := 23
abbrev f_find_Replace : Nat := 24
abbrev f_fuzzy_Guess : Nat := 25
abbrev f_ref_FuzzyGuess : Nat := 26
abbrev f_law_sameInts : Nat := 27
abbrev f_suffix_Again : Nat := 28
abbrev f_ref_SuffixAgain : Nat := 29
abbrev f_suffix_Find : Nat := 30
abbrev f_ref_FindAll : Nat := 31
abbrev f_suffix_Sort : Nat := 32
abbrev f_ref_SuffixSort : Nat := 33
abbrev f_suffix_Common : Nat := 34
abbrev f_ref_SuffixCommon : Nat := 35
abbrev f_suffix_Unlike : Nat := 36
abbrev f_ref_SuffixUnlike : Nat := 37
abbrev f_rope_Depths : Nat := 38
abbrev f_ref_RopePlayed : Nat := 39
abbrev f_rope_Measure : Nat := 40
abbrev f_ref_PosOf : Nat := 41
abbrev f_ref_PolyOf : Nat := 42
abbrev f_cursors_fault : Nat := 43
abbrev f_cursors_norm : Nat := 44
abbrev f_ref_cursorsFault : Nat := 45
abbrev f_ref_cursorsNormed : Nat := 46
abbrev f_cursors_lo : Nat := 47
abbrev f_cursors_hi : Nat := 48
abbrev f_edit_Check : Nat := 49
abbrev f_slices_Clone___api_Cursor_api_Cursor_ : Nat := 50
abbrev f_edit_Moved : Nat := 51
abbrev f_ref_EditFault : Nat := 52
abbrev f_ref_editPlace : Nat := 53
abbrev f_keep_Picked : Nat := 54
abbrev f_find_fault : Nat := 55
abbrev f_find_In : Nat := 56
abbrev f___strings_Builder__WriteString : Nat := 57
abbrev f___strings_Builder__Len : Nat := 58
abbrev f___strings_Builder__String : Nat := 59
abbrev f_fuzzy_long : Nat := 60
abbrev f_fuzzy_far : Nat := 61
abbrev f_slices_SortFunc___int_int_ : Nat := 62
abbrev f_fuzzy_Guess_1 : Nat := 63
abbrev f_cmp_Or_int_ : Nat := 64
abbrev f_cmp_Compare_int_ : Nat := 65
abbrev f_cmp_Compare_string_ : Nat := 66
abbrev f_sort_SliceStable : Nat := 67
abbrev f_ref_FuzzyGuess_1 : Nat := 68
abbrev f_ref_farOf : Nat := 69
abbrev f_suffix_fault : Nat := 70
abbrev f_suffix_sorted : Nat := 71
abbrev f_suffix_common : Nat := 72
abbrev f_ref_beginAlike : Nat := 73
abbrev f_sort_Search : Nat := 74
abbrev f_suffix_Find_1 : Nat := 75
abbrev f_strings_HasPrefix : Nat := 76
abbrev f_slices_Sorted_int_ : Nat := 77
abbrev f_slices_Values___int_int_ : Nat := 78
abbrev f_ref_findFault : Nat := 79
abbrev f_ref_standsAt : Nat := 80
abbrev f_ref_ends : Nat := 81
abbrev f_rope_play : Nat := 82
abbrev f___rope_Rope__Deep : Nat := 83
abbrev f_ref_RopePlayed_1 : Nat := 84
abbrev f___rope_Rope__Pos : Nat := 85
abbrev f___rope_Rope__Hash : Nat := 86
abbrev f_slices_ContainsFunc___api_Cursor_api_Cursor_ : Nat := 87
abbrev f_cursors_fault_1 : Nat := 88
abbrev f_slices_SortStableFunc___api_Cursor_api_Cursor_ : Nat := 89
abbrev f_cursors_norm_1 : Nat := 90
abbrev f_cursors_both : Nat := 91
abbrev f_ref_cursorsNormed_1 : Nat := 92
abbrev f_find_border : Nat := 93
abbrev f___strings_Builder__copyCheck : Nat := 94
abbrev f_slices_ContainsFunc___string_string_ : Nat := 95
abbrev f_fuzzy_long_1 : Nat := 96
abbrev f_slices_pdqsortCmpFunc_int_ : Nat := 97
abbrev f_math_bits_Len : Nat := 98
abbrev f_cmp_isNaN_int_ : Nat := 99
abbrev f_cmp_isNaN_string_ : Nat := 100
abbrev f_sort_stable_func : Nat := 103
abbrev f_suffix_sorted_1 : Nat := 105
abbrev f_suffix_sorted_2 : Nat := 106
abbrev f_internal_stringslite_HasPrefix : Nat := 107
abbrev f_slices_Collect_int_ : Nat := 108
abbrev f_slices_Sort___int_int_ : Nat := 109
abbrev f_slices_Values___int_int__1 : Nat := 110
abbrev f_sort_Slice : Nat := 111
abbrev f_ref_ends_1 : Nat := 112
abbrev f___rope_maker__do : Nat := 113
abbrev f_poly_Of : Nat := 114
abbrev f_slices_IndexFunc___api_Cursor_api_Cursor_ : Nat := 115
abbrev f_slices_stableCmpFunc_api_Cursor_ : Nat := 116
abbrev f_slices_IndexFunc___string_string_ : Nat := 118
abbrev f_slices_insertionSortCmpFunc_int_ : Nat := 119
abbrev f_slices_heapSortCmpFunc_int_ : Nat := 120
abbrev f_slices_breakPatternsCmpFunc_int_ : Nat := 121
abbrev f_slices_choosePivotCmpFunc_int_ : Nat := 122
abbrev f_slices_reverseRangeCmpFunc_int_ : Nat := 123
abbrev f_slices_partialInsertionSortCmpFunc_int_ : Nat := 124
abbrev f_slices_partitionEqualCmpFunc_int_ : Nat := 125
abbrev f_slices_partitionCmpFunc_int_ : Nat := 126
abbrev f_math_bits_Len32 : Nat := 127
abbrev f_math_bits_Len64 : Nat := 128
abbrev f_sort_insertionSort_func : Nat := 138
abbrev f_sort_symMerge_func : Nat := 139
abbrev f_slices_AppendSeq___int_int_ : Nat := 140
abbrev f_slices_pdqsortOrdered_int_ : Nat := 141
abbrev f_sort_pdqsort_func : Nat := 142
abbrev f___rope_maker__fault : Nat := 143
abbrev f___rope_maker__length : Nat := 144
abbrev f___rope_maker__make : Nat := 145
abbrev f_slices_insertionSortCmpFunc_api_Cursor_ : Nat := 146
abbrev f_slices_symMergeCmpFunc_api_Cursor_ : Nat := 147
abbrev f_slices_siftDownCmpFunc_int_ : Nat := 148
abbrev f_slices_nextPowerOfTwo : Nat := 149
abbrev f___slices_xorshift__Next : Nat := 150
abbrev f_slices_medianAdjacentCmpFunc_int_ : Nat := 151
abbrev f_slices_medianCmpFunc_int_ : Nat := 152
abbrev f_sort_rotate_func : Nat := 153
abbrev f_slices_insertionSortOrdered_int_ : Nat := 154
abbrev f_slices_heapSortOrdered_int_ : Nat := 155
abbrev f_slices_breakPatternsOrdered_int_ : Nat := 156
abbrev f_slices_choosePivotOrdered_int_ : Nat := 157
abbrev f_slices_reverseRangeOrdered_int_ : Nat := 158
abbrev f_slices_partialInsertionSortOrdered_int_ : Nat := 159
abbrev f_cmp_Less_int_ : Nat := 160
abbrev f_slices_partitionEqualOrdered_int_ : Nat := 161
abbrev f_slices_partitionOrdered_int_ : Nat := 162
abbrev f_sort_heapSort_func : Nat := 163
abbrev f_sort_breakPatterns_func : Nat := 164
abbrev f_sort_choosePivot_func : Nat := 165
abbrev f_sort_reverseRange_func : Nat := 166
abbrev f_sort_partialInsertionSort_func : Nat := 167
abbrev f_sort_partitionEqual_func : Nat := 168
abbrev f_sort_partition_func : Nat := 169
abbrev f___rope_maker__there : Nat := 170
abbrev f___rope_Rope__Len : Nat := 171
abbrev f_rope_New : Nat := 172
abbrev f_rope_Join : Nat := 173
abbrev f_rope_Split : Nat := 174
abbrev f_slices_rotateCmpFunc_api_Cursor_ : Nat := 175
abbrev f_slices_order2CmpFunc_int_ : Nat := 176
abbrev f_sort_swapRange_func : Nat := 177
abbrev f_slices_siftDownOrdered_int_ : Nat := 178
abbrev f_slices_medianAdjacentOrdered_int_ : Nat := 179
abbrev f_slices_medianOrdered_int_ : Nat := 180
abbrev f_sort_siftDown_func : Nat := 181
abbrev f_sort_nextPowerOfTwo : Nat := 182
abbrev f___sort_xorshift__Next : Nat := 183
abbrev f_sort_medianAdjacent_func : Nat := 184
abbrev f_sort_median_func : Nat := 185
abbrev f_rope_leaf : Nat := 186
abbrev f_rope_node : Nat := 187
abbrev f_rope_balanced : Nat := 188
abbrev f_slices_swapRangeCmpFunc_api_Cursor_ : Nat := 189
abbrev f_slices_order2Ordered_int_ : Nat := 190
abbrev f_sort_order2_func : Nat := 191
abbrev f_pos_Of : Nat := 192
abbrev f_pos_Join : Nat := 193
abbrev f_poly_Join : Nat := 194
abbrev f_strings_Count : Nat := 195
abbrev f_strings_LastIndexByte : Nat := 196
abbrev f_pos_May : Nat := 197
abbrev f_poly_May : Nat := 198
abbrev f_unicode_utf8_RuneCountInString : Nat := 199
abbrev f_strings_Index : Nat := 201
abbrev f_internal_bytealg_LastIndexByteString : Nat := 202
abbrev f_internal_stringslite_Index : Nat := 203
abbrev f_internal_stringslite_IndexByte : Nat := 204
abbrev f_internal_bytealg_Cutover : Nat := 206
abbrev f_internal_bytealg_IndexRabinKarp_string_ : Nat := 207
abbrev f_internal_bytealg_hashStr_string_ : Nat := 209

/-- fustian/suffix.fault: slots [0 text, 1 text] -/
def suffix_fault_c : SCode :=
  (.seq (.ops [⟨(some 2), .mov (.c (.int .i64 0)), none, false, []⟩] none [0])
  (.seq (.seq (.ops [⟨(some 3), .mov (.t 0), none, false, []⟩,
    ⟨(some 4), .len true (.t 3), none, false, []⟩,
    ⟨(some 5), .bin .none .gtr (.t 4) (.c (.int .i64 600)), none, false, []⟩] none [5])
  (.cond (.t 5)
    (.seq (.ops [⟨(some 2), .mov (.c (.int .i64 1)), none, false, []⟩] none [2])
    .ret)
    .skip))
  (.seq (.ops [⟨(some 2), .mov (.c (.int .i64 0)), none, false, []⟩] none [2])
  .ret)))
def suffix_fault_r : List RRes := [.tmp 2]
def suffix_fault_hi : Hi := ⟨[], [(0, "text"), (1, "text")]⟩
def suffix_fault_an : An := .d
def suffix_fault_fi : Fi := ⟨6, suffix_fault_c, suffix_fault_r, suffix_fault_an, suffix_fault_hi, none⟩
theorem suffix_fault_ok : FiOk Try.prog f_suffix_fault suffix_fault_fi :=
  ⟨by kernel_rfl, fun _ h hlen => fun_sound (fn := Try.f70) (draw_sound _ _) Try.func70 rfl (by kernel_rfl : comp Try.prog 6 _ suffix_fault_c = some suffix_fault_c) (by kernel_rfl : cRes Try.prog Try.f70.results.toList = some suffix_fault_r) hlen h, fun _ h => nomatch h⟩

/-- cmp.isNaN[int]: slots [0 x, 1 x] -/
def cmp_isNaN_int__c : SCode :=
  (.seq (.ops [⟨(some 2), .mov (.c (.bool false)), none, false, []⟩] none [0])
  (.seq (.ops [⟨(some 3), .mov (.t 0), none, false, []⟩,
    ⟨(some 4), .mov (.t 0), none, false, []⟩,
    ⟨(some 5), .bin .none .neq (.t 3) (.t 4), none, false, []⟩,
    ⟨(some 2), .mov (.t 5), none, false, []⟩] none [2])
  .ret))
def cmp_isNaN_int__r : List RRes := [.tmp 2]
def cmp_isNaN_int__hi : Hi := ⟨[], [(0, "x"), (1, "x")]⟩
def cmp_isNaN_int__an : An := .d
def cmp_isNaN_int__fi : Fi := ⟨6, cmp_isNaN_int__c, cmp_isNaN_int__r, cmp_isNaN_int__an, cmp_isNaN_int__hi, none⟩
theorem cmp_isNaN_int__ok : FiOk Try.prog f_cmp_isNaN_int_ cmp_isNaN_int__fi :=
  ⟨by kernel_rfl, fun _ h hlen => fun_sound (fn := Try.f99) (draw_sound _ _) Try.func99 rfl (by kernel_rfl : comp Try.prog 6 _ cmp_isNaN_int__c = some cmp_isNaN_int__c) (by kernel_rfl : cRes Try.prog Try.f99.results.toList = some cmp_isNaN_int__r) hlen h, fun _ h => nomatch h⟩

/-- cmp.Compare[int]: slots [0 x, 1 y, 2 x, 3 y, 5 xNaN, 6 yNaN] -/
def cmp_Compare_int__c : SCode :=
  (.seq (.ops [⟨(some 4), .mov (.c (.int .i64 0)), none, false, []⟩] none [0, 1])
  (.seq (.ops [⟨(some 7), .mov (.t 0), none, false, []⟩,
    ⟨(some 8), .call f_cmp_isNaN_int_ [(.t 7)], none, false, []⟩,
    ⟨(some 5), .mov (.t 8), none, false, []⟩] none [0, 1, 5])
  (.seq (.ops [⟨(some 9), .mov (.t 1), none, false, []⟩,
    ⟨(some 10), .call f_cmp_isNaN_int_ [(.t 9)], none, false, []⟩,
    ⟨(some 6), .mov (.t 10), none, false, []⟩] none [0, 1, 5, 6])
  (.seq (.seq (.ops [⟨(some 11), .mov (.t 5), none, false, []⟩] none [0, 1, 6, 11])
  (.cond (.t 11)
    (.seq (.seq (.ops [⟨(some 12), .mov (.t 6), none, false, []⟩] none [12])
    (.cond (.t 12)
      (.seq (.ops [⟨(some 4), .mov (.c (.int .i64 0)), none, false, []⟩] none [4])
      .ret)
      .skip))
    (.seq (.ops [⟨(some 4), .mov (.c (.int .i64 (-1))), none, false, []⟩] none [4])
    .ret))
    .skip))
  (.seq (.seq (.ops [⟨(some 13), .mov (.t 6), none, false, []⟩] none [0, 1, 13])
  (.cond (.t 13)
    (.seq (.ops [⟨(some 4), .mov (.c (.int .i64 1)), none, false, []⟩] none [4])
    .ret)
    .skip))
  (.seq (.seq (.ops [⟨(some 14), .mov (.t 0), none, false, []⟩,
    ⟨(some 15), .mov (.t 1), none, false, []⟩,
    ⟨(some 16), .bin .none .lss (.t 14) (.t 15), none, false, []⟩] none [0, 1, 16])
  (.cond (.t 16)
    (.seq (.ops [⟨(some 4), .mov (.c (.int .i64 (-1))), none, false, []⟩] none [4])
    .ret)
    .skip))
  (.seq (.seq (.ops [⟨(some 17), .mov (.t 0), none, false, []⟩,
    ⟨(some 18), .mov (.t 1), none, false, []⟩,
    ⟨(some 19), .bin .none .gtr (.t 17) (.t 18), none, false, []⟩] none [19])
  (.cond (.t 19)
    (.seq (.ops [⟨(some 4), .mov (.c (.int .i64 1)), none, false, []⟩] none [4])
    .ret)
    .skip))
  (.seq (.ops [⟨(some 4), .mov (.c (.int .i64 0)), none, false, []⟩] none [4])
  .ret))))))))
def cmp_Compare_int__r : List RRes := [.tmp 4]
def cmp_Compare_int__hi : Hi := ⟨[], [(0, "x"), (1, "y"), (2, "x"), (3, "y"), (5, "xNaN"), (6, "yNaN")]⟩
def cmp_Compare_int__an : An := .d
def cmp_Compare_int__fi : Fi := ⟨20, cmp_Compare_int__c, cmp_Compare_int__r, cmp_Compare_int__an, cmp_Compare_int__hi, none⟩
theorem cmp_Compare_int__ok : FiOk Try.prog f_cmp_Compare_int_ cmp_Compare_int__fi :=
  ⟨by kernel_rfl, fun _ h hlen => fun_sound (fn := Try.f65) (draw_sound _ _) Try.func65 rfl (by kernel_rfl : comp Try.prog 20 _ cmp_Compare_int__c = some cmp_Compare_int__c) (by kernel_rfl : cRes Try.prog Try.f65.results.toList = some cmp_Compare_int__r) hlen h, fun _ h => nomatch h⟩

/-- cmp.Or[int]: slots [0 vals, 1 vals, 3 zero, 4 _, 5 val] -/
def cmp_Or_int__c : SCode :=
  (.seq (.ops [⟨(some 2), .mov (.c (.int .i64 0)), none, false, []⟩] none [0])
  (.seq (.ops [⟨(some 3), .mov (.c (.int .i64 0)), none, false, []⟩] none [0, 3])
  (.seq (.seq (.ops [⟨(some 6), .mov (.t 0), none, false, []⟩,
    ⟨(some 7), .len false (.t 6), none, false, []⟩,
    ⟨(some 8), .mov (.c (.int .i64 0)), none, false, []⟩] none [3, 6, 7, 8])
  (.block 0 (.loop [3, 6, 7] [8] 0
    (.seq (.ops [⟨(some 9), .bin .none .lss (.t 8) (.t 7), none, false, []⟩] none [3, 6, 7, 8, 9])
    (.seq (.cond (.t 9)
      .skip
      (.exit 0))
    (.seq (.block 1 (.seq (.ops [⟨(some 10), .iaddr 1 none (.t 6) (.t 8), none, false, []⟩,
      ⟨(some 11), .load 1 false (.t 10), none, false, []⟩,
      ⟨(some 5), .mov (.t 11), none, false, []⟩] none [3, 5, 6, 7, 8])
    (.seq (.ops [⟨(some 12), .mov (.t 5), none, false, []⟩,
      ⟨(some 13), .mov (.t 3), none, false, []⟩,
      ⟨(some 14), .bin .none .neq (.t 12) (.t 13), none, false, []⟩] none [3, 5, 6, 7, 8, 14])
    (.cond (.t 14)
      (.seq (.ops [⟨(some 15), .mov (.t 5), none, false, []⟩,
        ⟨(some 2), .mov (.t 15), none, false, []⟩] none [2])
      .ret)
      .skip))))
    (.ops [⟨(some 16), .bin .none .add (.t 8) (.c (.int .i64 1)), none, false, []⟩,
      ⟨(some 8), .mov (.t 16), none, false, []⟩] none [3, 6, 7, 8])))))))
  (.seq (.ops [⟨(some 17), .mov (.t 3), none, false, []⟩,
    ⟨(some 2), .mov (.t 17), none, false, []⟩] none [2])
  .ret))))
def cmp_Or_int__r : List RRes := [.tmp 2]
def cmp_Or_int__hi : Hi := ⟨[], [(0, "vals"), (1, "vals"), (3, "zero"), (5, "val")]⟩
def cmp_Or_int__an : An := (.seq .d (.seq .d (.seq (.seq .d (.loop [] [] [] .d)) .d)))
def cmp_Or_int__fi : Fi := ⟨18, cmp_Or_int__c, cmp_Or_int__r, cmp_Or_int__an, cmp_Or_int__hi, none⟩
theorem cmp_Or_int__ok : FiOk Try.prog f_cmp_Or_int_ cmp_Or_int__fi :=
  ⟨by kernel_rfl, fun _ h hlen => fun_sound (fn := Try.f64) (draw_sound _ _) Try.func64 rfl (by kernel_rfl : comp Try.prog 18 _ cmp_Or_int__c = some cmp_Or_int__c) (by kernel_rfl : cRes Try.prog Try.f64.results.toList = some cmp_Or_int__r) hlen h, fun _ h => nomatch h⟩

/-- fustian/suffix.sorted$2: slots [0 a, 1 b, 4 a, 5 b] -/
def suffix_sorted_2_c : SCode :=
  (.seq (.ops [⟨(some 6), .mov (.c (.int .i64 0)), none, false, []⟩] none [0, 1, 2, 3])
  (.seq (.ops [⟨(some 7), .load 1 false (.t 2), none, false, []⟩,
    ⟨(some 8), .mov (.t 0), none, false, []⟩,
    ⟨(some 9), .iaddr 1 none (.t 7) (.t 8), none, false, []⟩,
    ⟨(some 10), .load 1 false (.t 9), none, false, []⟩,
    ⟨(some 11), .load 1 false (.t 2), none, false, []⟩,
    ⟨(some 12), .mov (.t 1), none, false, []⟩,
    ⟨(some 13), .iaddr 1 none (.t 11) (.t 12), none, false, []⟩,
    ⟨(some 14), .load 1 false (.t 13), none, false, []⟩,
    ⟨(some 16), .load 1 false (.t 3), none, false, []⟩,
    ⟨(some 17), .mov (.t 0), none, false, []⟩,
    ⟨(some 19), .load 1 false (.t 3), none, false, []⟩,
    ⟨(some 20), .mov (.t 1), none, false, []⟩,
    ⟨(some 15), .call f_cmp_Compare_int_ [(.t 10), (.t 14)], none, false, [(16, 1, false, (.t 3)), (19, 1, false, (.t 3))]⟩,
    ⟨none, .again 16 1 false (.t 3), none, false, []⟩,
    ⟨none, .again 19 1 false (.t 3), none, false, []⟩,
    ⟨(some 18), .callv (.t 16) [(.t 17)], none, false, [(19, 1, false, (.t 3))]⟩,
    ⟨none, .again 19 1 false (.t 3), none, false, []⟩,
    ⟨(some 21), .callv (.t 19) [(.t 20)], none, false, []⟩,
    ⟨(some 22), .call f_cmp_Compare_int_ [(.t 18), (.t 21)], none, false, []⟩,
    ⟨(some 23), .bslice true 2 1 [(.int .i64 0), (.int .i64 0)] [(0, 1, (.t 15)), (1, 1, (.t 22))], none, false, []⟩,
    ⟨(some 24), .call f_cmp_Or_int_ [(.t 23)], none, false, []⟩,
    ⟨(some 6), .mov (.t 24), none, false, []⟩] (some (0, 0, [0, 1, 2, 3, 4, 5, 6, 7, 9, 10, 12, 13, 8, 11, 14, 15, 16, 17, 18])) [6])
  .ret))
def suffix_sorted_2_r : List RRes := [.tmp 6]
def suffix_sorted_2_hi : Hi := ⟨[(23, (.int .i64))], [(0, "a"), (1, "b"), (4, "a"), (5, "b")]⟩
def suffix_sorted_2_an : An := .d
def suffix_sorted_2_fi : Fi := ⟨25, suffix_sorted_2_c, suffix_sorted_2_r, suffix_sorted_2_an, suffix_sorted_2_hi, none⟩
theorem suffix_sorted_2_ok : FiOk Try.prog f_suffix_sorted_2 suffix_sorted_2_fi :=
  ⟨by kernel_rfl, fun _ h hlen => fun_sound (fn := Try.f106) (draw_sound _ _) Try.func106 rfl (by kernel_rfl : comp Try.prog 25 _ suffix_sorted_2_c = some suffix_sorted_2_c) (by kernel_rfl : cRes Try.prog Try.f106.results.toList = some suffix_sorted_2_r) hlen h, fun _ h => nomatch h⟩

/-- slices.SortFunc[[]int,int]: slots [0 x, 1 cmp, 2 x, 3 cmp, 4 n] -/
def slices_SortFunc___int_int__c : SCode :=
  (.seq (.ops [⟨(some 5), .mov (.t 0), none, false, []⟩,
    ⟨(some 6), .len false (.t 5), none, false, []⟩,
    ⟨(some 4), .mov (.t 6), none, false, []⟩] none [0, 1, 4])
  (.ops [⟨(some 7), .mov (.t 0), none, false, []⟩,
    ⟨(some 8), .mov (.t 4), none, false, []⟩,
    ⟨(some 9), .mov (.t 4), none, false, []⟩,
    ⟨(some 10), .conv .u64 (.t 9), none, false, []⟩,
    ⟨(some 11), .call f_math_bits_Len [(.t 10)], none, false, []⟩,
    ⟨(some 12), .mov (.t 1), none, false, []⟩,
    ⟨(some 13), .call f_slices_pdqsortCmpFunc_int_ [(.t 7), (.c (.int .i64 0)), (.t 8), (.t 11), (.t 12)], none, false, []⟩] none []))
def slices_SortFunc___int_int__r : List RRes := []
def slices_SortFunc___int_int__hi : Hi := ⟨[], [(0, "x"), (1, "cmp"), (2, "x"), (3, "cmp"), (4, "n")]⟩
def slices_SortFunc___int_int__an : An := .d
def slices_SortFunc___int_int__fi : Fi := ⟨14, slices_SortFunc___int_int__c, slices_SortFunc___int_int__r, slices_SortFunc___int_int__an, slices_SortFunc___int_int__hi, none⟩
theorem slices_SortFunc___int_int__ok : FiOk Try.prog f_slices_SortFunc___int_int_ slices_SortFunc___int_int__fi :=
  ⟨by kernel_rfl, fun _ h hlen => fun_sound (fn := Try.f62) (draw_sound _ _) Try.func62 rfl (by kernel_rfl : comp Try.prog 14 _ slices_SortFunc___int_int__c = some slices_SortFunc___int_int__c) (by kernel_rfl : cRes Try.prog Try.f62.results.toList = some slices_SortFunc___int_int__r) hlen h, fun _ h => nomatch h⟩

/-- fustian/suffix.sorted: slots [0 text, 1 text, 3 n, 4 out, 5 rank, 6 i, 7 wide, 8 second, 9 by, 10 next, 11 i] -/
def suffix_sorted_c : SCode :=
  (.seq (.ops [⟨(some 2), .mov (.c .nils), none, false, []⟩] none [0])
  (.seq (.ops [⟨(some 12), .mov (.t 0), none, false, []⟩,
    ⟨(some 13), .len true (.t 12), none, false, []⟩,
    ⟨(some 3), .alloc 0 [(.int .i64 0)], none, false, []⟩,
    ⟨none, .store 1 (.t 3) (.t 13), none, false, []⟩] none [0, 3])
  (.seq (.ops [⟨(some 14), .load 1 false (.t 3), none, false, []⟩,
    ⟨(some 16), .load 1 false (.t 3), none, false, []⟩,
    ⟨(some 15), .mkres 3 1 8 [(.int .i64 0)] (.t 14) (.t 14), none, false, []⟩,
    ⟨(some 5), .alres 2 0 [.nils], none, false, []⟩,
    ⟨(some 4), .mov (.t 15), none, false, []⟩,
    ⟨(some 17), .mkres 1 1 8 [(.int .i64 0)] (.t 16) (.t 16), none, false, []⟩,
    ⟨none, .store 1 (.t 5) (.t 17), none, false, []⟩] (some (2, 3, [0, 2, 1, 4, 5, 3, 6])) [0, 3, 4, 5])
  (.seq (.seq (.ops [⟨(some 18), .load 1 false (.t 3), none, false, []⟩,
    ⟨(some 19), .mov (.c (.int .i64 0)), none, false, []⟩] none [0, 3, 4, 5, 18, 19])
  (.block 0 (.loop [0, 3, 4, 5, 18] [19] 4
    (.seq (.ops [⟨(some 20), .bin .none .lss (.t 19) (.t 18), none, false, []⟩] none [0, 3, 4, 5, 18, 19, 20])
    (.seq (.cond (.t 20)
      .skip
      (.exit 0))
    (.seq (.block 1 (.seq (.ops [⟨(some 21), .mov (.t 19), none, false, []⟩,
      ⟨(some 6), .mov (.t 21), none, false, []⟩] none [0, 3, 4, 5, 6, 18, 19])
    (.ops [⟨(some 22), .mov (.t 4), none, false, []⟩,
      ⟨(some 23), .mov (.t 6), none, false, []⟩,
      ⟨(some 24), .load 1 false (.t 5), none, false, []⟩,
      ⟨(some 25), .mov (.t 6), none, false, []⟩,
      ⟨(some 26), .mov (.t 6), none, false, []⟩,
      ⟨(some 27), .mov (.t 0), none, false, []⟩,
      ⟨(some 28), .mov (.t 6), none, false, []⟩,
      ⟨(some 29), .index 1 none false (.t 27) (.t 28), none, false, []⟩,
      ⟨(some 30), .conv .i64 (.t 29), none, false, []⟩,
      ⟨(some 31), .iaddr 1 none (.t 22) (.t 23), none, false, []⟩,
      ⟨none, .store 1 (.t 31) (.t 26), none, false, [(24, 1, false, (.t 5))]⟩,
      ⟨none, .again 24 1 false (.t 5), none, false, []⟩,
      ⟨(some 32), .iaddr 1 none (.t 24) (.t 25), none, false, []⟩,
      ⟨none, .store 1 (.t 32) (.t 30), none, false, []⟩] (some (0, 0, [0, 1, 2, 3, 4, 5, 6, 7, 8, 9, 10, 11, 12])) [0, 3, 4, 5, 18, 19])))
    (.ops [⟨(some 33), .bin .none .add (.t 19) (.c (.int .i64 1)), none, false, []⟩,
      ⟨(some 19), .mov (.t 33), none, false, []⟩] none [0, 3, 4, 5, 18, 19])))))))
  (.seq (.ops [⟨(some 7), .alloc 0 [(.int .i64 0)], none, false, []⟩,
    ⟨none, .store 1 (.t 7) (.c (.int .i64 1)), none, false, []⟩] none [3, 4, 5, 7])
  (.block 2 (.loop [3, 4, 5] [7] 5
    (.seq (.block 3 (.seq (.ops [⟨(some 36), .mkfunc (.func f_suffix_sorted_1) [] [(.t 7), (.t 3), (.t 5)], none, false, []⟩,
      ⟨(some 8), .alloc 0 [.nilf], none, false, []⟩,
      ⟨none, .store 1 (.t 8) (.t 36), none, false, []⟩] none [3, 4, 5, 7, 8])
    (.seq (.ops [⟨(some 37), .mkfunc (.func f_suffix_sorted_2) [] [(.t 5), (.t 8)], none, false, []⟩,
      ⟨(some 9), .mov (.t 37), none, false, []⟩] none [3, 4, 5, 7, 9])
    (.seq (.ops [⟨(some 38), .mov (.t 4), none, false, []⟩,
      ⟨(some 39), .mov (.t 9), none, false, []⟩,
      ⟨(some 40), .call f_slices_SortFunc___int_int_ [(.t 38), (.t 39)], none, false, []⟩] none [3, 4, 5, 7, 9])
    (.seq (.ops [⟨(some 41), .load 1 false (.t 3), none, false, []⟩,
      ⟨(some 42), .mkslice 1 8 [(.int .i64 0)] (.t 41) (.t 41), none, false, []⟩,
      ⟨(some 10), .mov (.t 42), none, false, []⟩] none [3, 4, 5, 7, 9, 10])
    (.seq (.seq (.ops [⟨(some 11), .mov (.c (.int .i64 1)), none, false, []⟩] none [3, 4, 5, 7, 9, 10, 11])
    (.block 4 (.loop [3, 4, 5, 7, 9, 10] [11] 7
      (.seq (.seq (.ops [⟨(some 43), .mov (.t 11), none, false, []⟩,
        ⟨(some 44), .load 1 false (.t 3), none, false, []⟩,
        ⟨(some 45), .bin .none .lss (.t 43) (.t 44), none, false, []⟩] none [3, 4, 5, 7, 9, 10, 11, 45])
      (.cond (.t 45)
        .skip
        (.exit 4)))
      (.join [3, 4, 5, 7, 9, 10, 11] [] 7 (.block 5 (.seq (.ops [⟨(some 48), .mov (.t 10), none, false, []⟩,
          ⟨(some 49), .mov (.t 4), none, false, []⟩,
          ⟨(some 50), .mov (.t 11), none, false, []⟩,
          ⟨(some 51), .iaddr 1 none (.t 49) (.t 50), none, false, []⟩,
          ⟨(some 52), .load 1 false (.t 51), none, false, []⟩,
          ⟨(some 53), .mov (.t 10), none, false, []⟩,
          ⟨(some 54), .mov (.t 4), none, false, []⟩,
          ⟨(some 55), .mov (.t 11), none, false, []⟩,
          ⟨(some 56), .bin .none .sub (.t 55) (.c (.int .i64 1)), none, false, []⟩,
          ⟨(some 57), .iaddr 1 none (.t 54) (.t 56), none, false, []⟩,
          ⟨(some 58), .load 1 false (.t 57), none, false, []⟩,
          ⟨(some 59), .iaddr 1 none (.t 53) (.t 58), none, false, []⟩,
          ⟨(some 60), .load 1 false (.t 59), none, false, []⟩,
          ⟨(some 61), .iaddr 1 none (.t 48) (.t 52), none, false, []⟩,
          ⟨none, .store 1 (.t 61) (.t 60), none, false, []⟩] (some (0, 0, [0, 1, 2, 3, 4, 5, 6, 7, 8, 9, 10, 11, 12, 13, 14])) [3, 4, 5, 7, 9, 10, 11])
        (.seq (.ops [⟨(some 62), .mov (.t 9), none, false, []⟩,
          ⟨(some 63), .mov (.t 4), none, false, []⟩,
          ⟨(some 64), .mov (.t 11), none, false, []⟩,
          ⟨(some 65), .bin .none .sub (.t 64) (.c (.int .i64 1)), none, false, []⟩,
          ⟨(some 66), .iaddr 1 none (.t 63) (.t 65), none, false, []⟩,
          ⟨(some 67), .load 1 false (.t 66), none, false, []⟩,
          ⟨(some 68), .mov (.t 4), none, false, []⟩,
          ⟨(some 69), .mov (.t 11), none, false, []⟩,
          ⟨(some 70), .iaddr 1 none (.t 68) (.t 69), none, false, []⟩,
          ⟨(some 71), .load 1 false (.t 70), none, false, []⟩,
          ⟨(some 72), .callv (.t 62) [(.t 67), (.t 71)], none, false, []⟩,
          ⟨(some 73), .bin .none .neq (.t 72) (.c (.int .i64 0)), none, false, []⟩] (some (0, 0, [0, 1, 2, 3, 4, 5, 6, 7, 8, 9, 10, 11])) [3, 4, 5, 7, 9, 10, 11, 73])
        (.cond (.t 73)
          (.ops [⟨(some 74), .mov (.t 10), none, false, []⟩,
            ⟨(some 75), .mov (.t 4), none, false, []⟩,
            ⟨(some 76), .mov (.t 11), none, false, []⟩,
            ⟨(some 77), .iaddr 1 none (.t 75) (.t 76), none, false, []⟩,
            ⟨(some 78), .load 1 false (.t 77), none, false, []⟩,
            ⟨(some 79), .iaddr 1 none (.t 74) (.t 78), none, false, []⟩,
            ⟨(some 80), .load 1 false (.t 79), none, false, []⟩,
            ⟨(some 81), .bin .none .add (.t 80) (.c (.int .i64 1)), none, false, []⟩,
            ⟨(some 82), .iaddr 1 none (.t 74) (.t 78), none, false, []⟩,
            ⟨none, .store 1 (.t 82) (.t 81), none, false, []⟩] none [3, 4, 5, 7, 9, 10, 11])
          .skip))))
      (.ops [⟨(some 46), .mov (.t 11), none, false, []⟩,
        ⟨(some 47), .bin .none .add (.t 46) (.c (.int .i64 1)), none, false, []⟩,
        ⟨(some 11), .mov (.t 47), none, false, []⟩] none [3, 4, 5, 7, 9, 10, 11]))))))
    (.seq (.ops [⟨(some 83), .mov (.t 10), none, false, []⟩,
      ⟨none, .store 1 (.t 5) (.t 83), none, false, []⟩] none [3, 4, 5, 7])
    (.seq (.ops [⟨(some 84), .load 1 false (.t 3), none, false, []⟩,
      ⟨(some 85), .bin .none .eql (.t 84) (.c (.int .i64 0)), none, false, []⟩,
      ⟨(some 86), .mov (.t 85), none, true, []⟩,
      ⟨(some 87), .load 1 false (.t 5), (some (86, false)), false, []⟩,
      ⟨(some 88), .mov (.t 4), (some (86, false)), false, []⟩,
      ⟨(some 89), .load 1 false (.t 3), (some (86, false)), false, []⟩,
      ⟨(some 90), .bin .none .sub (.t 89) (.c (.int .i64 1)), (some (86, false)), false, []⟩,
      ⟨(some 91), .iaddr 1 none (.t 88) (.t 90), (some (86, false)), false, []⟩,
      ⟨(some 92), .load 1 false (.t 91), (some (86, false)), false, []⟩,
      ⟨(some 93), .iaddr 1 none (.t 87) (.t 92), (some (86, false)), false, []⟩,
      ⟨(some 94), .load 1 false (.t 93), (some (86, false)), false, []⟩,
      ⟨(some 95), .load 1 false (.t 3), (some (86, false)), false, []⟩,
      ⟨(some 96), .bin .none .sub (.t 95) (.c (.int .i64 1)), (some (86, false)), false, []⟩,
      ⟨(some 97), .bin .none .eql (.t 94) (.t 96), (some (86, false)), false, []⟩,
      ⟨(some 98), .pick (.t 86) (.c (.bool true)) (.t 97), none, false, []⟩] (some (0, 0, [0, 1, 2, 3, 4, 5, 6, 7, 8, 9, 10, 11, 12, 13, 14])) [3, 4, 5, 7, 98])
    (.cond (.t 98)
      (.seq (.ops [⟨(some 99), .mov (.t 4), none, false, []⟩,
        ⟨(some 2), .mov (.t 99), none, false, []⟩] none [2])
      .ret)
      .skip)))))))))
    (.seq (.seq (.ops [⟨(some 100), .load 1 false (.t 7), none, false, []⟩] none [3, 4, 5, 100])
    (.ops [⟨(some 7), .alloc 0 [(.int .i64 0)], none, false, []⟩,
      ⟨none, .store 1 (.t 7) (.t 100), none, false, []⟩] none [3, 4, 5, 7]))
    (.ops [⟨(some 34), .load 1 false (.t 7), none, false, []⟩,
      ⟨(some 35), .bin .none .mul (.t 34) (.c (.int .i64 2)), none, false, []⟩,
      ⟨none, .store 1 (.t 7) (.t 35), none, false, []⟩] none [3, 4, 5, 7]))))))))))
def suffix_sorted_r : List RRes := [.tmp 2]
def suffix_sorted_hi : Hi := ⟨[(15, (.int .i64)), (17, (.int .i64)), (42, (.int .i64)), (5, (.sl (.int .i64)))], [(0, "text"), (1, "text"), (3, "n"), (4, "out"), (5, "rank"), (6, "i"), (7, "wide"), (8, "second"), (9, "by"), (10, "next"), (11, "i")]⟩
def suffix_sorted_an : An := (.seq .d (.seq .d (.seq .d (.seq (.seq .d (.loop [4, 5] [] [] .d)) (.seq .d (.loop [4, 5, 7] [] [5, 7] (.seq (.seq .d (.seq .d (.seq .d (.seq .d (.seq (.seq .d (.loop [10] [] [] .d)) .d))))) .d)))))))
def suffix_sorted_fi : Fi := ⟨101, suffix_sorted_c, suffix_sorted_r, suffix_sorted_an, suffix_sorted_hi, none⟩
theorem suffix_sorted_ok : FiOk Try.prog f_suffix_sorted suffix_sorted_fi :=
  ⟨by kernel_rfl, fun _ h hlen => fun_sound (fn := Try.f71) (draw_sound _ _) Try.func71 rfl (by kernel_rfl : comp Try.prog 101 _ suffix_sorted_c = some suffix_sorted_c) (by kernel_rfl : cRes Try.prog Try.f71.results.toList = some suffix_sorted_r) hlen h, fun _ h => nomatch h⟩

/-- fustian/suffix.common: slots [0 text, 1 order, 2 text, 3 order, 5 n, 6 rank, 7 out, 8 k, 9 i, 10 long, 11 i, 12 k] -/
def suffix_common_c : SCode :=
  (.seq (.ops [⟨(some 4), .mov (.c .nils), none, false, []⟩] none [0, 1])
  (.seq (.ops [⟨(some 13), .mov (.t 0), none, false, []⟩,
    ⟨(some 14), .len true (.t 13), none, false, []⟩,
    ⟨(some 5), .mov (.t 14), none, false, []⟩] none [0, 1, 5])
  (.seq (.ops [⟨(some 15), .mov (.t 5), none, false, []⟩,
    ⟨(some 17), .mov (.t 5), none, false, []⟩,
    ⟨(some 16), .mkres 2 1 8 [(.int .i64 0)] (.t 15) (.t 15), none, false, []⟩,
    ⟨(some 6), .mov (.t 16), none, false, []⟩,
    ⟨(some 18), .mkres 1 1 8 [(.int .i64 0)] (.t 17) (.t 17), none, false, []⟩,
    ⟨(some 7), .mov (.t 18), none, false, []⟩] (some (2, 2, [0, 2, 1, 4, 3, 5])) [0, 1, 5, 6, 7])
  (.seq (.seq (.ops [⟨(some 19), .mov (.t 1), none, false, []⟩,
    ⟨(some 20), .len false (.t 19), none, false, []⟩,
    ⟨(some 21), .mov (.c (.int .i64 0)), none, false, []⟩] none [0, 1, 5, 6, 7, 19, 20, 21])
  (.block 0 (.loop [0, 1, 5, 6, 7, 19, 20] [21] 2
    (.seq (.ops [⟨(some 22), .bin .none .lss (.t 21) (.t 20), none, false, []⟩] none [0, 1, 5, 6, 7, 19, 20, 21, 22])
    (.seq (.cond (.t 22)
      .skip
      (.exit 0))
    (.seq (.block 1 (.seq (.ops [⟨(some 23), .mov (.t 21), none, false, []⟩,
      ⟨(some 24), .iaddr 1 none (.t 19) (.t 21), none, false, []⟩,
      ⟨(some 25), .load 1 false (.t 24), none, false, []⟩,
      ⟨(some 8), .mov (.t 23), none, false, []⟩,
      ⟨(some 9), .mov (.t 25), none, false, []⟩] none [0, 1, 5, 6, 7, 8, 9, 19, 20, 21])
    (.ops [⟨(some 26), .mov (.t 6), none, false, []⟩,
      ⟨(some 27), .mov (.t 9), none, false, []⟩,
      ⟨(some 28), .mov (.t 8), none, false, []⟩,
      ⟨(some 29), .iaddr 1 none (.t 26) (.t 27), none, false, []⟩,
      ⟨none, .store 1 (.t 29) (.t 28), none, false, []⟩] none [0, 1, 5, 6, 7, 19, 20, 21])))
    (.ops [⟨(some 30), .bin .none .add (.t 21) (.c (.int .i64 1)), none, false, []⟩,
      ⟨(some 21), .mov (.t 30), none, false, []⟩] none [0, 1, 5, 6, 7, 19, 20, 21])))))))
  (.seq (.ops [⟨(some 10), .mov (.c (.int .i64 0)), none, false, []⟩] none [0, 1, 5, 6, 7, 10])
  (.seq (.seq (.ops [⟨(some 31), .mov (.t 5), none, false, []⟩,
    ⟨(some 32), .mov (.c (.int .i64 0)), none, false, []⟩] none [0, 1, 5, 6, 7, 10, 31, 32])
  (.block 2 (.loop [0, 1, 5, 6, 7, 31] [10, 32] 2
    (.seq (.ops [⟨(some 33), .bin .none .lss (.t 32) (.t 31), none, false, []⟩] none [0, 1, 5, 6, 7, 10, 31, 32, 33])
    (.seq (.cond (.t 33)
      .skip
      (.exit 2))
    (.join [0, 1, 5, 6, 7, 31, 32] [10] 2 (.block 3 (.seq (.ops [⟨(some 34), .mov (.t 32), none, false, []⟩,
        ⟨(some 11), .mov (.t 34), none, false, []⟩] none [0, 1, 5, 6, 7, 10, 11, 31, 32])
      (.seq (.seq (.ops [⟨(some 35), .mov (.t 6), none, false, []⟩,
        ⟨(some 36), .mov (.t 11), none, false, []⟩,
        ⟨(some 37), .iaddr 1 none (.t 35) (.t 36), none, false, []⟩,
        ⟨(some 38), .load 1 false (.t 37), none, false, []⟩,
        ⟨(some 39), .bin .none .eql (.t 38) (.c (.int .i64 0)), none, false, []⟩] none [0, 1, 5, 6, 7, 10, 11, 31, 32, 39])
      (.cond (.t 39)
        (.seq (.ops [⟨(some 10), .mov (.c (.int .i64 0)), none, false, []⟩] none [0, 1, 5, 6, 7, 10, 31, 32])
        (.exit 3))
        .skip))
      (.seq (.ops [⟨(some 40), .mov (.t 1), none, false, []⟩,
        ⟨(some 41), .mov (.t 6), none, false, []⟩,
        ⟨(some 42), .mov (.t 11), none, false, []⟩,
        ⟨(some 43), .iaddr 1 none (.t 41) (.t 42), none, false, []⟩,
        ⟨(some 44), .load 1 false (.t 43), none, false, []⟩,
        ⟨(some 45), .bin .none .sub (.t 44) (.c (.int .i64 1)), none, false, []⟩,
        ⟨(some 46), .iaddr 1 none (.t 40) (.t 45), none, false, []⟩,
        ⟨(some 47), .load 1 false (.t 46), none, false, []⟩,
        ⟨(some 12), .mov (.t 47), none, false, []⟩] none [0, 1, 5, 6, 7, 10, 11, 12, 31, 32])
      (.seq (.block 4 (.loop [0, 1, 5, 6, 7, 11, 12, 31, 32] [10] 2
        (.seq (.seq (.ops [⟨(some 48), .mov (.t 11), none, false, []⟩,
          ⟨(some 49), .mov (.t 10), none, false, []⟩,
          ⟨(some 50), .bin .none .add (.t 48) (.t 49), none, false, []⟩,
          ⟨(some 51), .mov (.t 5), none, false, []⟩,
          ⟨(some 52), .bin .none .lss (.t 50) (.t 51), none, false, []⟩,
          ⟨(some 53), .mov (.t 52), none, true, []⟩,
          ⟨(some 54), .mov (.t 12), (some (53, true)), false, []⟩,
          ⟨(some 55), .mov (.t 10), (some (53, true)), false, []⟩,
          ⟨(some 56), .bin .none .add (.t 54) (.t 55), (some (53, true)), false, []⟩,
          ⟨(some 57), .mov (.t 5), (some (53, true)), false, []⟩,
          ⟨(some 58), .bin .none .lss (.t 56) (.t 57), (some (53, true)), false, []⟩,
          ⟨(some 59), .pick (.t 53) (.t 58) (.c (.bool false)), none, false, []⟩,
          ⟨(some 60), .mov (.t 59), none, true, []⟩,
          ⟨(some 61), .mov (.t 0), (some (60, true)), false, []⟩,
          ⟨(some 62), .mov (.t 11), (some (60, true)), false, []⟩,
          ⟨(some 63), .mov (.t 10), (some (60, true)), false, []⟩,
          ⟨(some 64), .bin .none .add (.t 62) (.t 63), (some (60, true)), false, []⟩,
          ⟨(some 65), .index 1 none false (.t 61) (.t 64), (some (60, true)), false, []⟩,
          ⟨(some 66), .mov (.t 0), (some (60, true)), false, []⟩,
          ⟨(some 67), .mov (.t 12), (some (60, true)), false, []⟩,
          ⟨(some 68), .mov (.t 10), (some (60, true)), false, []⟩,
          ⟨(some 69), .bin .none .add (.t 67) (.t 68), (some (60, true)), false, []⟩,
          ⟨(some 70), .index 1 none false (.t 66) (.t 69), (some (60, true)), false, []⟩,
          ⟨(some 71), .bin .none .eql (.t 65) (.t 70), (some (60, true)), false, []⟩,
          ⟨(some 72), .pick (.t 60) (.t 71) (.c (.bool false)), none, false, []⟩] (some (0, 0, [0, 1, 2, 3, 4, 5, 6, 7, 8, 9, 10, 11, 12, 13, 14, 15, 16, 17, 18, 19, 20, 21, 22, 23, 24])) [0, 1, 5, 6, 7, 10, 11, 12, 31, 32, 72])
        (.cond (.t 72)
          .skip
          (.exit 4)))
        (.block 5 (.ops [⟨(some 73), .mov (.t 10), none, false, []⟩,
          ⟨(some 74), .bin .none .add (.t 73) (.c (.int .i64 1)), none, false, []⟩,
          ⟨(some 10), .mov (.t 74), none, false, []⟩] none [0, 1, 5, 6, 7, 10, 11, 12, 31, 32])))))
      (.seq (.ops [⟨(some 75), .mov (.t 7), none, false, []⟩,
        ⟨(some 76), .mov (.t 6), none, false, []⟩,
        ⟨(some 77), .mov (.t 11), none, false, []⟩,
        ⟨(some 78), .iaddr 1 none (.t 76) (.t 77), none, false, []⟩,
        ⟨(some 79), .load 1 false (.t 78), none, false, []⟩,
        ⟨(some 80), .mov (.t 10), none, false, []⟩,
        ⟨(some 81), .iaddr 1 none (.t 75) (.t 79), none, false, []⟩,
        ⟨none, .store 1 (.t 81) (.t 80), none, false, []⟩] none [0, 1, 5, 6, 7, 10, 31, 32])
      (.ops [⟨(some 82), .mov (.t 10), none, false, []⟩,
        ⟨(some 83), .bin .none .sub (.t 82) (.c (.int .i64 1)), none, false, []⟩,
        ⟨(some 84), .max [(.c (.int .i64 0)), (.t 83)], none, false, []⟩,
        ⟨(some 10), .mov (.t 84), none, false, []⟩] none [0, 1, 5, 6, 7, 10, 31, 32])))))))
    (.ops [⟨(some 85), .bin .none .add (.t 32) (.c (.int .i64 1)), none, false, []⟩,
      ⟨(some 32), .mov (.t 85), none, false, []⟩] none [0, 1, 5, 6, 7, 10, 31, 32])))))))
  (.seq (.ops [⟨(some 86), .mov (.t 7), none, false, []⟩,
    ⟨(some 4), .mov (.t 86), none, false, []⟩] none [4])
  .ret)))))))
def suffix_common_r : List RRes := [.tmp 4]
def suffix_common_hi : Hi := ⟨[(16, (.int .i64)), (18, (.int .i64))], [(0, "text"), (1, "order"), (2, "text"), (3, "order"), (5, "n"), (6, "rank"), (7, "out"), (8, "k"), (9, "i"), (10, "long"), (11, "i"), (12, "k")]⟩
def suffix_common_an : An := (.seq .d (.seq .d (.seq .d (.seq (.seq .d (.loop [6] [] [] .d)) (.seq .d (.seq (.seq .d (.loop [7] [] [] (.seq .d (.seq .d (.seq (.seq .d (.seq .d (.seq .d (.seq (.loop [] [] [] .d) .d)))) .d))))) .d))))))
def suffix_common_fi : Fi := ⟨87, suffix_common_c, suffix_common_r, suffix_common_an, suffix_common_hi, none⟩
theorem suffix_common_ok : FiOk Try.prog f_suffix_common suffix_common_fi :=
  ⟨by kernel_rfl, fun _ h hlen => fun_sound (fn := Try.f72) (draw_sound _ _) Try.func72 rfl (by kernel_rfl : comp Try.prog 87 _ suffix_common_c = some suffix_common_c) (by kernel_rfl : cRes Try.prog Try.f72.results.toList = some suffix_common_r) hlen h, fun _ h => nomatch h⟩

/-- fustian/suffix.Unlike: slots [0 text, 1 text, 4 e, 5 n, 6 _, 7 k] -/
def suffix_Unlike_c : SCode :=
  (.seq (.ops [⟨(some 2), .mov (.c (.int .i64 0)), none, false, []⟩,
    ⟨(some 3), .mov (.c (.int .i64 0)), none, false, []⟩] none [0])
  (.seq (.seq (.ops [⟨(some 8), .mov (.t 0), none, false, []⟩,
    ⟨(some 9), .call f_suffix_fault [(.t 8)], none, false, []⟩,
    ⟨(some 4), .mov (.t 9), none, false, []⟩] none [0, 4])
  (.seq (.ops [⟨(some 10), .mov (.t 4), none, false, []⟩,
    ⟨(some 11), .bin .none .neq (.t 10) (.c (.int .i64 0)), none, false, []⟩] none [0, 4, 11])
  (.cond (.t 11)
    (.seq (.ops [⟨(some 12), .mov (.t 4), none, false, []⟩,
      ⟨(some 2), .mov (.c (.int .i64 0)), none, false, []⟩,
      ⟨(some 3), .mov (.t 12), none, false, []⟩] none [2, 3])
    .ret)
    .skip)))
  (.seq (.ops [⟨(some 13), .mov (.t 0), none, false, []⟩,
    ⟨(some 14), .len true (.t 13), none, false, []⟩,
    ⟨(some 15), .mov (.t 0), none, false, []⟩,
    ⟨(some 16), .len true (.t 15), none, false, []⟩,
    ⟨(some 17), .bin .none .add (.t 16) (.c (.int .i64 1)), none, false, []⟩,
    ⟨(some 18), .bin .none .mul (.t 14) (.t 17), none, false, []⟩,
    ⟨(some 19), .bin .none .quo (.t 18) (.c (.int .i64 2)), none, false, []⟩,
    ⟨(some 5), .mov (.t 19), none, false, []⟩] none [0, 5])
  (.seq (.seq (.ops [⟨(some 20), .mov (.t 0), none, false, []⟩,
    ⟨(some 21), .mov (.t 0), none, false, []⟩,
    ⟨(some 22), .call f_suffix_sorted [(.t 21)], none, false, []⟩,
    ⟨(some 23), .call f_suffix_common [(.t 20), (.t 22)], none, false, []⟩,
    ⟨(some 24), .len false (.t 23), none, false, []⟩,
    ⟨(some 25), .mov (.c (.int .i64 0)), none, false, []⟩] none [5, 23, 24, 25])
  (.block 0 (.loop [23, 24] [5, 25] 0
    (.seq (.ops [⟨(some 26), .bin .none .lss (.t 25) (.t 24), none, false, []⟩] none [5, 23, 24, 25, 26])
    (.seq (.cond (.t 26)
      .skip
      (.exit 0))
    (.seq (.block 1 (.seq (.ops [⟨(some 27), .iaddr 1 none (.t 23) (.t 25), none, false, []⟩,
      ⟨(some 28), .load 1 false (.t 27), none, false, []⟩,
      ⟨(some 7), .mov (.t 28), none, false, []⟩] none [5, 7, 23, 24, 25])
    (.ops [⟨(some 29), .mov (.t 5), none, false, []⟩,
      ⟨(some 30), .mov (.t 7), none, false, []⟩,
      ⟨(some 31), .bin .none .sub (.t 29) (.t 30), none, false, []⟩,
      ⟨(some 5), .mov (.t 31), none, false, []⟩] none [5, 23, 24, 25])))
    (.ops [⟨(some 32), .bin .none .add (.t 25) (.c (.int .i64 1)), none, false, []⟩,
      ⟨(some 25), .mov (.t 32), none, false, []⟩] none [5, 23, 24, 25])))))))
  (.seq (.ops [⟨(some 33), .mov (.t 5), none, false, []⟩,
    ⟨(some 2), .mov (.t 33), none, false, []⟩,
    ⟨(some 3), .mov (.c (.int .i64 0)), none, false, []⟩] none [2, 3])
  .ret)))))
def suffix_Unlike_r : List RRes := [.tmp 2, .tmp 3]
def suffix_Unlike_hi : Hi := ⟨[], [(0, "text"), (1, "text"), (4, "e"), (5, "n"), (7, "k")]⟩
def suffix_Unlike_an : An := (.seq .d (.seq .d (.seq .d (.seq (.seq .d (.loop [] [] [] .d)) .d))))
def suffix_Unlike_fi : Fi := ⟨34, suffix_Unlike_c, suffix_Unlike_r, suffix_Unlike_an, suffix_Unlike_hi, none⟩
theorem suffix_Unlike_ok : FiOk Try.prog f_suffix_Unlike suffix_Unlike_fi :=
  ⟨by kernel_rfl, fun _ h hlen => fun_sound (fn := Try.f36) (draw_sound _ _) Try.func36 rfl (by kernel_rfl : comp Try.prog 34 _ suffix_Unlike_c = some suffix_Unlike_c) (by kernel_rfl : cRes Try.prog Try.f36.results.toList = some suffix_Unlike_r) hlen h, fun _ h => nomatch h⟩

/-- sort.Slice: slots [0 x, 1 less, 2 x, 3 less, 4 rv, 5 swap, 6 length, 7 limit] -/
def sort_Slice_c : SCode :=
  (.seq (.ops [⟨(some 8), .mov (.t 0), none, false, []⟩,
    ⟨(some 9), .bad, none, false, []⟩,
    ⟨(some 4), .alloc 0 [.nilp, .nilp, (.int .u64 0)], none, false, []⟩,
    ⟨none, .store 3 (.t 4) (.t 9), none, false, []⟩] none [0, 1, 4])
  (.seq (.ops [⟨(some 10), .mov (.t 0), none, false, []⟩,
    ⟨(some 11), .bad, none, false, []⟩,
    ⟨(some 5), .mov (.t 11), none, false, []⟩] none [1, 4, 5])
  (.seq (.ops [⟨(some 12), .load 3 true (.t 4), none, false, []⟩,
    ⟨(some 13), .bad, none, false, []⟩,
    ⟨(some 6), .mov (.t 13), none, false, []⟩] none [1, 5, 6])
  (.seq (.ops [⟨(some 14), .mov (.t 6), none, false, []⟩,
    ⟨(some 15), .conv .u64 (.t 14), none, false, []⟩,
    ⟨(some 16), .call f_math_bits_Len [(.t 15)], none, false, []⟩,
    ⟨(some 7), .mov (.t 16), none, false, []⟩] none [1, 5, 6, 7])
  (.ops [⟨(some 17), .mov (.t 1), none, false, []⟩,
    ⟨(some 18), .mov (.t 5), none, false, []⟩,
    ⟨(some 19), .build [.nilf, .nilf] [(0, 1, (.t 17)), (1, 1, (.t 18))], none, false, []⟩,
    ⟨(some 20), .mov (.t 6), none, false, []⟩,
    ⟨(some 21), .mov (.t 7), none, false, []⟩,
    ⟨(some 22), .call f_sort_pdqsort_func [(.t 19), (.c (.int .i64 0)), (.t 20), (.t 21)], none, false, []⟩] none [])))))
def sort_Slice_r : List RRes := []
def sort_Slice_hi : Hi := ⟨[], [(0, "x"), (1, "less"), (2, "x"), (3, "less"), (4, "rv"), (5, "swap"), (6, "length"), (7, "limit")]⟩
def sort_Slice_an : An := .d
def sort_Slice_fi : Fi := ⟨23, sort_Slice_c, sort_Slice_r, sort_Slice_an, sort_Slice_hi, none⟩
theorem sort_Slice_ok : FiOk Try.prog f_sort_Slice sort_Slice_fi :=
  ⟨by kernel_rfl, fun _ h hlen => fun_sound (fn := Try.f111) (draw_sound _ _) Try.func111 rfl (by kernel_rfl : comp Try.prog 23 _ sort_Slice_c = some sort_Slice_c) (by kernel_rfl : cRes Try.prog Try.f111.results.toList = some sort_Slice_r) hlen h, fun _ h => nomatch h⟩

/-- fustian/fustianref.ends: slots [0 text, 1 text, 3 out, 4 i] -/
def ref_ends_c : SCode :=
  (.seq (.ops [⟨(some 1), .box 0 (.t 0), none, false, []⟩,
    ⟨(some 2), .mov (.c .nils), none, false, []⟩] none [1])
  (.seq (.ops [⟨(some 3), .alloc 0 [.nils], none, false, []⟩] none [1, 3])
  (.seq (.seq (.ops [⟨(some 5), .load 1 false (.t 1), none, false, []⟩,
    ⟨(some 6), .len true (.t 5), none, false, []⟩,
    ⟨(some 7), .mov (.c (.int .i64 0)), none, false, []⟩] none [1, 3, 6, 7])
  (.block 0 (.loop [1, 3, 6] [7] 2
    (.seq (.ops [⟨(some 8), .bin .none .lss (.t 7) (.t 6), none, false, []⟩] none [1, 3, 6, 7, 8])
    (.seq (.cond (.t 8)
      .skip
      (.exit 0))
    (.seq (.block 1 (.seq (.ops [⟨(some 9), .mov (.t 7), none, false, []⟩,
      ⟨(some 4), .mov (.t 9), none, false, []⟩] none [1, 3, 4, 6, 7])
    (.ops [⟨(some 10), .load 1 false (.t 3), none, false, []⟩,
      ⟨(some 11), .mov (.t 4), none, false, []⟩,
      ⟨(some 12), .bslice true 1 1 [(.int .i64 0)] [(0, 1, (.t 11))], none, false, []⟩,
      ⟨(some 13), .append 1 8 (.t 10) (.t 12), none, false, []⟩,
      ⟨none, .store 1 (.t 3) (.t 13), none, false, []⟩] none [1, 3, 6, 7])))
    (.ops [⟨(some 14), .bin .none .add (.t 7) (.c (.int .i64 1)), none, false, []⟩,
      ⟨(some 7), .mov (.t 14), none, false, []⟩] none [1, 3, 6, 7])))))))
  (.seq (.ops [⟨(some 15), .load 1 false (.t 3), none, false, []⟩,
    ⟨(some 16), .mkif 35 (.t 15), none, false, []⟩,
    ⟨(some 17), .mkfunc (.func f_ref_ends_1) [] [(.t 1), (.t 3)], none, false, []⟩,
    ⟨(some 18), .call f_sort_Slice [(.t 16), (.t 17)], none, false, []⟩] none [3])
  (.seq (.ops [⟨(some 19), .load 1 false (.t 3), none, false, []⟩,
    ⟨(some 2), .mov (.t 19), none, false, []⟩] none [2])
  .ret)))))
def ref_ends_r : List RRes := [.tmp 2]
def ref_ends_hi : Hi := ⟨[(12, (.int .i64)), (13, (.int .i64)), (3, (.sl (.int .i64)))], [(0, "text"), (1, "text"), (3, "out"), (4, "i")]⟩
def ref_ends_an : An := (.seq .d (.seq .d (.seq (.seq .d (.loop [3] [] [] .d)) .d)))
def ref_ends_fi : Fi := ⟨20, ref_ends_c, ref_ends_r, ref_ends_an, ref_ends_hi, none⟩
theorem ref_ends_ok : FiOk Try.prog f_ref_ends ref_ends_fi :=
  ⟨by kernel_rfl, fun _ h hlen => fun_sound (fn := Try.f81) (draw_sound _ _) Try.func81 rfl (by kernel_rfl : comp Try.prog 20 _ ref_ends_c = some ref_ends_c) (by kernel_rfl : cRes Try.prog Try.f81.results.toList = some ref_ends_r) hlen h, fun _ h => nomatch h⟩

/-- fustian/fustianref.beginAlike: slots [0 a, 1 b, 2 a, 3 b, 5 n] -/
def ref_beginAlike_c : SCode :=
  (.seq (.ops [⟨(some 4), .mov (.c (.int .i64 0)), none, false, []⟩] none [0, 1])
  (.seq (.ops [⟨(some 5), .mov (.c (.int .i64 0)), none, false, []⟩] none [0, 1, 5])
  (.seq (.block 0 (.loop [0, 1] [5] 0
    (.seq (.seq (.ops [⟨(some 6), .mov (.t 5), none, false, []⟩,
      ⟨(some 7), .mov (.t 0), none, false, []⟩,
      ⟨(some 8), .len true (.t 7), none, false, []⟩,
      ⟨(some 9), .bin .none .lss (.t 6) (.t 8), none, false, []⟩,
      ⟨(some 10), .mov (.t 9), none, true, []⟩,
      ⟨(some 11), .mov (.t 5), (some (10, true)), false, []⟩,
      ⟨(some 12), .mov (.t 1), (some (10, true)), false, []⟩,
      ⟨(some 13), .len true (.t 12), (some (10, true)), false, []⟩,
      ⟨(some 14), .bin .none .lss (.t 11) (.t 13), (some (10, true)), false, []⟩,
      ⟨(some 15), .pick (.t 10) (.t 14) (.c (.bool false)), none, false, []⟩,
      ⟨(some 16), .mov (.t 15), none, true, []⟩,
      ⟨(some 17), .mov (.t 0), (some (16, true)), false, []⟩,
      ⟨(some 18), .mov (.t 5), (some (16, true)), false, []⟩,
      ⟨(some 19), .index 1 none false (.t 17) (.t 18), (some (16, true)), false, []⟩,
      ⟨(some 20), .mov (.t 1), (some (16, true)), false, []⟩,
      ⟨(some 21), .mov (.t 5), (some (16, true)), false, []⟩,
      ⟨(some 22), .index 1 none false (.t 20) (.t 21), (some (16, true)), false, []⟩,
      ⟨(some 23), .bin .none .eql (.t 19) (.t 22), (some (16, true)), false, []⟩,
      ⟨(some 24), .pick (.t 16) (.t 23) (.c (.bool false)), none, false, []⟩] (some (0, 0, [0, 1, 2, 3, 4, 5, 6, 7, 8, 9, 10, 11, 12, 13, 14, 15, 16, 17, 18])) [0, 1, 5, 24])
    (.cond (.t 24)
      .skip
      (.exit 0)))
    (.block 1 (.ops [⟨(some 25), .mov (.t 5), none, false, []⟩,
      ⟨(some 26), .bin .none .add (.t 25) (.c (.int .i64 1)), none, false, []⟩,
      ⟨(some 5), .mov (.t 26), none, false, []⟩] none [0, 1, 5])))))
  (.seq (.ops [⟨(some 27), .mov (.t 5), none, false, []⟩,
    ⟨(some 4), .mov (.t 27), none, false, []⟩] none [4])
  .ret))))
def ref_beginAlike_r : List RRes := [.tmp 4]
def ref_beginAlike_hi : Hi := ⟨[], [(0, "a"), (1, "b"), (2, "a"), (3, "b"), (5, "n")]⟩
def ref_beginAlike_an : An := (.seq .d (.seq .d (.seq (.loop [] [] [] .d) .d)))
def ref_beginAlike_fi : Fi := ⟨28, ref_beginAlike_c, ref_beginAlike_r, ref_beginAlike_an, ref_beginAlike_hi, none⟩
theorem ref_beginAlike_ok : FiOk Try.prog f_ref_beginAlike ref_beginAlike_fi :=
  ⟨by kernel_rfl, fun _ h hlen => fun_sound (fn := Try.f73) (draw_sound _ _) Try.func73 rfl (by kernel_rfl : comp Try.prog 28 _ ref_beginAlike_c = some ref_beginAlike_c) (by kernel_rfl : cRes Try.prog Try.f73.results.toList = some ref_beginAlike_r) hlen h, fun _ h => nomatch h⟩

/-- fustian/fustianref.SuffixCommon: slots [0 text, 1 text, 4 out, 5 l, 6 k, 7 i, 8 n] -/
def ref_SuffixCommon_c : SCode :=
  (.seq (.ops [⟨(some 2), .mov (.c .nils), none, false, []⟩,
    ⟨(some 3), .mov (.c (.int .i64 0)), none, false, []⟩] none [0])
  (.seq (.seq (.ops [⟨(some 9), .mov (.t 0), none, false, []⟩,
    ⟨(some 10), .len true (.t 9), none, false, []⟩,
    ⟨(some 11), .bin .none .gtr (.t 10) (.c (.int .i64 600)), none, false, []⟩] none [0, 11])
  (.cond (.t 11)
    (.seq (.ops [⟨(some 2), .mov (.c .nils), none, false, []⟩,
      ⟨(some 3), .mov (.c (.int .i64 1)), none, false, []⟩] none [2, 3])
    .ret)
    .skip))
  (.seq (.ops [⟨(some 4), .newnil 1, none, false, []⟩] none [0, 4])
  (.seq (.ops [⟨(some 12), .mov (.t 0), none, false, []⟩,
    ⟨(some 13), .call f_ref_ends [(.t 12)], none, false, []⟩,
    ⟨(some 5), .mov (.t 13), none, false, []⟩] none [0, 4, 5])
  (.seq (.seq (.ops [⟨(some 14), .mov (.t 5), none, false, []⟩,
    ⟨(some 15), .len false (.t 14), none, false, []⟩,
    ⟨(some 16), .mov (.c (.int .i64 0)), none, false, []⟩] none [0, 4, 5, 14, 15, 16])
  (.block 0 (.loop [0, 5, 14, 15] [4, 16] 1
    (.seq (.ops [⟨(some 17), .bin .none .lss (.t 16) (.t 15), none, false, []⟩] none [0, 4, 5, 14, 15, 16, 17])
    (.seq (.cond (.t 17)
      .skip
      (.exit 0))
    (.seq (.block 1 (.seq (.ops [⟨(some 18), .mov (.t 16), none, false, []⟩,
      ⟨(some 19), .iaddr 1 none (.t 14) (.t 16), none, false, []⟩,
      ⟨(some 20), .load 1 false (.t 19), none, false, []⟩,
      ⟨(some 6), .mov (.t 18), none, false, []⟩,
      ⟨(some 7), .mov (.t 20), none, false, []⟩] none [0, 4, 5, 6, 7, 14, 15, 16])
    (.seq (.ops [⟨(some 8), .mov (.c (.int .i64 0)), none, false, []⟩] none [0, 4, 5, 6, 7, 8, 14, 15, 16])
    (.join [0, 4, 5, 14, 15, 16] [8] 1 (.seq (.ops [⟨(some 21), .mov (.t 6), none, false, []⟩,
        ⟨(some 22), .bin .none .gtr (.t 21) (.c (.int .i64 0)), none, false, []⟩] none [0, 4, 5, 6, 7, 8, 14, 15, 16, 22])
      (.cond (.t 22)
        (.ops [⟨(some 23), .mov (.t 0), none, false, []⟩,
          ⟨(some 24), .mov (.t 7), none, false, []⟩,
          ⟨(some 25), .slice 0 (.t 23) (some (.t 24)) none, none, false, []⟩,
          ⟨(some 26), .mov (.t 0), none, false, []⟩,
          ⟨(some 27), .mov (.t 5), none, false, []⟩,
          ⟨(some 28), .mov (.t 6), none, false, []⟩,
          ⟨(some 29), .bin .none .sub (.t 28) (.c (.int .i64 1)), none, false, []⟩,
          ⟨(some 30), .iaddr 1 none (.t 27) (.t 29), none, false, []⟩,
          ⟨(some 31), .load 1 false (.t 30), none, false, []⟩,
          ⟨(some 32), .slice 0 (.t 26) (some (.t 31)) none, none, false, []⟩,
          ⟨(some 33), .call f_ref_beginAlike [(.t 25), (.t 32)], none, false, []⟩,
          ⟨(some 8), .mov (.t 33), none, false, []⟩] (some (0, 0, [0, 1, 2, 3, 4, 5, 6, 7, 8, 9, 10, 11])) [0, 4, 5, 8, 14, 15, 16])
        .skip))
    (.ops [⟨(some 34), .mov (.t 4), none, false, []⟩,
      ⟨(some 35), .mov (.t 8), none, false, []⟩,
      ⟨(some 36), .bslice true 1 1 [(.int .i64 0)] [(0, 1, (.t 35))], none, false, []⟩,
      ⟨(some 37), .append 1 8 (.t 34) (.t 36), none, false, []⟩,
      ⟨(some 4), .mov (.t 37), none, false, []⟩] none [0, 4, 5, 14, 15, 16])))))
    (.ops [⟨(some 38), .bin .none .add (.t 16) (.c (.int .i64 1)), none, false, []⟩,
      ⟨(some 16), .mov (.t 38), none, false, []⟩] none [0, 4, 5, 14, 15, 16])))))))
  (.seq (.ops [⟨(some 39), .mov (.t 4), none, false, []⟩,
    ⟨(some 2), .mov (.t 39), none, false, []⟩,
    ⟨(some 3), .mov (.c (.int .i64 0)), none, false, []⟩] none [2, 3])
  .ret))))))
def ref_SuffixCommon_r : List RRes := [.tmp 2, .tmp 3]
def ref_SuffixCommon_hi : Hi := ⟨[(4, (.int .i64)), (36, (.int .i64)), (37, (.int .i64))], [(0, "text"), (1, "text"), (4, "out"), (5, "l"), (6, "k"), (7, "i"), (8, "n")]⟩
def ref_SuffixCommon_an : An := (.seq .d (.seq .d (.seq .d (.seq .d (.seq (.seq .d (.loop [4] [] [] .d)) .d)))))
def ref_SuffixCommon_fi : Fi := ⟨40, ref_SuffixCommon_c, ref_SuffixCommon_r, ref_SuffixCommon_an, ref_SuffixCommon_hi, none⟩
theorem ref_SuffixCommon_ok : FiOk Try.prog f_ref_SuffixCommon ref_SuffixCommon_fi :=
  ⟨by kernel_rfl, fun _ h hlen => fun_sound (fn := Try.f35) (draw_sound _ _) Try.func35 rfl (by kernel_rfl : comp Try.prog 40 _ ref_SuffixCommon_c = some ref_SuffixCommon_c) (by kernel_rfl : cRes Try.prog Try.f35.results.toList = some ref_SuffixCommon_r) hlen h, fun _ h => nomatch h⟩

/-- fustian/fustianref.SuffixUnlike: slots [0 text, 1 text, 4 l, 5 e, 6 n, 7 k, 8 i] -/
def ref_SuffixUnlike_c : SCode :=
  (.seq (.ops [⟨(some 2), .mov (.c (.int .i64 0)), none, false, []⟩,
    ⟨(some 3), .mov (.c (.int .i64 0)), none, false, []⟩] none [0])
  (.seq (.ops [⟨(some 10), .mov (.t 0), none, false, []⟩,
    ⟨(some 11), .call f_ref_SuffixCommon [(.t 10)], none, false, []⟩,
    ⟨(some 9), .mov (.t 11), none, false, []⟩,
    ⟨(some 12), .extract (.t 9) 0, none, false, []⟩,
    ⟨(some 13), .extract (.t 9) 1, none, false, []⟩,
    ⟨(some 4), .mov (.t 12), none, false, []⟩,
    ⟨(some 5), .mov (.t 13), none, false, []⟩] none [0, 4, 5])
  (.seq (.seq (.ops [⟨(some 14), .mov (.t 5), none, false, []⟩,
    ⟨(some 15), .bin .none .neq (.t 14) (.c (.int .i64 0)), none, false, []⟩] none [0, 4, 5, 15])
  (.cond (.t 15)
    (.seq (.ops [⟨(some 16), .mov (.t 5), none, false, []⟩,
      ⟨(some 2), .mov (.c (.int .i64 0)), none, false, []⟩,
      ⟨(some 3), .mov (.t 16), none, false, []⟩] none [2, 3])
    .ret)
    .skip))
  (.seq (.ops [⟨(some 6), .mov (.c (.int .i64 0)), none, false, []⟩] none [0, 4, 6])
  (.seq (.seq (.ops [⟨(some 17), .mov (.t 0), none, false, []⟩,
    ⟨(some 18), .call f_ref_ends [(.t 17)], none, false, []⟩,
    ⟨(some 19), .len false (.t 18), none, false, []⟩,
    ⟨(some 20), .mov (.c (.int .i64 0)), none, false, []⟩] none [0, 4, 6, 18, 19, 20])
  (.block 0 (.loop [0, 4, 18, 19] [6, 20] 0
    (.seq (.ops [⟨(some 21), .bin .none .lss (.t 20) (.t 19), none, false, []⟩] none [0, 4, 6, 18, 19, 20, 21])
    (.seq (.cond (.t 21)
      .skip
      (.exit 0))
    (.seq (.block 1 (.seq (.ops [⟨(some 22), .mov (.t 20), none, false, []⟩,
      ⟨(some 23), .iaddr 1 none (.t 18) (.t 20), none, false, []⟩,
      ⟨(some 24), .load 1 false (.t 23), none, false, []⟩,
      ⟨(some 7), .mov (.t 22), none, false, []⟩,
      ⟨(some 8), .mov (.t 24), none, false, []⟩] none [0, 4, 6, 7, 8, 18, 19, 20])
    (.ops [⟨(some 25), .mov (.t 6), none, false, []⟩,
      ⟨(some 26), .mov (.t 0), none, false, []⟩,
      ⟨(some 27), .len true (.t 26), none, false, []⟩,
      ⟨(some 28), .mov (.t 8), none, false, []⟩,
      ⟨(some 29), .bin .none .sub (.t 27) (.t 28), none, false, []⟩,
      ⟨(some 30), .mov (.t 4), none, false, []⟩,
      ⟨(some 31), .mov (.t 7), none, false, []⟩,
      ⟨(some 32), .iaddr 1 none (.t 30) (.t 31), none, false, []⟩,
      ⟨(some 33), .load 1 false (.t 32), none, false, []⟩,
      ⟨(some 34), .bin .none .sub (.t 29) (.t 33), none, false, []⟩,
      ⟨(some 35), .bin .none .add (.t 25) (.t 34), none, false, []⟩,
      ⟨(some 6), .mov (.t 35), none, false, []⟩] none [0, 4, 6, 18, 19, 20])))
    (.ops [⟨(some 36), .bin .none .add (.t 20) (.c (.int .i64 1)), none, false, []⟩,
      ⟨(some 20), .mov (.t 36), none, false, []⟩] none [0, 4, 6, 18, 19, 20])))))))
  (.seq (.ops [⟨(some 37), .mov (.t 6), none, false, []⟩,
    ⟨(some 2), .mov (.t 37), none, false, []⟩,
    ⟨(some 3), .mov (.c (.int .i64 0)), none, false, []⟩] none [2, 3])
  .ret))))))
def ref_SuffixUnlike_r : List RRes := [.tmp 2, .tmp 3]
def ref_SuffixUnlike_hi : Hi := ⟨[], [(0, "text"), (1, "text"), (4, "l"), (5, "e"), (6, "n"), (7, "k"), (8, "i")]⟩
def ref_SuffixUnlike_an : An := (.seq .d (.seq .d (.seq .d (.seq .d (.seq (.seq .d (.loop [] [] [] .d)) .d)))))
def ref_SuffixUnlike_fi : Fi := ⟨38, ref_SuffixUnlike_c, ref_SuffixUnlike_r, ref_SuffixUnlike_an, ref_SuffixUnlike_hi, none⟩
theorem ref_SuffixUnlike_ok : FiOk Try.prog f_ref_SuffixUnlike ref_SuffixUnlike_fi :=
  ⟨by kernel_rfl, fun _ h hlen => fun_sound (fn := Try.f37) (draw_sound _ _) Try.func37 rfl (by kernel_rfl : comp Try.prog 38 _ ref_SuffixUnlike_c = some ref_SuffixUnlike_c) (by kernel_rfl : cRes Try.prog Try.f37.results.toList = some ref_SuffixUnlike_r) hlen h, fun _ h => nomatch h⟩

/-- fustian/fustianlaw.SuffixUnlikes: slots [0 text, 1 text, 3 x, 4 e, 5 y, 6 f] -/
def law_SuffixUnlikes_c : SCode :=
  (.seq (.ops [⟨(some 2), .mov (.c (.bool false)), none, false, []⟩] none [0])
  (.seq (.ops [⟨(some 8), .mov (.t 0), none, false, []⟩,
    ⟨(some 9), .call f_suffix_Unlike [(.t 8)], none, false, []⟩,
    ⟨(some 7), .mov (.t 9), none, false, []⟩,
    ⟨(some 10), .extract (.t 7) 0, none, false, []⟩,
    ⟨(some 11), .extract (.t 7) 1, none, false, []⟩,
    ⟨(some 3), .mov (.t 10), none, false, []⟩,
    ⟨(some 4), .mov (.t 11), none, false, []⟩] none [0, 3, 4])
  (.seq (.ops [⟨(some 13), .mov (.t 0), none, false, []⟩,
    ⟨(some 14), .call f_ref_SuffixUnlike [(.t 13)], none, false, []⟩,
    ⟨(some 12), .mov (.t 14), none, false, []⟩,
    ⟨(some 15), .extract (.t 12) 0, none, false, []⟩,
    ⟨(some 16), .extract (.t 12) 1, none, false, []⟩,
    ⟨(some 5), .mov (.t 15), none, false, []⟩,
    ⟨(some 6), .mov (.t 16), none, false, []⟩] none [3, 4, 5, 6])
  (.seq (.ops [⟨(some 17), .mov (.t 3), none, false, []⟩,
    ⟨(some 18), .mov (.t 5), none, false, []⟩,
    ⟨(some 19), .bin .none .eql (.t 17) (.t 18), none, false, []⟩,
    ⟨(some 20), .mov (.t 19), none, true, []⟩,
    ⟨(some 21), .mov (.t 4), (some (20, true)), false, []⟩,
    ⟨(some 22), .mov (.t 6), (some (20, true)), false, []⟩,
    ⟨(some 23), .bin .none .eql (.t 21) (.t 22), (some (20, true)), false, []⟩,
    ⟨(some 24), .pick (.t 20) (.t 23) (.c (.bool false)), none, false, []⟩,
    ⟨(some 2), .mov (.t 24), none, false, []⟩] none [2])
  .ret))))
def law_SuffixUnlikes_r : List RRes := [.tmp 2]
def law_SuffixUnlikes_hi : Hi := ⟨[], [(0, "text"), (1, "text"), (3, "x"), (4, "e"), (5, "y"), (6, "f")]⟩
def law_SuffixUnlikes_an : An := .d
def law_SuffixUnlikes_fi : Fi := ⟨25, law_SuffixUnlikes_c, law_SuffixUnlikes_r, law_SuffixUnlikes_an, law_SuffixUnlikes_hi, none⟩
theorem law_SuffixUnlikes_ok : FiOk Try.prog f_law_SuffixUnlikes law_SuffixUnlikes_fi :=
  ⟨by kernel_rfl, fun _ h hlen => fun_sound (fn := Try.f12) (draw_sound _ _) Try.func12 rfl (by kernel_rfl : comp Try.prog 25 _ law_SuffixUnlikes_c = some law_SuffixUnlikes_c) (by kernel_rfl : cRes Try.prog Try.f12.results.toList = some law_SuffixUnlikes_r) hlen h, fun _ h => nomatch h⟩

/-- fustian/suffix.sorted$1: slots [0 i, 4 i] -/
def suffix_sorted_1_c : SCode :=
  (.seq (.ops [⟨(some 5), .mov (.c (.int .i64 0)), none, false, []⟩] none [0, 1, 2, 3])
  (.seq (.seq (.ops [⟨(some 6), .mov (.t 0), none, false, []⟩,
    ⟨(some 7), .load 1 false (.t 1), none, false, []⟩,
    ⟨(some 8), .bin .none .add (.t 6) (.t 7), none, false, []⟩,
    ⟨(some 9), .load 1 false (.t 2), none, false, []⟩,
    ⟨(some 10), .bin .none .lss (.t 8) (.t 9), none, false, []⟩] none [0, 1, 3, 10])
  (.cond (.t 10)
    (.seq (.ops [⟨(some 11), .load 1 false (.t 3), none, false, []⟩,
      ⟨(some 12), .mov (.t 0), none, false, []⟩,
      ⟨(some 13), .load 1 false (.t 1), none, false, []⟩,
      ⟨(some 14), .bin .none .add (.t 12) (.t 13), none, false, []⟩,
      ⟨(some 15), .iaddr 1 none (.t 11) (.t 14), none, false, []⟩,
      ⟨(some 16), .load 1 false (.t 15), none, false, []⟩,
      ⟨(some 5), .mov (.t 16), none, false, []⟩] none [5])
    .ret)
    .skip))
  (.seq (.ops [⟨(some 5), .mov (.c (.int .i64 (-1))), none, false, []⟩] none [5])
  .ret)))
def suffix_sorted_1_r : List RRes := [.tmp 5]
def suffix_sorted_1_hi : Hi := ⟨[], [(0, "i"), (4, "i")]⟩
def suffix_sorted_1_an : An := .d
def suffix_sorted_1_fi : Fi := ⟨17, suffix_sorted_1_c, suffix_sorted_1_r, suffix_sorted_1_an, suffix_sorted_1_hi, none⟩
theorem suffix_sorted_1_ok : FiOk Try.prog f_suffix_sorted_1 suffix_sorted_1_fi :=
  ⟨by kernel_rfl, fun _ h hlen => fun_sound (fn := Try.f105) (draw_sound _ _) Try.func105 rfl (by kernel_rfl : comp Try.prog 17 _ suffix_sorted_1_c = some suffix_sorted_1_c) (by kernel_rfl : cRes Try.prog Try.f105.results.toList = some suffix_sorted_1_r) hlen h, fun _ h => nomatch h⟩

end Go.Proofs.Ytkemhbclkglmbaa
