/- The functions' simplified code, printed by a program of the claim's author; each is checked against the program's own code. Conditions: none. -/
import Derived.Test.YtmpmlnjiolbplaaProg
import Derived.Test.YtmpmlnjiolbplaaVyM
import Derived.Test.YtmpmlnjiolbplaaVx4
set_option linter.unusedVariables false
set_option maxRecDepth 100000
namespace Go.Proofs.Ytmpmlnjiolbplaa.W
open Go.Vc
abbrev f_gosem_cut_init : Nat := 2
abbrev f_law_WordsAlls : Nat := 3
abbrev f_law_WordsUpdates : Nat := 4
abbrev f_words_All : Nat := 5
abbrev f_ref_WordsAll : Nat := 6
abbrev f_ref_SameWords : Nat := 7
abbrev f_words_Update : Nat := 8
abbrev f_ref_WordsUpdate : Nat := 9
abbrev f_words_Of : Nat := 10
abbrev f__words_Table__List : Nat := 11
abbrev f_ref_wordAt : Nat := 12
abbrev f_sort_Slice : Nat := 13
abbrev f_ref_WordsAll_1 : Nat := 14
abbrev f_words_Update_1 : Nat := 15
abbrev f_slices_Equal___int_int_ : Nat := 16
abbrev f_slices_EqualFunc___api_Word___api_Word_api_Word_api_Word_ : Nat := 17
abbrev f_edit_Check : Nat := 18
abbrev f_words_Around : Nat := 19
abbrev f_edit_Made : Nat := 20
abbrev f_words_Each : Nat := 21
abbrev f_words_Update_2 : Nat := 22
abbrev f_slices_Sort___int_int_ : Nat := 23
abbrev f_ref_EditFault : Nat := 24
abbrev f_ref_editMade : Nat := 25
abbrev f_words_Of_1 : Nat := 26
abbrev f_slices_Sorted_string_ : Nat := 27
abbrev f_maps_Keys_words_Table_string___int_ : Nat := 28
abbrev f_slices_Clone___int_int_ : Nat := 29
abbrev f_ref_letter : Nat := 30
abbrev f_math_bits_Len : Nat := 34
abbrev f_sort_pdqsort_func : Nat := 35
abbrev f_words_part : Nat := 36
abbrev f_slices_pdqsortOrdered_int_ : Nat := 37
abbrev f_slices_Collect_string_ : Nat := 38
abbrev f_slices_Sort___string_string_ : Nat := 39
abbrev f_maps_Keys_words_Table_string___int__1 : Nat := 40
abbrev f_internal_reflectlite_Swapper_1 : Nat := 41
abbrev f_internal_reflectlite_Swapper_2 : Nat := 42
abbrev f_internal_reflectlite_Swapper_3 : Nat := 43
abbrev f_internal_reflectlite_Swapper_4 : Nat := 44
abbrev f_internal_reflectlite_Swapper_5 : Nat := 45
abbrev f_internal_reflectlite_Swapper_6 : Nat := 46
abbrev f_internal_reflectlite_Swapper_7 : Nat := 47
abbrev f_internal_reflectlite_Swapper_8 : Nat := 48
abbrev f_internal_reflectlite_Swapper_9 : Nat := 49
abbrev f_math_bits_Len32 : Nat := 50
abbrev f_math_bits_Len64 : Nat := 51
abbrev f_sort_insertionSort_func : Nat := 52
abbrev f_sort_heapSort_func : Nat := 53
abbrev f_sort_breakPatterns_func : Nat := 54
abbrev f_sort_choosePivot_func : Nat := 55
abbrev f_sort_reverseRange_func : Nat := 56
abbrev f_sort_partialInsertionSort_func : Nat := 57
abbrev f_sort_partitionEqual_func : Nat := 58
abbrev f_sort_partition_func : Nat := 59
abbrev f_slices_insertionSortOrdered_int_ : Nat := 60
abbrev f_slices_heapSortOrdered_int_ : Nat := 61
abbrev f_slices_breakPatternsOrdered_int_ : Nat := 62
abbrev f_slices_choosePivotOrdered_int_ : Nat := 63
abbrev f_slices_reverseRangeOrdered_int_ : Nat := 64
abbrev f_slices_partialInsertionSortOrdered_int_ : Nat := 65
abbrev f_cmp_Less_int_ : Nat := 66
abbrev f_slices_partitionEqualOrdered_int_ : Nat := 67
abbrev f_slices_partitionOrdered_int_ : Nat := 68
abbrev f_slices_AppendSeq___string_string_ : Nat := 69
abbrev f_slices_pdqsortOrdered_string_ : Nat := 70
abbrev f_sort_siftDown_func : Nat := 71
abbrev f_sort_nextPowerOfTwo : Nat := 72
abbrev f___sort_xorshift__Next : Nat := 73
abbrev f_sort_medianAdjacent_func : Nat := 74
abbrev f_sort_median_func : Nat := 75
abbrev f_slices_siftDownOrdered_int_ : Nat := 76
abbrev f_slices_nextPowerOfTwo : Nat := 77
abbrev f___slices_xorshift__Next : Nat := 78
abbrev f_slices_medianAdjacentOrdered_int_ : Nat := 79
abbrev f_slices_medianOrdered_int_ : Nat := 80
abbrev f_cmp_isNaN_int_ : Nat := 81
abbrev f_slices_insertionSortOrdered_string_ : Nat := 82
abbrev f_slices_heapSortOrdered_string_ : Nat := 83
abbrev f_slices_breakPatternsOrdered_string_ : Nat := 84
abbrev f_slices_choosePivotOrdered_string_ : Nat := 85
abbrev f_slices_reverseRangeOrdered_string_ : Nat := 86
abbrev f_slices_partialInsertionSortOrdered_string_ : Nat := 87
abbrev f_cmp_Less_string_ : Nat := 88
abbrev f_slices_partitionEqualOrdered_string_ : Nat := 89
abbrev f_slices_partitionOrdered_string_ : Nat := 90
abbrev f_sort_order2_func : Nat := 91
abbrev f_slices_order2Ordered_int_ : Nat := 92
abbrev f_slices_siftDownOrdered_string_ : Nat := 93
abbrev f_slices_medianAdjacentOrdered_string_ : Nat := 94
abbrev f_slices_medianOrdered_string_ : Nat := 95
abbrev f_cmp_isNaN_string_ : Nat := 96
abbrev f_slices_order2Ordered_string_ : Nat := 97

/-- fustian/words.part: slots [0 c, 1 c] -/
def words_part_c : SCode :=
  (.seq (.ops [⟨(some 2), .mov (.c (.bool false)), none, false, []⟩] none [0])
  (.seq (.ops [⟨(some 3), .mov (.t 0), none, false, []⟩,
    ⟨(some 4), .bin .none .geq (.t 3) (.c (.int .u8 97)), none, false, []⟩,
    ⟨(some 5), .mov (.t 4), none, true, []⟩,
    ⟨(some 6), .mov (.t 0), (some (5, true)), false, []⟩,
    ⟨(some 7), .bin .none .leq (.t 6) (.c (.int .u8 122)), (some (5, true)), false, []⟩,
    ⟨(some 8), .pick (.t 5) (.t 7) (.c (.bool false)), none, false, []⟩,
    ⟨(some 9), .mov (.t 8), none, true, []⟩,
    ⟨(some 10), .mov (.t 0), (some (9, false)), false, []⟩,
    ⟨(some 11), .bin .none .geq (.t 10) (.c (.int .u8 65)), (some (9, false)), false, []⟩,
    ⟨(some 12), .mov (.t 11), (some (9, false)), true, []⟩,
    ⟨(some 13), .mov (.t 0), (some (12, true)), false, []⟩,
    ⟨(some 14), .bin .none .leq (.t 13) (.c (.int .u8 90)), (some (12, true)), false, []⟩,
    ⟨(some 15), .pick (.t 12) (.t 14) (.c (.bool false)), (some (9, false)), false, []⟩,
    ⟨(some 16), .pick (.t 9) (.c (.bool true)) (.t 15), none, false, []⟩,
    ⟨(some 17), .mov (.t 16), none, true, []⟩,
    ⟨(some 18), .mov (.t 0), (some (17, false)), false, []⟩,
    ⟨(some 19), .bin .none .geq (.t 18) (.c (.int .u8 48)), (some (17, false)), false, []⟩,
    ⟨(some 20), .mov (.t 19), (some (17, false)), true, []⟩,
    ⟨(some 21), .mov (.t 0), (some (20, true)), false, []⟩,
    ⟨(some 22), .bin .none .leq (.t 21) (.c (.int .u8 57)), (some (20, true)), false, []⟩,
    ⟨(some 23), .pick (.t 20) (.t 22) (.c (.bool false)), (some (17, false)), false, []⟩,
    ⟨(some 24), .pick (.t 17) (.c (.bool true)) (.t 23), none, false, []⟩,
    ⟨(some 2), .mov (.t 24), none, false, []⟩] none [2])
  .ret))
def words_part_r : List RRes := [.tmp 2]
def words_part_hi : Hi := ⟨[], [(0, "c"), (1, "c")]⟩
def words_part_an : An := .d
def words_part_fi : Fi := ⟨25, words_part_c, words_part_r, words_part_an, words_part_hi, none⟩
theorem words_part_ok : FiOk Try.prog f_words_part words_part_fi :=
  ⟨fun _ => by kernel_rfl, fun _ h hlen => fun_sound (by kernel_rfl) (fn := Try.f36) (draw_sound _ _) Try.func36 rfl (by kernel_rfl : comp Try.prog 25 _ words_part_c = some words_part_c) (by kernel_rfl : cRes Try.prog Try.f36.results.toList = some words_part_r) hlen h, fun _ h => nomatch h⟩

/-- fustian/words.Each: slots [0 text, 1 lo, 2 hi, 3 do, 4 text, 5 lo, 6 hi, 7 do, 8 at, 9 from] -/
def words_Each_c : SCode :=
  (.seq (.ops [⟨(some 10), .mov (.t 1), none, false, []⟩,
    ⟨(some 8), .mov (.t 10), none, false, []⟩] none [0, 2, 3, 8])
  (.block 0 (.loop [0, 2, 3] [8] 0
    (.seq (.seq (.ops [⟨(some 11), .mov (.t 8), none, false, []⟩,
      ⟨(some 12), .mov (.t 2), none, false, []⟩,
      ⟨(some 13), .bin .none .lss (.t 11) (.t 12), none, false, []⟩] none [0, 2, 3, 8, 13])
    (.cond (.t 13)
      .skip
      (.exit 0)))
    (.join [0, 2, 3] [8] 0 (.block 1 (.seq (.ops [⟨(some 16), .mov (.t 8), none, false, []⟩,
        ⟨(some 9), .mov (.t 16), none, false, []⟩] none [0, 2, 3, 8, 9])
      (.seq (.block 2 (.loop [0, 2, 3, 9] [8] 0
        (.seq (.seq (.ops [⟨(some 17), .mov (.t 8), none, false, []⟩,
          ⟨(some 18), .mov (.t 2), none, false, []⟩,
          ⟨(some 19), .bin .none .lss (.t 17) (.t 18), none, false, []⟩,
          ⟨(some 20), .mov (.t 19), none, true, []⟩,
          ⟨(some 21), .mov (.t 0), (some (20, true)), false, []⟩,
          ⟨(some 22), .mov (.t 8), (some (20, true)), false, []⟩,
          ⟨(some 23), .index 1 none false (.t 21) (.t 22), (some (20, true)), false, []⟩,
          ⟨(some 24), .call f_words_part [(.t 23)], (some (20, true)), false, []⟩,
          ⟨(some 25), .pick (.t 20) (.t 24) (.c (.bool false)), none, false, []⟩] none [0, 2, 3, 8, 9, 25])
        (.cond (.t 25)
          .skip
          (.exit 2)))
        (.block 3 (.ops [⟨(some 26), .mov (.t 8), none, false, []⟩,
          ⟨(some 27), .bin .none .add (.t 26) (.c (.int .i64 1)), none, false, []⟩,
          ⟨(some 8), .mov (.t 27), none, false, []⟩] none [0, 2, 3, 8, 9])))))
      (.seq (.ops [⟨(some 28), .mov (.t 8), none, false, []⟩,
        ⟨(some 29), .mov (.t 9), none, false, []⟩,
        ⟨(some 30), .bin .none .gtr (.t 28) (.t 29), none, false, []⟩,
        ⟨(some 31), .mov (.t 30), none, true, []⟩,
        ⟨(some 32), .mov (.t 8), (some (31, true)), false, []⟩,
        ⟨(some 33), .mov (.t 9), (some (31, true)), false, []⟩,
        ⟨(some 34), .bin .none .sub (.t 32) (.t 33), (some (31, true)), false, []⟩,
        ⟨(some 35), .bin .none .leq (.t 34) (.c (.int .i64 12)), (some (31, true)), false, []⟩,
        ⟨(some 36), .pick (.t 31) (.t 35) (.c (.bool false)), none, false, []⟩] none [0, 2, 3, 8, 9, 36])
      (.cond (.t 36)
        (.ops [⟨(some 37), .mov (.t 3), none, false, []⟩,
          ⟨(some 38), .mov (.t 0), none, false, []⟩,
          ⟨(some 39), .mov (.t 9), none, false, []⟩,
          ⟨(some 40), .mov (.t 8), none, false, []⟩,
          ⟨(some 41), .slice 0 (.t 38) (some (.t 39)) (some (.t 40)), none, false, []⟩,
          ⟨(some 42), .mov (.t 9), none, false, []⟩,
          ⟨(some 43), .callv (.t 37) [(.t 41), (.t 42)], none, false, []⟩] none [0, 2, 3, 8])
        .skip)))))
    (.ops [⟨(some 14), .mov (.t 8), none, false, []⟩,
      ⟨(some 15), .bin .none .add (.t 14) (.c (.int .i64 1)), none, false, []⟩,
      ⟨(some 8), .mov (.t 15), none, false, []⟩] none [0, 2, 3, 8]))))))
def words_Each_r : List RRes := []
def words_Each_hi : Hi := ⟨[], [(0, "text"), (1, "lo"), (2, "hi"), (3, "do"), (4, "text"), (5, "lo"), (6, "hi"), (7, "do"), (8, "at"), (9, "from")]⟩
def words_Each_an : An := (.seq .d (.loop [3] [] [] (.seq .d (.seq (.seq .d (.seq (.loop [] [] [] .d) .d)) .d))))
def words_Each_fi : Fi := ⟨44, words_Each_c, words_Each_r, words_Each_an, words_Each_hi, none⟩
theorem words_Each_ok : FiOk Try.prog f_words_Each words_Each_fi :=
  ⟨fun _ => by kernel_rfl, fun _ h hlen => fun_sound (by kernel_rfl) (fn := Try.f21) (draw_sound _ _) Try.func21 rfl (by kernel_rfl : comp Try.prog 44 _ words_Each_c = some words_Each_c) (by kernel_rfl : cRes Try.prog Try.f21.results.toList = some words_Each_r) hlen h, fun _ h => nomatch h⟩

/-- fustian/words.Of$1: slots [0 word, 1 at, 3 word, 4 at] -/
def words_Of_1_c : SCode :=
  (.ops [⟨(some 5), .load 1 false (.t 2), none, false, []⟩,
    ⟨(some 6), .mov (.t 0), none, false, []⟩,
    ⟨(some 7), .load 1 false (.t 2), none, false, []⟩,
    ⟨(some 8), .mov (.t 0), none, false, []⟩,
    ⟨(some 9), .mlook .str false .nils (.t 7) (.t 8), none, false, []⟩,
    ⟨(some 10), .mov (.t 1), none, false, []⟩,
    ⟨(some 11), .bslice true 1 1 [(.int .i64 0)] [(0, 1, (.t 10))], none, false, []⟩,
    ⟨(some 12), .append 1 8 (.t 9) (.t 11), none, false, [(5, 1, false, (.t 2))]⟩,
    ⟨none, .again 5 1 false (.t 2), none, false, []⟩,
    ⟨none, .mupd .str (.t 5) (.t 6) (.t 12), none, false, []⟩] (some (0, 0, [0, 1, 2, 3, 4, 5, 6, 7, 8])) [])
def words_Of_1_r : List RRes := []
def words_Of_1_hi : Hi := ⟨[(11, (.int .i64)), (12, (.int .i64))], [(0, "word"), (1, "at"), (3, "word"), (4, "at")]⟩
def words_Of_1_an : An := .d
def words_Of_1_fi : Fi := ⟨13, words_Of_1_c, words_Of_1_r, words_Of_1_an, words_Of_1_hi, none⟩
theorem words_Of_1_ok : FiOk Try.prog f_words_Of_1 words_Of_1_fi :=
  ⟨fun _ => by kernel_rfl, fun _ h hlen => fun_sound (by kernel_rfl) (fn := Try.f26) (draw_sound _ _) Try.func26 rfl (by kernel_rfl : comp Try.prog 13 _ words_Of_1_c = some words_Of_1_c) (by kernel_rfl : cRes Try.prog Try.f26.results.toList = some words_Of_1_r) hlen h, fun _ h => nomatch h⟩

/-- fustian/words.Of: slots [0 text, 1 text, 3 t] -/
def words_Of_c : SCode :=
  (.seq (.ops [⟨(some 2), .mov (.c .nilm), none, false, []⟩] none [0])
  (.seq (.ops [⟨(some 4), .mkmap, none, false, []⟩,
    ⟨(some 3), .alloc 0 [.nilm], none, false, []⟩,
    ⟨none, .store 1 (.t 3) (.t 4), none, false, []⟩] none [0, 3])
  (.seq (.ops [⟨(some 5), .mov (.t 0), none, false, []⟩,
    ⟨(some 6), .mov (.t 0), none, false, []⟩,
    ⟨(some 7), .len true (.t 6), none, false, []⟩,
    ⟨(some 8), .mkfunc (.func f_words_Of_1) [] [(.t 3)], none, false, []⟩,
    ⟨(some 9), .call f_words_Each [(.t 5), (.c (.int .i64 0)), (.t 7), (.t 8)], none, false, []⟩] none [3])
  (.seq (.ops [⟨(some 10), .load 1 false (.t 3), none, false, []⟩,
    ⟨(some 2), .mov (.t 10), none, false, []⟩] none [2])
  .ret))))
def words_Of_r : List RRes := [.tmp 2]
def words_Of_hi : Hi := ⟨[], [(0, "text"), (1, "text"), (3, "t")]⟩
def words_Of_an : An := .d
def words_Of_fi : Fi := ⟨11, words_Of_c, words_Of_r, words_Of_an, words_Of_hi, none⟩
theorem words_Of_ok : FiOk Try.prog f_words_Of words_Of_fi :=
  ⟨fun _ => by kernel_rfl, fun _ h hlen => fun_sound (by kernel_rfl) (fn := Try.f10) (draw_sound _ _) Try.func10 rfl (by kernel_rfl : comp Try.prog 11 _ words_Of_c = some words_Of_c) (by kernel_rfl : cRes Try.prog Try.f10.results.toList = some words_Of_r) hlen h, fun _ h => nomatch h⟩

/-- maps.Keys[fustian/words.Table,string,[]int]$1: slots [0 yield, 2 yield, 3 k] -/
def maps_Keys_words_Table_string___int__1_c : SCode :=
  (.seq (.ops [⟨(some 4), .load 1 false (.t 1), none, false, []⟩,
    ⟨(some 5), .mrange (.t 4), none, false, []⟩] none [0, 5])
  (.block 0 (.loop [0, 5] [] 0
    (.seq (.ops [⟨(some 6), .mnext (.t 5), none, false, []⟩,
      ⟨(some 7), .extract (.t 6) 0, none, false, []⟩] none [0, 5, 7])
    (.seq (.cond (.t 7)
      .skip
      (.exit 0))
    (.block 1 (.seq (.ops [⟨(some 8), .mentry (.t 5), none, false, []⟩,
      ⟨(some 9), .extract (.t 8) 0, none, false, []⟩,
      ⟨(some 3), .mov (.t 9), none, false, []⟩] none [0, 3, 5])
    (.seq (.ops [⟨(some 10), .mov (.t 0), none, false, []⟩,
      ⟨(some 11), .mov (.t 3), none, false, []⟩,
      ⟨(some 12), .callv (.t 10) [(.t 11)], none, false, []⟩,
      ⟨(some 13), .not (.t 12), none, false, []⟩] none [0, 5, 13])
    (.cond (.t 13)
      .ret
      .skip)))))))))
def maps_Keys_words_Table_string___int__1_r : List RRes := []
def maps_Keys_words_Table_string___int__1_hi : Hi := ⟨[], [(0, "yield"), (2, "yield"), (3, "k")]⟩
def maps_Keys_words_Table_string___int__1_an : An := (.seq .d (.loop [0] [] [] .d))
def maps_Keys_words_Table_string___int__1_fi : Fi := ⟨14, maps_Keys_words_Table_string___int__1_c, maps_Keys_words_Table_string___int__1_r, maps_Keys_words_Table_string___int__1_an, maps_Keys_words_Table_string___int__1_hi, none⟩
theorem maps_Keys_words_Table_string___int__1_ok : FiOk Try.prog f_maps_Keys_words_Table_string___int__1 maps_Keys_words_Table_string___int__1_fi :=
  ⟨fun _ => by kernel_rfl, fun _ h hlen => fun_sound (by kernel_rfl) (fn := Try.f40) (draw_sound _ _) Try.func40 rfl (by kernel_rfl : comp Try.prog 14 _ maps_Keys_words_Table_string___int__1_c = some maps_Keys_words_Table_string___int__1_c) (by kernel_rfl : cRes Try.prog Try.f40.results.toList = some maps_Keys_words_Table_string___int__1_r) hlen h, fun _ h => nomatch h⟩

/-- maps.Keys[fustian/words.Table,string,[]int]: slots [0 m, 1 m] -/
def maps_Keys_words_Table_string___int__c : SCode :=
  (.seq (.ops [⟨(some 1), .box 0 (.t 0), none, false, []⟩,
    ⟨(some 2), .mov (.c .nilf), none, false, []⟩] none [1])
  (.seq (.ops [⟨(some 3), .mkfunc (.func f_maps_Keys_words_Table_string___int__1) [] [(.t 1)], none, false, []⟩,
    ⟨(some 2), .mov (.t 3), none, false, []⟩] none [2])
  .ret))
def maps_Keys_words_Table_string___int__r : List RRes := [.tmp 2]
def maps_Keys_words_Table_string___int__hi : Hi := ⟨[], [(0, "m"), (1, "m")]⟩
def maps_Keys_words_Table_string___int__an : An := .d
def maps_Keys_words_Table_string___int__fi : Fi := ⟨4, maps_Keys_words_Table_string___int__c, maps_Keys_words_Table_string___int__r, maps_Keys_words_Table_string___int__an, maps_Keys_words_Table_string___int__hi, none⟩
theorem maps_Keys_words_Table_string___int__ok : FiOk Try.prog f_maps_Keys_words_Table_string___int_ maps_Keys_words_Table_string___int__fi :=
  ⟨fun _ => by kernel_rfl, fun _ h hlen => fun_sound (by kernel_rfl) (fn := Try.f28) (draw_sound _ _) Try.func28 rfl (by kernel_rfl : comp Try.prog 4 _ maps_Keys_words_Table_string___int__c = some maps_Keys_words_Table_string___int__c) (by kernel_rfl : cRes Try.prog Try.f28.results.toList = some maps_Keys_words_Table_string___int__r) hlen h, fun _ h => nomatch h⟩

/-- slices.AppendSeq[[]string,string]: slots [0 s, 1 seq, 2 s, 3 seq, 5 v] -/
def slices_AppendSeq___string_string__c : RCode :=
  (.seqR (.ops [⟨(some 2), .box 0 (.t 0), none, false, []⟩,
    ⟨(some 4), .mov (.c .nils), none, false, []⟩] none [1, 2])
  (.seqL (.seqR (.ops [⟨(some 6), .mov (.t 1), none, false, []⟩] none [2, 6])
  (.block 0 (.rfun (.t 6) [7] (.ops [⟨(some 5), .mov (.t 7), none, false, []⟩] none [2, 5])
  (.block 1 (.ops [⟨(some 8), .load 1 false (.t 2), none, false, []⟩,
    ⟨(some 9), .mov (.t 5), none, false, []⟩,
    ⟨(some 10), .bslice true 1 1 [(.str [])] [(0, 1, (.t 9))], none, false, []⟩,
    ⟨(some 11), .append 1 16 (.t 8) (.t 10), none, false, []⟩,
    ⟨none, .store 1 (.t 2) (.t 11), none, false, []⟩] none [])))))
  (.seq (.ops [⟨(some 12), .load 1 false (.t 2), none, false, []⟩,
    ⟨(some 4), .mov (.t 12), none, false, []⟩] none [4])
  .ret)))
def slices_AppendSeq___string_string__r : List RRes := [.tmp 4]
theorem slices_AppendSeq___string_string__ok : FlOk Try.prog f_slices_AppendSeq___string_string_ 13 slices_AppendSeq___string_string__c slices_AppendSeq___string_string__r :=
  ⟨by kernel_rfl, fun hl h => fun_soundL (by kernel_rfl) (fn := Try.f69) (draw_sound _ _) Try.func69 rfl (by kernel_rfl : compL Try.prog 13 slices_AppendSeq___string_string__c _ = some slices_AppendSeq___string_string__c) (by kernel_rfl : cRes Try.prog Try.f69.results.toList = some slices_AppendSeq___string_string__r) hl h⟩

/-- slices.Collect[string]: slots [0 seq, 1 seq] -/
def slices_Collect_string__c : SCode :=
  (.seq (.ops [⟨(some 2), .mov (.c .nils), none, false, []⟩] none [0])
  (.seq (.ops [⟨(some 3), .mov (.t 0), none, false, []⟩,
    ⟨(some 4), .call f_slices_AppendSeq___string_string_ [(.c .nils), (.t 3)], none, false, []⟩,
    ⟨(some 2), .mov (.t 4), none, false, []⟩] none [2])
  .ret))
def slices_Collect_string__r : List RRes := [.tmp 2]
def slices_Collect_string__hi : Hi := ⟨[], [(0, "seq"), (1, "seq")]⟩
def slices_Collect_string__an : An := .d
def slices_Collect_string__fi : Fi := ⟨5, slices_Collect_string__c, slices_Collect_string__r, slices_Collect_string__an, slices_Collect_string__hi, none⟩
theorem slices_Collect_string__ok : FiOk Try.prog f_slices_Collect_string_ slices_Collect_string__fi :=
  ⟨fun _ => by kernel_rfl, fun _ h hlen => fun_sound (by kernel_rfl) (fn := Try.f38) (draw_sound _ _) Try.func38 rfl (by kernel_rfl : comp Try.prog 5 _ slices_Collect_string__c = some slices_Collect_string__c) (by kernel_rfl : cRes Try.prog Try.f38.results.toList = some slices_Collect_string__r) hlen h, fun _ h => nomatch h⟩

/-- slices.Sorted[string]: slots [0 seq, 1 seq, 3 s] -/
def slices_Sorted_string__c : SCode :=
  (.seq (.ops [⟨(some 2), .mov (.c .nils), none, false, []⟩] none [0])
  (.seq (.ops [⟨(some 4), .mov (.t 0), none, false, []⟩,
    ⟨(some 5), .call f_slices_Collect_string_ [(.t 4)], none, false, []⟩,
    ⟨(some 3), .mov (.t 5), none, false, []⟩] none [3])
  (.seq (.ops [⟨(some 6), .mov (.t 3), none, false, []⟩,
    ⟨(some 7), .call f_slices_Sort___string_string_ [(.t 6)], none, false, []⟩] none [3])
  (.seq (.ops [⟨(some 8), .mov (.t 3), none, false, []⟩,
    ⟨(some 2), .mov (.t 8), none, false, []⟩] none [2])
  .ret))))
def slices_Sorted_string__r : List RRes := [.tmp 2]
def slices_Sorted_string__hi : Hi := ⟨[], [(0, "seq"), (1, "seq"), (3, "s")]⟩
def slices_Sorted_string__an : An := .d
def slices_Sorted_string__fi : Fi := ⟨9, slices_Sorted_string__c, slices_Sorted_string__r, slices_Sorted_string__an, slices_Sorted_string__hi, none⟩
theorem slices_Sorted_string__ok : FiOk Try.prog f_slices_Sorted_string_ slices_Sorted_string__fi :=
  ⟨fun _ => by kernel_rfl, fun _ h hlen => fun_sound (by kernel_rfl) (fn := Try.f27) (draw_sound _ _) Try.func27 rfl (by kernel_rfl : comp Try.prog 9 _ slices_Sorted_string__c = some slices_Sorted_string__c) (by kernel_rfl : cRes Try.prog Try.f27.results.toList = some slices_Sorted_string__r) hlen h, fun _ h => nomatch h⟩

/-- slices.Clone[[]int,int]: slots [0 s, 1 s] -/
def slices_Clone___int_int__c : SCode :=
  (.seq (.ops [⟨(some 2), .mov (.c .nils), none, false, []⟩] none [0])
  (.seq (.seq (.ops [⟨(some 3), .mov (.t 0), none, false, []⟩,
    ⟨(some 4), .isnil false (.t 3), none, false, []⟩] none [0, 4])
  (.cond (.t 4)
    (.seq (.ops [⟨(some 2), .mov (.c .nils), none, false, []⟩] none [2])
    .ret)
    .skip))
  (.seq (.ops [⟨(some 5), .bslice false 0 1 [] [], none, false, []⟩,
    ⟨(some 6), .mov (.t 0), none, false, []⟩,
    ⟨(some 7), .append 1 8 (.t 5) (.t 6), none, false, []⟩,
    ⟨(some 2), .mov (.t 7), none, false, []⟩] none [2])
  .ret)))
def slices_Clone___int_int__r : List RRes := [.tmp 2]
def slices_Clone___int_int__hi : Hi := ⟨[(5, (.int .i64)), (7, (.int .i64))], [(0, "s"), (1, "s")]⟩
def slices_Clone___int_int__an : An := .d
def slices_Clone___int_int__fi : Fi := ⟨8, slices_Clone___int_int__c, slices_Clone___int_int__r, slices_Clone___int_int__an, slices_Clone___int_int__hi, none⟩
theorem slices_Clone___int_int__ok : FiOk Try.prog f_slices_Clone___int_int_ slices_Clone___int_int__fi :=
  ⟨fun _ => by kernel_rfl, fun _ h hlen => fun_sound (by kernel_rfl) (fn := Try.f29) (draw_sound _ _) Try.func29 rfl (by kernel_rfl : comp Try.prog 8 _ slices_Clone___int_int__c = some slices_Clone___int_int__c) (by kernel_rfl : cRes Try.prog Try.f29.results.toList = some slices_Clone___int_int__r) hlen h, fun _ h => nomatch h⟩

/-- (fustian/words.Table).List: slots [0 t, 1 t, 3 out, 4 _, 5 w] -/
def _words_Table__List_c : SCode :=
  (.seq (.ops [⟨(some 2), .mov (.c .nils), none, false, []⟩] none [0])
  (.seq (.ops [⟨(some 3), .newnil 2, none, false, []⟩] none [0, 3])
  (.seq (.seq (.ops [⟨(some 6), .mov (.t 0), none, false, []⟩,
    ⟨(some 7), .call f_maps_Keys_words_Table_string___int_ [(.t 6)], none, false, []⟩,
    ⟨(some 8), .call f_slices_Sorted_string_ [(.t 7)], none, false, []⟩,
    ⟨(some 9), .len false (.t 8), none, false, []⟩,
    ⟨(some 10), .mov (.c (.int .i64 0)), none, false, []⟩] none [0, 3, 8, 9, 10])
  (.block 0 (.loop [0, 8, 9] [3, 10] 1
    (.seq (.ops [⟨(some 11), .bin .none .lss (.t 10) (.t 9), none, false, []⟩] none [0, 3, 8, 9, 10, 11])
    (.seq (.cond (.t 11)
      .skip
      (.exit 0))
    (.seq (.block 1 (.seq (.ops [⟨(some 12), .iaddr 1 none (.t 8) (.t 10), none, false, []⟩,
      ⟨(some 13), .load 1 false (.t 12), none, false, []⟩,
      ⟨(some 5), .mov (.t 13), none, false, []⟩] none [0, 3, 5, 8, 9, 10])
    (.ops [⟨(some 14), .mov (.t 3), none, false, []⟩,
      ⟨(some 15), .mov (.t 5), none, false, []⟩,
      ⟨(some 16), .mov (.t 0), none, false, []⟩,
      ⟨(some 17), .mov (.t 5), none, false, []⟩,
      ⟨(some 18), .mlook .str false .nils (.t 16) (.t 17), none, false, []⟩,
      ⟨(some 19), .call f_slices_Clone___int_int_ [(.t 18)], none, false, []⟩,
      ⟨(some 20), .build [(.str []), .nils] [(0, 1, (.t 15)), (1, 1, (.t 19))], none, false, []⟩,
      ⟨(some 21), .bslice true 1 2 [(.str []), .nils] [(0, 2, (.t 20))], none, false, []⟩,
      ⟨(some 22), .append 2 40 (.t 14) (.t 21), none, false, []⟩,
      ⟨(some 3), .mov (.t 22), none, false, []⟩] none [0, 3, 8, 9, 10])))
    (.ops [⟨(some 23), .bin .none .add (.t 10) (.c (.int .i64 1)), none, false, []⟩,
      ⟨(some 10), .mov (.t 23), none, false, []⟩] none [0, 3, 8, 9, 10])))))))
  (.seq (.ops [⟨(some 24), .mov (.t 3), none, false, []⟩,
    ⟨(some 2), .mov (.t 24), none, false, []⟩] none [2])
  .ret))))
def _words_Table__List_r : List RRes := [.tmp 2]
def _words_Table__List_hi : Hi := ⟨[(3, (.st (.cons .str (.cons (.sl (.int .i64)) .nil)))), (21, (.st (.cons .str (.cons (.sl (.int .i64)) .nil)))), (22, (.st (.cons .str (.cons (.sl (.int .i64)) .nil))))], [(0, "t"), (1, "t"), (3, "out"), (5, "w")]⟩
def _words_Table__List_an : An := (.seq .d (.seq .d (.seq (.seq .d (.loop [3] [] [] .d)) .d)))
def _words_Table__List_fi : Fi := ⟨25, _words_Table__List_c, _words_Table__List_r, _words_Table__List_an, _words_Table__List_hi, none⟩
theorem _words_Table__List_ok : FiOk Try.prog f__words_Table__List _words_Table__List_fi :=
  ⟨fun _ => by kernel_rfl, fun _ h hlen => fun_sound (by kernel_rfl) (fn := Try.f11) (draw_sound _ _) Try.func11 rfl (by kernel_rfl : comp Try.prog 25 _ _words_Table__List_c = some _words_Table__List_c) (by kernel_rfl : cRes Try.prog Try.f11.results.toList = some _words_Table__List_r) hlen h, fun _ h => nomatch h⟩

/-- fustian/words.All: slots [0 text, 1 text] -/
def words_All_c : SCode :=
  (.seq (.ops [⟨(some 2), .mov (.c .nils), none, false, []⟩,
    ⟨(some 3), .mov (.c (.int .i64 0)), none, false, []⟩] none [0])
  (.seq (.seq (.ops [⟨(some 4), .mov (.t 0), none, false, []⟩,
    ⟨(some 5), .len true (.t 4), none, false, []⟩,
    ⟨(some 6), .bin .none .gtr (.t 5) (.c (.int .i64 600)), none, false, []⟩] none [0, 6])
  (.cond (.t 6)
    (.seq (.ops [⟨(some 2), .mov (.c .nils), none, false, []⟩,
      ⟨(some 3), .mov (.c (.int .i64 1)), none, false, []⟩] none [2, 3])
    .ret)
    .skip))
  (.seq (.ops [⟨(some 7), .mov (.t 0), none, false, []⟩,
    ⟨(some 8), .call f_words_Of [(.t 7)], none, false, []⟩,
    ⟨(some 9), .call f__words_Table__List [(.t 8)], none, false, []⟩,
    ⟨(some 2), .mov (.t 9), none, false, []⟩,
    ⟨(some 3), .mov (.c (.int .i64 0)), none, false, []⟩] none [2, 3])
  .ret)))
def words_All_r : List RRes := [.tmp 2, .tmp 3]
def words_All_hi : Hi := ⟨[], [(0, "text"), (1, "text")]⟩
def words_All_an : An := .d
def words_All_fi : Fi := ⟨10, words_All_c, words_All_r, words_All_an, words_All_hi, none⟩
theorem words_All_ok : FiOk Try.prog f_words_All words_All_fi :=
  ⟨fun _ => by kernel_rfl, fun _ h hlen => fun_sound (by kernel_rfl) (fn := Try.f5) (draw_sound _ _) Try.func5 rfl (by kernel_rfl : comp Try.prog 10 _ words_All_c = some words_All_c) (by kernel_rfl : cRes Try.prog Try.f5.results.toList = some words_All_r) hlen h, fun _ h => nomatch h⟩

end Go.Proofs.Ytmpmlnjiolbplaa.W
