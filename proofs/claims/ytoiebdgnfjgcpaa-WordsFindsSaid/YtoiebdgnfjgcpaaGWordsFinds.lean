/- The functions' simplified code, printed by a program of the claim's author; each is checked against the program's own code. Conditions: none. -/
import Derived.Test.YtoiebdgnfjgcpaaProg
import Derived.Test.YtoiebdgnfjgcpaaVyM
set_option linter.unusedVariables false
set_option maxRecDepth 100000
namespace Go.Proofs.Ytoiebdgnfjgcpaa
open Go.Vc
abbrev f_gosem_cut_init : Nat := 2
abbrev f_law_WordsFinds : Nat := 3
abbrev f_law_MarksOrders : Nat := 4
abbrev f_law_SuffixFinds : Nat := 5
abbrev f_words_Find : Nat := 6
abbrev f_ref_WordsFind : Nat := 7
abbrev f_law_sameInts : Nat := 8
abbrev f_marks_Order : Nat := 9
abbrev f_ref_MarksOrder : Nat := 10
abbrev f_suffix_Find : Nat := 11
abbrev f_ref_FindAll : Nat := 12
abbrev f_words_Noted : Nat := 13
abbrev f_words_Of : Nat := 14
abbrev f_ref_wordAt : Nat := 15
abbrev f_slices_SortStableFunc___int_int_ : Nat := 16
abbrev f_marks_Order_1 : Nat := 17
abbrev f_cmp_Or_int_ : Nat := 18
abbrev f_cmp_Compare_int_ : Nat := 19
abbrev f_suffix_sorted : Nat := 20
abbrev f_sort_Search : Nat := 21
abbrev f_suffix_Find_1 : Nat := 22
abbrev f_strings_HasPrefix : Nat := 23
abbrev f_slices_Sorted_int_ : Nat := 24
abbrev f_slices_Values___int_int_ : Nat := 25
abbrev f_ref_findFault : Nat := 26
abbrev f_ref_standsAt : Nat := 27
abbrev f_words_part : Nat := 28
abbrev f_words_Each : Nat := 29
abbrev f_words_Of_1 : Nat := 30
abbrev f_ref_letter : Nat := 31
abbrev f_slices_stableCmpFunc_int_ : Nat := 32
abbrev f_cmp_isNaN_int_ : Nat := 33
abbrev f_suffix_sorted_1 : Nat := 34
abbrev f_suffix_sorted_2 : Nat := 35
abbrev f_slices_SortFunc___int_int_ : Nat := 36
abbrev f_internal_stringslite_HasPrefix : Nat := 37
abbrev f_slices_Collect_int_ : Nat := 38
abbrev f_slices_Sort___int_int_ : Nat := 39
abbrev f_slices_Values___int_int__1 : Nat := 40
abbrev f_slices_insertionSortCmpFunc_int_ : Nat := 41
abbrev f_slices_symMergeCmpFunc_int_ : Nat := 42
abbrev f_slices_pdqsortCmpFunc_int_ : Nat := 43
abbrev f_math_bits_Len : Nat := 44
abbrev f_slices_AppendSeq___int_int_ : Nat := 45
abbrev f_slices_pdqsortOrdered_int_ : Nat := 46
abbrev f_slices_rotateCmpFunc_int_ : Nat := 47
abbrev f_slices_heapSortCmpFunc_int_ : Nat := 48
abbrev f_slices_breakPatternsCmpFunc_int_ : Nat := 49
abbrev f_slices_choosePivotCmpFunc_int_ : Nat := 50
abbrev f_slices_reverseRangeCmpFunc_int_ : Nat := 51
abbrev f_slices_partialInsertionSortCmpFunc_int_ : Nat := 52
abbrev f_slices_partitionEqualCmpFunc_int_ : Nat := 53
abbrev f_slices_partitionCmpFunc_int_ : Nat := 54
abbrev f_math_bits_Len32 : Nat := 55
abbrev f_math_bits_Len64 : Nat := 56
abbrev f_slices_insertionSortOrdered_int_ : Nat := 57
abbrev f_slices_heapSortOrdered_int_ : Nat := 58
abbrev f_slices_breakPatternsOrdered_int_ : Nat := 59
abbrev f_slices_choosePivotOrdered_int_ : Nat := 60
abbrev f_slices_reverseRangeOrdered_int_ : Nat := 61
abbrev f_slices_partialInsertionSortOrdered_int_ : Nat := 62
abbrev f_cmp_Less_int_ : Nat := 63
abbrev f_slices_partitionEqualOrdered_int_ : Nat := 64
abbrev f_slices_partitionOrdered_int_ : Nat := 65
abbrev f_slices_swapRangeCmpFunc_int_ : Nat := 66
abbrev f_slices_siftDownCmpFunc_int_ : Nat := 67
abbrev f_slices_nextPowerOfTwo : Nat := 68
abbrev f___slices_xorshift__Next : Nat := 69
abbrev f_slices_medianAdjacentCmpFunc_int_ : Nat := 70
abbrev f_slices_medianCmpFunc_int_ : Nat := 71
abbrev f_slices_siftDownOrdered_int_ : Nat := 72
abbrev f_slices_medianAdjacentOrdered_int_ : Nat := 73
abbrev f_slices_medianOrdered_int_ : Nat := 74
abbrev f_slices_order2CmpFunc_int_ : Nat := 75
abbrev f_slices_order2Ordered_int_ : Nat := 76

/-- fustian/words.part: slots [0 c, 1 c] -/
def words_part_c : SCode :=
  (.seq (.ops [⟨(some 2), .mov (.c (.bool false)), none, false, []⟩] none [0])
  (.seq (.ops [⟨(some 3), .mov (.t 0), none, false, []⟩,
    ⟨(some 4), .bin .none .geq (.t 3) (.c (.int .u8 97)), none, false, []⟩,
    ⟨(some 5), .mov (.t 4), none, true, []⟩,
    ⟨(some 6), .mov (.t 0), (some (5, true)), false, []⟩,
    ⟨(some 7), .bin .none .leq (.t 6) (.c (.int .u8 122)), (some (5, true)), false, []⟩,
    ⟨(some 8), .pick (.t 5) (.t 7) (.c (.bool false)), none, false, []⟩,
    ⟨(some 9), .mov (.t 8), none, true, []⟩,
    ⟨(some 10), .mov (.t 0), (some (9, false)), false, []⟩,
    ⟨(some 11), .bin .none .geq (.t 10) (.c (.int .u8 65)), (some (9, false)), false, []⟩,
    ⟨(some 12), .mov (.t 11), (some (9, false)), true, []⟩,
    ⟨(some 13), .mov (.t 0), (some (12, true)), false, []⟩,
    ⟨(some 14), .bin .none .leq (.t 13) (.c (.int .u8 90)), (some (12, true)), false, []⟩,
    ⟨(some 15), .pick (.t 12) (.t 14) (.c (.bool false)), (some (9, false)), false, []⟩,
    ⟨(some 16), .pick (.t 9) (.c (.bool true)) (.t 15), none, false, []⟩,
    ⟨(some 17), .mov (.t 16), none, true, []⟩,
    ⟨(some 18), .mov (.t 0), (some (17, false)), false, []⟩,
    ⟨(some 19), .bin .none .geq (.t 18) (.c (.int .u8 48)), (some (17, false)), false, []⟩,
    ⟨(some 20), .mov (.t 19), (some (17, false)), true, []⟩,
    ⟨(some 21), .mov (.t 0), (some (20, true)), false, []⟩,
    ⟨(some 22), .bin .none .leq (.t 21) (.c (.int .u8 57)), (some (20, true)), false, []⟩,
    ⟨(some 23), .pick (.t 20) (.t 22) (.c (.bool false)), (some (17, false)), false, []⟩,
    ⟨(some 24), .pick (.t 17) (.c (.bool true)) (.t 23), none, false, []⟩,
    ⟨(some 2), .mov (.t 24), none, false, []⟩] none [2])
  .ret))
def words_part_r : List RRes := [.tmp 2]
def words_part_hi : Hi := ⟨[], [(0, "c"), (1, "c")]⟩
def words_part_an : An := .d
def words_part_fi : Fi := ⟨25, words_part_c, words_part_r, words_part_an, words_part_hi, none⟩
theorem words_part_ok : FiOk Try.prog f_words_part words_part_fi :=
  ⟨fun _ => by kernel_rfl, fun _ h hlen => fun_sound (by kernel_rfl) (fn := Try.f28) (draw_sound _ _) Try.func28 rfl (by kernel_rfl : comp Try.prog 25 _ words_part_c = some words_part_c) (by kernel_rfl : cRes Try.prog Try.f28.results.toList = some words_part_r) hlen h, fun _ h => nomatch h⟩

/-- fustian/words.Noted: slots [0 word, 1 word, 3 i] -/
def words_Noted_c : SCode :=
  (.seq (.ops [⟨(some 2), .mov (.c (.bool false)), none, false, []⟩] none [0])
  (.seq (.seq (.ops [⟨(some 4), .mov (.t 0), none, false, []⟩,
    ⟨(some 5), .len true (.t 4), none, false, []⟩,
    ⟨(some 6), .mov (.c (.int .i64 0)), none, false, []⟩] none [0, 5, 6])
  (.block 0 (.loop [0, 5] [6] 0
    (.seq (.ops [⟨(some 7), .bin .none .lss (.t 6) (.t 5), none, false, []⟩] none [0, 5, 6, 7])
    (.seq (.cond (.t 7)
      .skip
      (.exit 0))
    (.seq (.block 1 (.seq (.ops [⟨(some 8), .mov (.t 6), none, false, []⟩,
      ⟨(some 3), .mov (.t 8), none, false, []⟩] none [0, 3, 5, 6])
    (.seq (.ops [⟨(some 9), .mov (.t 0), none, false, []⟩,
      ⟨(some 10), .mov (.t 3), none, false, []⟩,
      ⟨(some 11), .index 1 none false (.t 9) (.t 10), none, false, []⟩,
      ⟨(some 12), .call f_words_part [(.t 11)], none, false, []⟩,
      ⟨(some 13), .not (.t 12), none, false, []⟩] none [0, 5, 6, 13])
    (.cond (.t 13)
      (.seq (.ops [⟨(some 2), .mov (.c (.bool false)), none, false, []⟩] none [2])
      .ret)
      .skip))))
    (.ops [⟨(some 14), .bin .none .add (.t 6) (.c (.int .i64 1)), none, false, []⟩,
      ⟨(some 6), .mov (.t 14), none, false, []⟩] none [0, 5, 6])))))))
  (.seq (.ops [⟨(some 15), .mov (.t 0), none, false, []⟩,
    ⟨(some 16), .bin .none .neq (.t 15) (.c (.str [])), none, false, []⟩,
    ⟨(some 17), .mov (.t 16), none, true, []⟩,
    ⟨(some 18), .mov (.t 0), (some (17, true)), false, []⟩,
    ⟨(some 19), .len true (.t 18), (some (17, true)), false, []⟩,
    ⟨(some 20), .bin .none .leq (.t 19) (.c (.int .i64 12)), (some (17, true)), false, []⟩,
    ⟨(some 21), .pick (.t 17) (.t 20) (.c (.bool false)), none, false, []⟩,
    ⟨(some 2), .mov (.t 21), none, false, []⟩] none [2])
  .ret)))
def words_Noted_r : List RRes := [.tmp 2]
def words_Noted_hi : Hi := ⟨[], [(0, "word"), (1, "word"), (3, "i")]⟩
def words_Noted_an : An := (.seq .d (.seq (.seq .d (.loop [] [] [] .d)) .d))
def words_Noted_fi : Fi := ⟨22, words_Noted_c, words_Noted_r, words_Noted_an, words_Noted_hi, none⟩
theorem words_Noted_ok : FiOk Try.prog f_words_Noted words_Noted_fi :=
  ⟨fun _ => by kernel_rfl, fun _ h hlen => fun_sound (by kernel_rfl) (fn := Try.f13) (draw_sound _ _) Try.func13 rfl (by kernel_rfl : comp Try.prog 22 _ words_Noted_c = some words_Noted_c) (by kernel_rfl : cRes Try.prog Try.f13.results.toList = some words_Noted_r) hlen h, fun _ h => nomatch h⟩

/-- fustian/fustianref.letter: slots [0 c, 1 c] -/
def ref_letter_c : SCode :=
  (.seq (.ops [⟨(some 2), .mov (.c (.bool false)), none, false, []⟩] none [0])
  (.seq (.ops [⟨(some 3), .mov (.t 0), none, false, []⟩,
    ⟨(some 4), .bin .none .leq (.c (.int .u8 97)) (.t 3), none, false, []⟩,
    ⟨(some 5), .mov (.t 4), none, true, []⟩,
    ⟨(some 6), .mov (.t 0), (some (5, true)), false, []⟩,
    ⟨(some 7), .bin .none .leq (.t 6) (.c (.int .u8 122)), (some (5, true)), false, []⟩,
    ⟨(some 8), .pick (.t 5) (.t 7) (.c (.bool false)), none, false, []⟩,
    ⟨(some 9), .mov (.t 8), none, true, []⟩,
    ⟨(some 10), .mov (.t 0), (some (9, false)), false, []⟩,
    ⟨(some 11), .bin .none .leq (.c (.int .u8 65)) (.t 10), (some (9, false)), false, []⟩,
    ⟨(some 12), .mov (.t 11), (some (9, false)), true, []⟩,
    ⟨(some 13), .mov (.t 0), (some (12, true)), false, []⟩,
    ⟨(some 14), .bin .none .leq (.t 13) (.c (.int .u8 90)), (some (12, true)), false, []⟩,
    ⟨(some 15), .pick (.t 12) (.t 14) (.c (.bool false)), (some (9, false)), false, []⟩,
    ⟨(some 16), .pick (.t 9) (.c (.bool true)) (.t 15), none, false, []⟩,
    ⟨(some 17), .mov (.t 16), none, true, []⟩,
    ⟨(some 18), .mov (.t 0), (some (17, false)), false, []⟩,
    ⟨(some 19), .bin .none .leq (.c (.int .u8 48)) (.t 18), (some (17, false)), false, []⟩,
    ⟨(some 20), .mov (.t 19), (some (17, false)), true, []⟩,
    ⟨(some 21), .mov (.t 0), (some (20, true)), false, []⟩,
    ⟨(some 22), .bin .none .leq (.t 21) (.c (.int .u8 57)), (some (20, true)), false, []⟩,
    ⟨(some 23), .pick (.t 20) (.t 22) (.c (.bool false)), (some (17, false)), false, []⟩,
    ⟨(some 24), .pick (.t 17) (.c (.bool true)) (.t 23), none, false, []⟩,
    ⟨(some 2), .mov (.t 24), none, false, []⟩] none [2])
  .ret))
def ref_letter_r : List RRes := [.tmp 2]
def ref_letter_hi : Hi := ⟨[], [(0, "c"), (1, "c")]⟩
def ref_letter_an : An := .d
def ref_letter_fi : Fi := ⟨25, ref_letter_c, ref_letter_r, ref_letter_an, ref_letter_hi, none⟩
theorem ref_letter_ok : FiOk Try.prog f_ref_letter ref_letter_fi :=
  ⟨fun _ => by kernel_rfl, fun _ h hlen => fun_sound (by kernel_rfl) (fn := Try.f31) (draw_sound _ _) Try.func31 rfl (by kernel_rfl : comp Try.prog 25 _ ref_letter_c = some ref_letter_c) (by kernel_rfl : cRes Try.prog Try.f31.results.toList = some ref_letter_r) hlen h, fun _ h => nomatch h⟩

/-- fustian/fustianref.wordAt: slots [0 text, 1 at, 2 text, 3 at, 5 end] -/
def ref_wordAt_c : SCode :=
  (.seq (.ops [⟨(some 4), .mov (.c (.str [])), none, false, []⟩] none [0, 1])
  (.seq (.seq (.ops [⟨(some 6), .mov (.t 1), none, false, []⟩,
    ⟨(some 7), .bin .none .gtr (.t 6) (.c (.int .i64 0)), none, false, []⟩,
    ⟨(some 8), .mov (.t 7), none, true, []⟩,
    ⟨(some 9), .mov (.t 0), (some (8, true)), false, []⟩,
    ⟨(some 10), .mov (.t 1), (some (8, true)), false, []⟩,
    ⟨(some 11), .bin .none .sub (.t 10) (.c (.int .i64 1)), (some (8, true)), false, []⟩,
    ⟨(some 12), .index 1 none false (.t 9) (.t 11), (some (8, true)), false, []⟩,
    ⟨(some 13), .call f_ref_letter [(.t 12)], (some (8, true)), false, []⟩,
    ⟨(some 14), .pick (.t 8) (.t 13) (.c (.bool false)), none, false, []⟩] none [0, 1, 14])
  (.cond (.t 14)
    (.seq (.ops [⟨(some 4), .mov (.c (.str [])), none, false, []⟩] none [4])
    .ret)
    .skip))
  (.seq (.ops [⟨(some 15), .mov (.t 1), none, false, []⟩,
    ⟨(some 5), .mov (.t 15), none, false, []⟩] none [0, 1, 5])
  (.seq (.block 0 (.loop [0, 1] [5] 0
    (.seq (.seq (.ops [⟨(some 16), .mov (.t 5), none, false, []⟩,
      ⟨(some 17), .mov (.t 0), none, false, []⟩,
      ⟨(some 18), .len true (.t 17), none, false, []⟩,
      ⟨(some 19), .bin .none .lss (.t 16) (.t 18), none, false, []⟩,
      ⟨(some 20), .mov (.t 19), none, true, []⟩,
      ⟨(some 21), .mov (.t 0), (some (20, true)), false, []⟩,
      ⟨(some 22), .mov (.t 5), (some (20, true)), false, []⟩,
      ⟨(some 23), .index 1 none false (.t 21) (.t 22), (some (20, true)), false, []⟩,
      ⟨(some 24), .call f_ref_letter [(.t 23)], (some (20, true)), false, []⟩,
      ⟨(some 25), .pick (.t 20) (.t 24) (.c (.bool false)), none, false, []⟩] none [0, 1, 5, 25])
    (.cond (.t 25)
      .skip
      (.exit 0)))
    (.block 1 (.ops [⟨(some 26), .mov (.t 5), none, false, []⟩,
      ⟨(some 27), .bin .none .add (.t 26) (.c (.int .i64 1)), none, false, []⟩,
      ⟨(some 5), .mov (.t 27), none, false, []⟩] none [0, 1, 5])))))
  (.seq (.seq (.ops [⟨(some 28), .mov (.t 5), none, false, []⟩,
    ⟨(some 29), .mov (.t 1), none, false, []⟩,
    ⟨(some 30), .bin .none .sub (.t 28) (.t 29), none, false, []⟩,
    ⟨(some 31), .bin .none .gtr (.t 30) (.c (.int .i64 12)), none, false, []⟩] none [0, 1, 5, 31])
  (.cond (.t 31)
    (.seq (.ops [⟨(some 4), .mov (.c (.str [])), none, false, []⟩] none [4])
    .ret)
    .skip))
  (.seq (.ops [⟨(some 32), .mov (.t 0), none, false, []⟩,
    ⟨(some 33), .mov (.t 1), none, false, []⟩,
    ⟨(some 34), .mov (.t 5), none, false, []⟩,
    ⟨(some 35), .slice 0 (.t 32) (some (.t 33)) (some (.t 34)), none, false, []⟩,
    ⟨(some 4), .mov (.t 35), none, false, []⟩] none [4])
  .ret))))))
def ref_wordAt_r : List RRes := [.tmp 4]
def ref_wordAt_hi : Hi := ⟨[], [(0, "text"), (1, "at"), (2, "text"), (3, "at"), (5, "end")]⟩
def ref_wordAt_an : An := (.seq .d (.seq .d (.seq .d (.seq (.loop [] [] [] .d) .d))))
def ref_wordAt_fi : Fi := ⟨36, ref_wordAt_c, ref_wordAt_r, ref_wordAt_an, ref_wordAt_hi, none⟩
theorem ref_wordAt_ok : FiOk Try.prog f_ref_wordAt ref_wordAt_fi :=
  ⟨fun _ => by kernel_rfl, fun _ h hlen => fun_sound (by kernel_rfl) (fn := Try.f15) (draw_sound _ _) Try.func15 rfl (by kernel_rfl : comp Try.prog 36 _ ref_wordAt_c = some ref_wordAt_c) (by kernel_rfl : cRes Try.prog Try.f15.results.toList = some ref_wordAt_r) hlen h, fun _ h => nomatch h⟩

/-- fustian/fustianref.WordsFind: slots [0 text, 1 word, 2 text, 3 word, 6 out, 7 at] -/
def ref_WordsFind_c : SCode :=
  (.seq (.ops [⟨(some 4), .mov (.c .nils), none, false, []⟩,
    ⟨(some 5), .mov (.c (.int .i64 0)), none, false, []⟩] none [0, 1])
  (.seq (.seq (.ops [⟨(some 8), .mov (.t 1), none, false, []⟩,
    ⟨(some 9), .bin .none .eql (.t 8) (.c (.str [])), none, false, []⟩,
    ⟨(some 10), .mov (.t 9), none, true, []⟩,
    ⟨(some 11), .mov (.t 1), (some (10, false)), false, []⟩,
    ⟨(some 12), .call f_ref_wordAt [(.t 11), (.c (.int .i64 0))], (some (10, false)), false, []⟩,
    ⟨(some 13), .mov (.t 1), (some (10, false)), false, []⟩,
    ⟨(some 14), .bin .none .neq (.t 12) (.t 13), (some (10, false)), false, []⟩,
    ⟨(some 15), .pick (.t 10) (.c (.bool true)) (.t 14), none, false, []⟩] none [0, 1, 15])
  (.cond (.t 15)
    (.seq (.ops [⟨(some 4), .mov (.c .nils), none, false, []⟩,
      ⟨(some 5), .mov (.c (.int .i64 4)), none, false, []⟩] none [4, 5])
    .ret)
    .skip))
  (.seq (.seq (.ops [⟨(some 16), .mov (.t 0), none, false, []⟩,
    ⟨(some 17), .len true (.t 16), none, false, []⟩,
    ⟨(some 18), .bin .none .gtr (.t 17) (.c (.int .i64 600)), none, false, []⟩] none [0, 1, 18])
  (.cond (.t 18)
    (.seq (.ops [⟨(some 4), .mov (.c .nils), none, false, []⟩,
      ⟨(some 5), .mov (.c (.int .i64 1)), none, false, []⟩] none [4, 5])
    .ret)
    .skip))
  (.seq (.ops [⟨(some 6), .newnil 1, none, false, []⟩] none [0, 1, 6])
  (.seq (.seq (.ops [⟨(some 19), .mov (.t 0), none, false, []⟩,
    ⟨(some 20), .len true (.t 19), none, false, []⟩,
    ⟨(some 21), .mov (.c (.int .i64 0)), none, false, []⟩] none [0, 1, 6, 20, 21])
  (.block 0 (.loop [0, 1, 20] [6, 21] 1
    (.seq (.ops [⟨(some 22), .bin .none .lss (.t 21) (.t 20), none, false, []⟩] none [0, 1, 6, 20, 21, 22])
    (.seq (.cond (.t 22)
      .skip
      (.exit 0))
    (.join [0, 1, 20, 21] [6] 1 (.block 1 (.seq (.ops [⟨(some 23), .mov (.t 21), none, false, []⟩,
        ⟨(some 7), .mov (.t 23), none, false, []⟩] none [0, 1, 6, 7, 20, 21])
      (.seq (.ops [⟨(some 24), .mov (.t 0), none, false, []⟩,
        ⟨(some 25), .mov (.t 7), none, false, []⟩,
        ⟨(some 26), .call f_ref_wordAt [(.t 24), (.t 25)], none, false, []⟩,
        ⟨(some 27), .mov (.t 1), none, false, []⟩,
        ⟨(some 28), .bin .none .eql (.t 26) (.t 27), none, false, []⟩] none [0, 1, 6, 7, 20, 21, 28])
      (.cond (.t 28)
        (.ops [⟨(some 29), .mov (.t 6), none, false, []⟩,
          ⟨(some 30), .mov (.t 7), none, false, []⟩,
          ⟨(some 31), .bslice true 1 1 [(.int .i64 0)] [(0, 1, (.t 30))], none, false, []⟩,
          ⟨(some 32), .append 1 8 (.t 29) (.t 31), none, false, []⟩,
          ⟨(some 6), .mov (.t 32), none, false, []⟩] none [0, 1, 6, 20, 21])
        .skip))))
    (.ops [⟨(some 33), .bin .none .add (.t 21) (.c (.int .i64 1)), none, false, []⟩,
      ⟨(some 21), .mov (.t 33), none, false, []⟩] none [0, 1, 6, 20, 21])))))))
  (.seq (.ops [⟨(some 34), .mov (.t 6), none, false, []⟩,
    ⟨(some 4), .mov (.t 34), none, false, []⟩,
    ⟨(some 5), .mov (.c (.int .i64 0)), none, false, []⟩] none [4, 5])
  .ret))))))
def ref_WordsFind_r : List RRes := [.tmp 4, .tmp 5]
def ref_WordsFind_hi : Hi := ⟨[(6, (.int .i64)), (31, (.int .i64)), (32, (.int .i64))], [(0, "text"), (1, "word"), (2, "text"), (3, "word"), (6, "out"), (7, "at")]⟩
def ref_WordsFind_an : An := (.seq .d (.seq .d (.seq .d (.seq .d (.seq (.seq .d (.loop [6] [] [] .d)) .d)))))
def ref_WordsFind_fi : Fi := ⟨35, ref_WordsFind_c, ref_WordsFind_r, ref_WordsFind_an, ref_WordsFind_hi, none⟩
theorem ref_WordsFind_ok : FiOk Try.prog f_ref_WordsFind ref_WordsFind_fi :=
  ⟨fun _ => by kernel_rfl, fun _ h hlen => fun_sound (by kernel_rfl) (fn := Try.f7) (draw_sound _ _) Try.func7 rfl (by kernel_rfl : comp Try.prog 35 _ ref_WordsFind_c = some ref_WordsFind_c) (by kernel_rfl : cRes Try.prog Try.f7.results.toList = some ref_WordsFind_r) hlen h, fun _ h => nomatch h⟩

/-- fustian/fustianlaw.sameInts: slots [0 a, 1 b, 2 a, 3 b, 5 i] -/
def law_sameInts_c : SCode :=
  (.seq (.ops [⟨(some 4), .mov (.c (.bool false)), none, false, []⟩] none [0, 1])
  (.seq (.seq (.ops [⟨(some 6), .mov (.t 0), none, false, []⟩,
    ⟨(some 7), .len false (.t 6), none, false, []⟩,
    ⟨(some 8), .mov (.t 1), none, false, []⟩,
    ⟨(some 9), .len false (.t 8), none, false, []⟩,
    ⟨(some 10), .bin .none .neq (.t 7) (.t 9), none, false, []⟩] none [0, 1, 10])
  (.cond (.t 10)
    (.seq (.ops [⟨(some 4), .mov (.c (.bool false)), none, false, []⟩] none [4])
    .ret)
    .skip))
  (.seq (.seq (.ops [⟨(some 5), .mov (.c (.int .i64 0)), none, false, []⟩] none [0, 1, 5])
  (.block 0 (.loop [0, 1] [5] 0
    (.seq (.seq (.ops [⟨(some 11), .mov (.t 5), none, false, []⟩,
      ⟨(some 12), .mov (.t 0), none, false, []⟩,
      ⟨(some 13), .len false (.t 12), none, false, []⟩,
      ⟨(some 14), .bin .none .lss (.t 11) (.t 13), none, false, []⟩] none [0, 1, 5, 14])
    (.cond (.t 14)
      .skip
      (.exit 0)))
    (.seq (.block 1 (.seq (.ops [⟨(some 17), .mov (.t 0), none, false, []⟩,
      ⟨(some 18), .mov (.t 5), none, false, []⟩,
      ⟨(some 19), .iaddr 1 none (.t 17) (.t 18), none, false, []⟩,
      ⟨(some 20), .load 1 false (.t 19), none, false, []⟩,
      ⟨(some 21), .mov (.t 1), none, false, []⟩,
      ⟨(some 22), .mov (.t 5), none, false, []⟩,
      ⟨(some 23), .iaddr 1 none (.t 21) (.t 22), none, false, []⟩,
      ⟨(some 24), .load 1 false (.t 23), none, false, []⟩,
      ⟨(some 25), .bin .none .neq (.t 20) (.t 24), none, false, []⟩] (some (0, 0, [0, 1, 2, 3, 4, 5, 6, 7, 8])) [0, 1, 5, 25])
    (.cond (.t 25)
      (.seq (.ops [⟨(some 4), .mov (.c (.bool false)), none, false, []⟩] none [4])
      .ret)
      .skip)))
    (.ops [⟨(some 15), .mov (.t 5), none, false, []⟩,
      ⟨(some 16), .bin .none .add (.t 15) (.c (.int .i64 1)), none, false, []⟩,
      ⟨(some 5), .mov (.t 16), none, false, []⟩] none [0, 1, 5]))))))
  (.seq (.ops [⟨(some 4), .mov (.c (.bool true)), none, false, []⟩] none [4])
  .ret))))
def law_sameInts_r : List RRes := [.tmp 4]
def law_sameInts_hi : Hi := ⟨[], [(0, "a"), (1, "b"), (2, "a"), (3, "b"), (5, "i")]⟩
def law_sameInts_an : An := (.seq .d (.seq .d (.seq (.seq .d (.loop [] [] [] .d)) .d)))
def law_sameInts_fi : Fi := ⟨26, law_sameInts_c, law_sameInts_r, law_sameInts_an, law_sameInts_hi, none⟩
theorem law_sameInts_ok : FiOk Try.prog f_law_sameInts law_sameInts_fi :=
  ⟨fun _ => by kernel_rfl, fun _ h hlen => fun_sound (by kernel_rfl) (fn := Try.f8) (draw_sound _ _) Try.func8 rfl (by kernel_rfl : comp Try.prog 26 _ law_sameInts_c = some law_sameInts_c) (by kernel_rfl : cRes Try.prog Try.f8.results.toList = some law_sameInts_r) hlen h, fun _ h => nomatch h⟩

/-- fustian/fustianlaw.WordsFinds: slots [0 text, 1 word, 2 text, 3 word, 5 x, 6 e, 7 y, 8 f] -/
def law_WordsFinds_c : SCode :=
  (.seq (.ops [⟨(some 4), .mov (.c (.bool false)), none, false, []⟩] none [0, 1])
  (.seq (.ops [⟨(some 10), .mov (.t 0), none, false, []⟩,
    ⟨(some 11), .mov (.t 1), none, false, []⟩,
    ⟨(some 12), .call f_words_Find [(.t 10), (.t 11)], none, false, []⟩,
    ⟨(some 9), .mov (.t 12), none, false, []⟩,
    ⟨(some 13), .extract (.t 9) 0, none, false, []⟩,
    ⟨(some 14), .extract (.t 9) 1, none, false, []⟩,
    ⟨(some 5), .mov (.t 13), none, false, []⟩,
    ⟨(some 6), .mov (.t 14), none, false, []⟩] none [0, 1, 5, 6])
  (.seq (.ops [⟨(some 16), .mov (.t 0), none, false, []⟩,
    ⟨(some 17), .mov (.t 1), none, false, []⟩,
    ⟨(some 18), .call f_ref_WordsFind [(.t 16), (.t 17)], none, false, []⟩,
    ⟨(some 15), .mov (.t 18), none, false, []⟩,
    ⟨(some 19), .extract (.t 15) 0, none, false, []⟩,
    ⟨(some 20), .extract (.t 15) 1, none, false, []⟩,
    ⟨(some 7), .mov (.t 19), none, false, []⟩,
    ⟨(some 8), .mov (.t 20), none, false, []⟩] none [5, 6, 7, 8])
  (.seq (.ops [⟨(some 21), .mov (.t 5), none, false, []⟩,
    ⟨(some 22), .mov (.t 7), none, false, []⟩,
    ⟨(some 23), .call f_law_sameInts [(.t 21), (.t 22)], none, false, []⟩,
    ⟨(some 24), .mov (.t 23), none, true, []⟩,
    ⟨(some 25), .mov (.t 6), (some (24, true)), false, []⟩,
    ⟨(some 26), .mov (.t 8), (some (24, true)), false, []⟩,
    ⟨(some 27), .bin .none .eql (.t 25) (.t 26), (some (24, true)), false, []⟩,
    ⟨(some 28), .pick (.t 24) (.t 27) (.c (.bool false)), none, false, []⟩,
    ⟨(some 4), .mov (.t 28), none, false, []⟩] none [4])
  .ret))))
def law_WordsFinds_r : List RRes := [.tmp 4]
def law_WordsFinds_hi : Hi := ⟨[], [(0, "text"), (1, "word"), (2, "text"), (3, "word"), (5, "x"), (6, "e"), (7, "y"), (8, "f")]⟩
def law_WordsFinds_an : An := .d
def law_WordsFinds_fi : Fi := ⟨29, law_WordsFinds_c, law_WordsFinds_r, law_WordsFinds_an, law_WordsFinds_hi, none⟩
theorem law_WordsFinds_ok : FiOk Try.prog f_law_WordsFinds law_WordsFinds_fi :=
  ⟨fun _ => by kernel_rfl, fun _ h hlen => fun_sound (by kernel_rfl) (fn := Try.f3) (draw_sound _ _) Try.func3 rfl (by kernel_rfl : comp Try.prog 29 _ law_WordsFinds_c = some law_WordsFinds_c) (by kernel_rfl : cRes Try.prog Try.f3.results.toList = some law_WordsFinds_r) hlen h, fun _ h => nomatch h⟩

end Go.Proofs.Ytoiebdgnfjgcpaa
