/- The functions' simplified code, printed by a program of the claim's author; each is checked against the program's own code. Conditions: none. -/
import Derived.Test.YtoiebdgnfjgcpaaProg
import Derived.Test.YtoiebdgnfjgcpaaVyM
set_option linter.unusedVariables false
set_option maxRecDepth 100000
namespace Go.Proofs.Ytoiebdgnfjgcpaa.P
open Go.Vc
abbrev f_gosem_cut_init : Nat := 2
abbrev f_law_WordsFinds : Nat := 3
abbrev f_law_MarksOrders : Nat := 4
abbrev f_law_SuffixFinds : Nat := 5
abbrev f_words_Find : Nat := 6
abbrev f_ref_WordsFind : Nat := 7
abbrev f_law_sameInts : Nat := 8
abbrev f_marks_Order : Nat := 9
abbrev f_ref_MarksOrder : Nat := 10
abbrev f_suffix_Find : Nat := 11
abbrev f_ref_FindAll : Nat := 12
abbrev f_words_Noted : Nat := 13
abbrev f_words_Of : Nat := 14
abbrev f_ref_wordAt : Nat := 15
abbrev f_slices_SortStableFunc___int_int_ : Nat := 16
abbrev f_marks_Order_1 : Nat := 17
abbrev f_cmp_Or_int_ : Nat := 18
abbrev f_cmp_Compare_int_ : Nat := 19
abbrev f_suffix_sorted : Nat := 20
abbrev f_sort_Search : Nat := 21
abbrev f_suffix_Find_1 : Nat := 22
abbrev f_strings_HasPrefix : Nat := 23
abbrev f_slices_Sorted_int_ : Nat := 24
abbrev f_slices_Values___int_int_ : Nat := 25
abbrev f_ref_findFault : Nat := 26
abbrev f_ref_standsAt : Nat := 27
abbrev f_words_part : Nat := 28
abbrev f_words_Each : Nat := 29
abbrev f_words_Of_1 : Nat := 30
abbrev f_ref_letter : Nat := 31
abbrev f_slices_stableCmpFunc_int_ : Nat := 32
abbrev f_cmp_isNaN_int_ : Nat := 33
abbrev f_suffix_sorted_1 : Nat := 34
abbrev f_suffix_sorted_2 : Nat := 35
abbrev f_slices_SortFunc___int_int_ : Nat := 36
abbrev f_internal_stringslite_HasPrefix : Nat := 37
abbrev f_slices_Collect_int_ : Nat := 38
abbrev f_slices_Sort___int_int_ : Nat := 39
abbrev f_slices_Values___int_int__1 : Nat := 40
abbrev f_slices_insertionSortCmpFunc_int_ : Nat := 41
abbrev f_slices_symMergeCmpFunc_int_ : Nat := 42
abbrev f_slices_pdqsortCmpFunc_int_ : Nat := 43
abbrev f_math_bits_Len : Nat := 44
abbrev f_slices_AppendSeq___int_int_ : Nat := 45
abbrev f_slices_pdqsortOrdered_int_ : Nat := 46
abbrev f_slices_rotateCmpFunc_int_ : Nat := 47
abbrev f_slices_heapSortCmpFunc_int_ : Nat := 48
abbrev f_slices_breakPatternsCmpFunc_int_ : Nat := 49
abbrev f_slices_choosePivotCmpFunc_int_ : Nat := 50
abbrev f_slices_reverseRangeCmpFunc_int_ : Nat := 51
abbrev f_slices_partialInsertionSortCmpFunc_int_ : Nat := 52
abbrev f_slices_partitionEqualCmpFunc_int_ : Nat := 53
abbrev f_slices_partitionCmpFunc_int_ : Nat := 54
abbrev f_math_bits_Len32 : Nat := 55
abbrev f_math_bits_Len64 : Nat := 56
abbrev f_slices_insertionSortOrdered_int_ : Nat := 57
abbrev f_slices_heapSortOrdered_int_ : Nat := 58
abbrev f_slices_breakPatternsOrdered_int_ : Nat := 59
abbrev f_slices_choosePivotOrdered_int_ : Nat := 60
abbrev f_slices_reverseRangeOrdered_int_ : Nat := 61
abbrev f_slices_partialInsertionSortOrdered_int_ : Nat := 62
abbrev f_cmp_Less_int_ : Nat := 63
abbrev f_slices_partitionEqualOrdered_int_ : Nat := 64
abbrev f_slices_partitionOrdered_int_ : Nat := 65
abbrev f_slices_swapRangeCmpFunc_int_ : Nat := 66
abbrev f_slices_siftDownCmpFunc_int_ : Nat := 67
abbrev f_slices_nextPowerOfTwo : Nat := 68
abbrev f___slices_xorshift__Next : Nat := 69
abbrev f_slices_medianAdjacentCmpFunc_int_ : Nat := 70
abbrev f_slices_medianCmpFunc_int_ : Nat := 71
abbrev f_slices_siftDownOrdered_int_ : Nat := 72
abbrev f_slices_medianAdjacentOrdered_int_ : Nat := 73
abbrev f_slices_medianOrdered_int_ : Nat := 74
abbrev f_slices_order2CmpFunc_int_ : Nat := 75
abbrev f_slices_order2Ordered_int_ : Nat := 76

/-- fustian/words.Find: slots [0 text, 1 word, 2 text, 3 word] -/
def words_Find_c : SCode :=
  (.seq (.ops [⟨(some 4), .mov (.c .nils), none, false, []⟩,
    ⟨(some 5), .mov (.c (.int .i64 0)), none, false, []⟩] none [0, 1])
  (.seq (.block 0 (.seq (.ops [⟨(some 7), .mov (.t 1), none, false, []⟩,
    ⟨(some 8), .call f_words_Noted [(.t 7)], none, false, []⟩,
    ⟨(some 9), .not (.t 8), none, false, []⟩,
    ⟨(some 6), .mov (.t 9), none, false, []⟩] none [0, 1, 6])
  (.cond (.t 6)
    (.seq (.ops [⟨(some 4), .mov (.c .nils), none, false, []⟩,
      ⟨(some 5), .mov (.c (.int .i64 4)), none, false, []⟩] none [4, 5])
    .ret)
    (.seq (.ops [⟨(some 11), .mov (.t 0), none, false, []⟩,
      ⟨(some 12), .len true (.t 11), none, false, []⟩,
      ⟨(some 13), .bin .none .gtr (.t 12) (.c (.int .i64 600)), none, false, []⟩,
      ⟨(some 10), .mov (.t 13), none, false, []⟩] none [0, 1, 10])
    (.cond (.t 10)
      (.seq (.ops [⟨(some 4), .mov (.c .nils), none, false, []⟩,
        ⟨(some 5), .mov (.c (.int .i64 1)), none, false, []⟩] none [4, 5])
      .ret)
      .skip)))))
  (.seq (.ops [⟨(some 14), .mov (.t 0), none, false, []⟩,
    ⟨(some 15), .call f_words_Of [(.t 14)], none, false, []⟩,
    ⟨(some 16), .mov (.t 1), none, false, []⟩,
    ⟨(some 17), .mlook .str false .nils (.t 15) (.t 16), none, false, []⟩,
    ⟨(some 4), .mov (.t 17), none, false, []⟩,
    ⟨(some 5), .mov (.c (.int .i64 0)), none, false, []⟩] none [4, 5])
  .ret)))
def words_Find_r : List RRes := [.tmp 4, .tmp 5]
def words_Find_hi : Hi := ⟨[], [(0, "text"), (1, "word"), (2, "text"), (3, "word")]⟩
def words_Find_an : An := .d
def words_Find_fi : Fi := ⟨18, words_Find_c, words_Find_r, words_Find_an, words_Find_hi, none⟩
theorem words_Find_ok : FiOk Try.prog f_words_Find words_Find_fi :=
  ⟨fun _ => by kernel_rfl, fun _ h hlen => fun_sound (by kernel_rfl) (fn := Try.f6) (draw_sound _ _) Try.func6 rfl (by kernel_rfl : comp Try.prog 18 _ words_Find_c = some words_Find_c) (by kernel_rfl : cRes Try.prog Try.f6.results.toList = some words_Find_r) hlen h, fun _ h => nomatch h⟩

/-- fustian/words.Of: slots [0 text, 1 text, 3 t] -/
def words_Of_c : SCode :=
  (.seq (.ops [⟨(some 2), .mov (.c .nilm), none, false, []⟩] none [0])
  (.seq (.ops [⟨(some 4), .mkmap, none, false, []⟩,
    ⟨(some 3), .alloc 0 [.nilm], none, false, []⟩,
    ⟨none, .store 1 (.t 3) (.t 4), none, false, []⟩] none [0, 3])
  (.seq (.ops [⟨(some 5), .mov (.t 0), none, false, []⟩,
    ⟨(some 6), .mov (.t 0), none, false, []⟩,
    ⟨(some 7), .len true (.t 6), none, false, []⟩,
    ⟨(some 8), .mkfunc (.func f_words_Of_1) [] [(.t 3)], none, false, []⟩,
    ⟨(some 9), .call f_words_Each [(.t 5), (.c (.int .i64 0)), (.t 7), (.t 8)], none, false, []⟩] none [3])
  (.seq (.ops [⟨(some 10), .load 1 false (.t 3), none, false, []⟩,
    ⟨(some 2), .mov (.t 10), none, false, []⟩] none [2])
  .ret))))
def words_Of_r : List RRes := [.tmp 2]
def words_Of_hi : Hi := ⟨[], [(0, "text"), (1, "text"), (3, "t")]⟩
def words_Of_an : An := .d
def words_Of_fi : Fi := ⟨11, words_Of_c, words_Of_r, words_Of_an, words_Of_hi, none⟩
theorem words_Of_ok : FiOk Try.prog f_words_Of words_Of_fi :=
  ⟨fun _ => by kernel_rfl, fun _ h hlen => fun_sound (by kernel_rfl) (fn := Try.f14) (draw_sound _ _) Try.func14 rfl (by kernel_rfl : comp Try.prog 11 _ words_Of_c = some words_Of_c) (by kernel_rfl : cRes Try.prog Try.f14.results.toList = some words_Of_r) hlen h, fun _ h => nomatch h⟩

/-- fustian/words.Of$1: slots [0 word, 1 at, 3 word, 4 at] -/
def words_Of_1_c : SCode :=
  (.ops [⟨(some 5), .load 1 false (.t 2), none, false, []⟩,
    ⟨(some 6), .mov (.t 0), none, false, []⟩,
    ⟨(some 7), .load 1 false (.t 2), none, false, []⟩,
    ⟨(some 8), .mov (.t 0), none, false, []⟩,
    ⟨(some 9), .mlook .str false .nils (.t 7) (.t 8), none, false, []⟩,
    ⟨(some 10), .mov (.t 1), none, false, []⟩,
    ⟨(some 11), .bslice true 1 1 [(.int .i64 0)] [(0, 1, (.t 10))], none, false, []⟩,
    ⟨(some 12), .append 1 8 (.t 9) (.t 11), none, false, [(5, 1, false, (.t 2))]⟩,
    ⟨none, .again 5 1 false (.t 2), none, false, []⟩,
    ⟨none, .mupd .str (.t 5) (.t 6) (.t 12), none, false, []⟩] (some (0, 0, [0, 1, 2, 3, 4, 5, 6, 7, 8])) [])
def words_Of_1_r : List RRes := []
def words_Of_1_hi : Hi := ⟨[(11, (.int .i64)), (12, (.int .i64))], [(0, "word"), (1, "at"), (3, "word"), (4, "at")]⟩
def words_Of_1_an : An := .d
def words_Of_1_fi : Fi := ⟨13, words_Of_1_c, words_Of_1_r, words_Of_1_an, words_Of_1_hi, none⟩
theorem words_Of_1_ok : FiOk Try.prog f_words_Of_1 words_Of_1_fi :=
  ⟨fun _ => by kernel_rfl, fun _ h hlen => fun_sound (by kernel_rfl) (fn := Try.f30) (draw_sound _ _) Try.func30 rfl (by kernel_rfl : comp Try.prog 13 _ words_Of_1_c = some words_Of_1_c) (by kernel_rfl : cRes Try.prog Try.f30.results.toList = some words_Of_1_r) hlen h, fun _ h => nomatch h⟩

/-- fustian/words.Each: slots [0 text, 1 lo, 2 hi, 3 do, 4 text, 5 lo, 6 hi, 7 do, 8 at, 9 from] -/
def words_Each_c : SCode :=
  (.seq (.ops [⟨(some 10), .mov (.t 1), none, false, []⟩,
    ⟨(some 8), .mov (.t 10), none, false, []⟩] none [0, 2, 3, 8])
  (.block 0 (.loop [0, 2, 3] [8] 0
    (.seq (.seq (.ops [⟨(some 11), .mov (.t 8), none, false, []⟩,
      ⟨(some 12), .mov (.t 2), none, false, []⟩,
      ⟨(some 13), .bin .none .lss (.t 11) (.t 12), none, false, []⟩] none [0, 2, 3, 8, 13])
    (.cond (.t 13)
      .skip
      (.exit 0)))
    (.join [0, 2, 3] [8] 0 (.block 1 (.seq (.ops [⟨(some 16), .mov (.t 8), none, false, []⟩,
        ⟨(some 9), .mov (.t 16), none, false, []⟩] none [0, 2, 3, 8, 9])
      (.seq (.block 2 (.loop [0, 2, 3, 9] [8] 0
        (.seq (.seq (.ops [⟨(some 17), .mov (.t 8), none, false, []⟩,
          ⟨(some 18), .mov (.t 2), none, false, []⟩,
          ⟨(some 19), .bin .none .lss (.t 17) (.t 18), none, false, []⟩,
          ⟨(some 20), .mov (.t 19), none, true, []⟩,
          ⟨(some 21), .mov (.t 0), (some (20, true)), false, []⟩,
          ⟨(some 22), .mov (.t 8), (some (20, true)), false, []⟩,
          ⟨(some 23), .index 1 none false (.t 21) (.t 22), (some (20, true)), false, []⟩,
          ⟨(some 24), .call f_words_part [(.t 23)], (some (20, true)), false, []⟩,
          ⟨(some 25), .pick (.t 20) (.t 24) (.c (.bool false)), none, false, []⟩] none [0, 2, 3, 8, 9, 25])
        (.cond (.t 25)
          .skip
          (.exit 2)))
        (.block 3 (.ops [⟨(some 26), .mov (.t 8), none, false, []⟩,
          ⟨(some 27), .bin .none .add (.t 26) (.c (.int .i64 1)), none, false, []⟩,
          ⟨(some 8), .mov (.t 27), none, false, []⟩] none [0, 2, 3, 8, 9])))))
      (.seq (.ops [⟨(some 28), .mov (.t 8), none, false, []⟩,
        ⟨(some 29), .mov (.t 9), none, false, []⟩,
        ⟨(some 30), .bin .none .gtr (.t 28) (.t 29), none, false, []⟩,
        ⟨(some 31), .mov (.t 30), none, true, []⟩,
        ⟨(some 32), .mov (.t 8), (some (31, true)), false, []⟩,
        ⟨(some 33), .mov (.t 9), (some (31, true)), false, []⟩,
        ⟨(some 34), .bin .none .sub (.t 32) (.t 33), (some (31, true)), false, []⟩,
        ⟨(some 35), .bin .none .leq (.t 34) (.c (.int .i64 12)), (some (31, true)), false, []⟩,
        ⟨(some 36), .pick (.t 31) (.t 35) (.c (.bool false)), none, false, []⟩] none [0, 2, 3, 8, 9, 36])
      (.cond (.t 36)
        (.ops [⟨(some 37), .mov (.t 3), none, false, []⟩,
          ⟨(some 38), .mov (.t 0), none, false, []⟩,
          ⟨(some 39), .mov (.t 9), none, false, []⟩,
          ⟨(some 40), .mov (.t 8), none, false, []⟩,
          ⟨(some 41), .slice 0 (.t 38) (some (.t 39)) (some (.t 40)), none, false, []⟩,
          ⟨(some 42), .mov (.t 9), none, false, []⟩,
          ⟨(some 43), .callv (.t 37) [(.t 41), (.t 42)], none, false, []⟩] none [0, 2, 3, 8])
        .skip)))))
    (.ops [⟨(some 14), .mov (.t 8), none, false, []⟩,
      ⟨(some 15), .bin .none .add (.t 14) (.c (.int .i64 1)), none, false, []⟩,
      ⟨(some 8), .mov (.t 15), none, false, []⟩] none [0, 2, 3, 8]))))))
def words_Each_r : List RRes := []
def words_Each_hi : Hi := ⟨[], [(0, "text"), (1, "lo"), (2, "hi"), (3, "do"), (4, "text"), (5, "lo"), (6, "hi"), (7, "do"), (8, "at"), (9, "from")]⟩
def words_Each_an : An := (.seq .d (.loop [3] [] [] (.seq .d (.seq (.seq .d (.seq (.loop [] [] [] .d) .d)) .d))))
def words_Each_fi : Fi := ⟨44, words_Each_c, words_Each_r, words_Each_an, words_Each_hi, none⟩
theorem words_Each_ok : FiOk Try.prog f_words_Each words_Each_fi :=
  ⟨fun _ => by kernel_rfl, fun _ h hlen => fun_sound (by kernel_rfl) (fn := Try.f29) (draw_sound _ _) Try.func29 rfl (by kernel_rfl : comp Try.prog 44 _ words_Each_c = some words_Each_c) (by kernel_rfl : cRes Try.prog Try.f29.results.toList = some words_Each_r) hlen h, fun _ h => nomatch h⟩

end Go.Proofs.Ytoiebdgnfjgcpaa.P
