/- The functions' simplified code, printed by a program of the claim's author; each is checked against the program's own code. Conditions: none. -/
import Derived.Test.YtoiebdgnfjgcpaaProg
import Derived.Test.YtoiebdgnfjgcpaaVyM
set_option linter.unusedVariables false
set_option maxRecDepth 100000
namespace Go.Proofs.Ytoiebdgnfjgcpaa
open Go.Vc
abbrev f_gosem_cut_init : Nat := 2
abbrev f_law_WordsFinds : Nat := 3
abbrev f_law_MarksOrders : Nat := 4
abbrev f_law_SuffixFinds : Nat := 5
abbrev f_words_Find : Nat := 6
abbrev f_ref_WordsFind : Nat := 7
abbrev f_law_sameInts : Nat := 8
abbrev f_marks_Order : Nat := 9
abbrev f_ref_MarksOrder : Nat := 10
abbrev f_suffix_Find : Nat := 11
abbrev f_ref_FindAll : Nat := 12
abbrev f_words_Noted : Nat := 13
abbrev f_words_Of : Nat := 14
abbrev f_ref_wordAt : Nat := 15
abbrev f_slices_SortStableFunc___int_int_ : Nat := 16
abbrev f_marks_Order_1 : Nat := 17
abbrev f_cmp_Or_int_ : Nat := 18
abbrev f_cmp_Compare_int_ : Nat := 19
abbrev f_suffix_sorted : Nat := 20
abbrev f_sort_Search : Nat := 21
abbrev f_suffix_Find_1 : Nat := 22
abbrev f_strings_HasPrefix : Nat := 23
abbrev f_slices_Sorted_int_ : Nat := 24
abbrev f_slices_Values___int_int_ : Nat := 25
abbrev f_ref_findFault : Nat := 26
abbrev f_ref_standsAt : Nat := 27
abbrev f_words_part : Nat := 28
abbrev f_words_Each : Nat := 29
abbrev f_words_Of_1 : Nat := 30
abbrev f_ref_letter : Nat := 31
abbrev f_slices_stableCmpFunc_int_ : Nat := 32
abbrev f_cmp_isNaN_int_ : Nat := 33
abbrev f_suffix_sorted_1 : Nat := 34
abbrev f_suffix_sorted_2 : Nat := 35
abbrev f_slices_SortFunc___int_int_ : Nat := 36
abbrev f_internal_stringslite_HasPrefix : Nat := 37
abbrev f_slices_Collect_int_ : Nat := 38
abbrev f_slices_Sort___int_int_ : Nat := 39
abbrev f_slices_Values___int_int__1 : Nat := 40
abbrev f_slices_insertionSortCmpFunc_int_ : Nat := 41
abbrev f_slices_symMergeCmpFunc_int_ : Nat := 42
abbrev f_slices_pdqsortCmpFunc_int_ : Nat := 43
abbrev f_math_bits_Len : Nat := 44
abbrev f_slices_AppendSeq___int_int_ : Nat := 45
abbrev f_slices_pdqsortOrdered_int_ : Nat := 46
abbrev f_slices_rotateCmpFunc_int_ : Nat := 47
abbrev f_slices_heapSortCmpFunc_int_ : Nat := 48
abbrev f_slices_breakPatternsCmpFunc_int_ : Nat := 49
abbrev f_slices_choosePivotCmpFunc_int_ : Nat := 50
abbrev f_slices_reverseRangeCmpFunc_int_ : Nat := 51
abbrev f_slices_partialInsertionSortCmpFunc_int_ : Nat := 52
abbrev f_slices_partitionEqualCmpFunc_int_ : Nat := 53
abbrev f_slices_partitionCmpFunc_int_ : Nat := 54
abbrev f_math_bits_Len32 : Nat := 55
abbrev f_math_bits_Len64 : Nat := 56
abbrev f_slices_insertionSortOrdered_int_ : Nat := 57
abbrev f_slices_heapSortOrdered_int_ : Nat := 58
abbrev f_slices_breakPatternsOrdered_int_ : Nat := 59
abbrev f_slices_choosePivotOrdered_int_ : Nat := 60
abbrev f_slices_reverseRangeOrdered_int_ : Nat := 61
abbrev f_slices_partialInsertionSortOrdered_int_ : Nat := 62
abbrev f_cmp_Less_int_ : Nat := 63
abbrev f_slices_partitionEqualOrdered_int_ : Nat := 64
abbrev f_slices_partitionOrdered_int_ : Nat := 65
abbrev f_slices_swapRangeCmpFunc_int_ : Nat := 66
abbrev f_slices_siftDownCmpFunc_int_ : Nat := 67
abbrev f_slices_nextPowerOfTwo : Nat := 68
abbrev f___slices_xorshift__Next : Nat := 69
abbrev f_slices_medianAdjacentCmpFunc_int_ : Nat := 70
abbrev f_slices_medianCmpFunc_int_ : Nat := 71
abbrev f_slices_siftDownOrdered_int_ : Nat := 72
abbrev f_slices_medianAdjacentOrdered_int_ : Nat := 73
abbrev f_slices_medianOrdered_int_ : Nat := 74
abbrev f_slices_order2CmpFunc_int_ : Nat := 75
abbrev f_slices_order2Ordered_int_ : Nat := 76

/-- cmp.isNaN[int]: slots [0 x, 1 x] -/
def cmp_isNaN_int__c : SCode :=
  (.seq (.ops [⟨(some 2), .mov (.c (.bool false)), none, false, []⟩] none [0])
  (.seq (.ops [⟨(some 3), .mov (.t 0), none, false, []⟩,
    ⟨(some 4), .mov (.t 0), none, false, []⟩,
    ⟨(some 5), .bin .none .neq (.t 3) (.t 4), none, false, []⟩,
    ⟨(some 2), .mov (.t 5), none, false, []⟩] none [2])
  .ret))
def cmp_isNaN_int__r : List RRes := [.tmp 2]
def cmp_isNaN_int__hi : Hi := ⟨[], [(0, "x"), (1, "x")]⟩
def cmp_isNaN_int__an : An := .d
def cmp_isNaN_int__fi : Fi := ⟨6, cmp_isNaN_int__c, cmp_isNaN_int__r, cmp_isNaN_int__an, cmp_isNaN_int__hi, none⟩
theorem cmp_isNaN_int__ok : FiOk Try.prog f_cmp_isNaN_int_ cmp_isNaN_int__fi :=
  ⟨fun _ => by kernel_rfl, fun _ h hlen => fun_sound (by kernel_rfl) (fn := Try.f33) (draw_sound _ _) Try.func33 rfl (by kernel_rfl : comp Try.prog 6 _ cmp_isNaN_int__c = some cmp_isNaN_int__c) (by kernel_rfl : cRes Try.prog Try.f33.results.toList = some cmp_isNaN_int__r) hlen h, fun _ h => nomatch h⟩

/-- cmp.Compare[int]: slots [0 x, 1 y, 2 x, 3 y, 5 xNaN, 6 yNaN] -/
def cmp_Compare_int__c : SCode :=
  (.seq (.ops [⟨(some 4), .mov (.c (.int .i64 0)), none, false, []⟩] none [0, 1])
  (.seq (.ops [⟨(some 7), .mov (.t 0), none, false, []⟩,
    ⟨(some 8), .call f_cmp_isNaN_int_ [(.t 7)], none, false, []⟩,
    ⟨(some 5), .mov (.t 8), none, false, []⟩] none [0, 1, 5])
  (.seq (.ops [⟨(some 9), .mov (.t 1), none, false, []⟩,
    ⟨(some 10), .call f_cmp_isNaN_int_ [(.t 9)], none, false, []⟩,
    ⟨(some 6), .mov (.t 10), none, false, []⟩] none [0, 1, 5, 6])
  (.seq (.seq (.ops [⟨(some 11), .mov (.t 5), none, false, []⟩] none [0, 1, 6, 11])
  (.cond (.t 11)
    (.seq (.seq (.ops [⟨(some 12), .mov (.t 6), none, false, []⟩] none [12])
    (.cond (.t 12)
      (.seq (.ops [⟨(some 4), .mov (.c (.int .i64 0)), none, false, []⟩] none [4])
      .ret)
      .skip))
    (.seq (.ops [⟨(some 4), .mov (.c (.int .i64 (-1))), none, false, []⟩] none [4])
    .ret))
    .skip))
  (.seq (.seq (.ops [⟨(some 13), .mov (.t 6), none, false, []⟩] none [0, 1, 13])
  (.cond (.t 13)
    (.seq (.ops [⟨(some 4), .mov (.c (.int .i64 1)), none, false, []⟩] none [4])
    .ret)
    .skip))
  (.seq (.seq (.ops [⟨(some 14), .mov (.t 0), none, false, []⟩,
    ⟨(some 15), .mov (.t 1), none, false, []⟩,
    ⟨(some 16), .bin .none .lss (.t 14) (.t 15), none, false, []⟩] none [0, 1, 16])
  (.cond (.t 16)
    (.seq (.ops [⟨(some 4), .mov (.c (.int .i64 (-1))), none, false, []⟩] none [4])
    .ret)
    .skip))
  (.seq (.seq (.ops [⟨(some 17), .mov (.t 0), none, false, []⟩,
    ⟨(some 18), .mov (.t 1), none, false, []⟩,
    ⟨(some 19), .bin .none .gtr (.t 17) (.t 18), none, false, []⟩] none [19])
  (.cond (.t 19)
    (.seq (.ops [⟨(some 4), .mov (.c (.int .i64 1)), none, false, []⟩] none [4])
    .ret)
    .skip))
  (.seq (.ops [⟨(some 4), .mov (.c (.int .i64 0)), none, false, []⟩] none [4])
  .ret))))))))
def cmp_Compare_int__r : List RRes := [.tmp 4]
def cmp_Compare_int__hi : Hi := ⟨[], [(0, "x"), (1, "y"), (2, "x"), (3, "y"), (5, "xNaN"), (6, "yNaN")]⟩
def cmp_Compare_int__an : An := .d
def cmp_Compare_int__fi : Fi := ⟨20, cmp_Compare_int__c, cmp_Compare_int__r, cmp_Compare_int__an, cmp_Compare_int__hi, none⟩
theorem cmp_Compare_int__ok : FiOk Try.prog f_cmp_Compare_int_ cmp_Compare_int__fi :=
  ⟨fun _ => by kernel_rfl, fun _ h hlen => fun_sound (by kernel_rfl) (fn := Try.f19) (draw_sound _ _) Try.func19 rfl (by kernel_rfl : comp Try.prog 20 _ cmp_Compare_int__c = some cmp_Compare_int__c) (by kernel_rfl : cRes Try.prog Try.f19.results.toList = some cmp_Compare_int__r) hlen h, fun _ h => nomatch h⟩

/-- cmp.Or[int]: slots [0 vals, 1 vals, 3 zero, 4 _, 5 val] -/
def cmp_Or_int__c : SCode :=
  (.seq (.ops [⟨(some 2), .mov (.c (.int .i64 0)), none, false, []⟩] none [0])
  (.seq (.ops [⟨(some 3), .mov (.c (.int .i64 0)), none, false, []⟩] none [0, 3])
  (.seq (.seq (.ops [⟨(some 6), .mov (.t 0), none, false, []⟩,
    ⟨(some 7), .len false (.t 6), none, false, []⟩,
    ⟨(some 8), .mov (.c (.int .i64 0)), none, false, []⟩] none [3, 6, 7, 8])
  (.block 0 (.loop [3, 6, 7] [8] 0
    (.seq (.ops [⟨(some 9), .bin .none .lss (.t 8) (.t 7), none, false, []⟩] none [3, 6, 7, 8, 9])
    (.seq (.cond (.t 9)
      .skip
      (.exit 0))
    (.seq (.block 1 (.seq (.ops [⟨(some 10), .iaddr 1 none (.t 6) (.t 8), none, false, []⟩,
      ⟨(some 11), .load 1 false (.t 10), none, false, []⟩,
      ⟨(some 5), .mov (.t 11), none, false, []⟩] none [3, 5, 6, 7, 8])
    (.seq (.ops [⟨(some 12), .mov (.t 5), none, false, []⟩,
      ⟨(some 13), .mov (.t 3), none, false, []⟩,
      ⟨(some 14), .bin .none .neq (.t 12) (.t 13), none, false, []⟩] none [3, 5, 6, 7, 8, 14])
    (.cond (.t 14)
      (.seq (.ops [⟨(some 15), .mov (.t 5), none, false, []⟩,
        ⟨(some 2), .mov (.t 15), none, false, []⟩] none [2])
      .ret)
      .skip))))
    (.ops [⟨(some 16), .bin .none .add (.t 8) (.c (.int .i64 1)), none, false, []⟩,
      ⟨(some 8), .mov (.t 16), none, false, []⟩] none [3, 6, 7, 8])))))))
  (.seq (.ops [⟨(some 17), .mov (.t 3), none, false, []⟩,
    ⟨(some 2), .mov (.t 17), none, false, []⟩] none [2])
  .ret))))
def cmp_Or_int__r : List RRes := [.tmp 2]
def cmp_Or_int__hi : Hi := ⟨[], [(0, "vals"), (1, "vals"), (3, "zero"), (5, "val")]⟩
def cmp_Or_int__an : An := (.seq .d (.seq .d (.seq (.seq .d (.loop [] [] [] .d)) .d)))
def cmp_Or_int__fi : Fi := ⟨18, cmp_Or_int__c, cmp_Or_int__r, cmp_Or_int__an, cmp_Or_int__hi, none⟩
theorem cmp_Or_int__ok : FiOk Try.prog f_cmp_Or_int_ cmp_Or_int__fi :=
  ⟨fun _ => by kernel_rfl, fun _ h hlen => fun_sound (by kernel_rfl) (fn := Try.f18) (draw_sound _ _) Try.func18 rfl (by kernel_rfl : comp Try.prog 18 _ cmp_Or_int__c = some cmp_Or_int__c) (by kernel_rfl : cRes Try.prog Try.f18.results.toList = some cmp_Or_int__r) hlen h, fun _ h => nomatch h⟩

/-- fustian/suffix.sorted$2: slots [0 a, 1 b, 4 a, 5 b] -/
def suffix_sorted_2_c : SCode :=
  (.seq (.ops [⟨(some 6), .mov (.c (.int .i64 0)), none, false, []⟩] none [0, 1, 2, 3])
  (.seq (.ops [⟨(some 7), .load 1 false (.t 2), none, false, []⟩,
    ⟨(some 8), .mov (.t 0), none, false, []⟩,
    ⟨(some 9), .iaddr 1 none (.t 7) (.t 8), none, false, []⟩,
    ⟨(some 10), .load 1 false (.t 9), none, false, []⟩,
    ⟨(some 11), .load 1 false (.t 2), none, false, []⟩,
    ⟨(some 12), .mov (.t 1), none, false, []⟩,
    ⟨(some 13), .iaddr 1 none (.t 11) (.t 12), none, false, []⟩,
    ⟨(some 14), .load 1 false (.t 13), none, false, []⟩,
    ⟨(some 16), .load 1 false (.t 3), none, false, []⟩,
    ⟨(some 17), .mov (.t 0), none, false, []⟩,
    ⟨(some 19), .load 1 false (.t 3), none, false, []⟩,
    ⟨(some 20), .mov (.t 1), none, false, []⟩,
    ⟨(some 15), .call f_cmp_Compare_int_ [(.t 10), (.t 14)], none, false, [(16, 1, false, (.t 3)), (19, 1, false, (.t 3))]⟩,
    ⟨none, .again 16 1 false (.t 3), none, false, []⟩,
    ⟨none, .again 19 1 false (.t 3), none, false, []⟩,
    ⟨(some 18), .callv (.t 16) [(.t 17)], none, false, [(19, 1, false, (.t 3))]⟩,
    ⟨none, .again 19 1 false (.t 3), none, false, []⟩,
    ⟨(some 21), .callv (.t 19) [(.t 20)], none, false, []⟩,
    ⟨(some 22), .call f_cmp_Compare_int_ [(.t 18), (.t 21)], none, false, []⟩,
    ⟨(some 23), .bslice true 2 1 [(.int .i64 0), (.int .i64 0)] [(0, 1, (.t 15)), (1, 1, (.t 22))], none, false, []⟩,
    ⟨(some 24), .call f_cmp_Or_int_ [(.t 23)], none, false, []⟩,
    ⟨(some 6), .mov (.t 24), none, false, []⟩] (some (0, 0, [0, 1, 2, 3, 4, 5, 6, 7, 9, 10, 12, 13, 8, 11, 14, 15, 16, 17, 18])) [6])
  .ret))
def suffix_sorted_2_r : List RRes := [.tmp 6]
def suffix_sorted_2_hi : Hi := ⟨[(23, (.int .i64))], [(0, "a"), (1, "b"), (4, "a"), (5, "b")]⟩
def suffix_sorted_2_an : An := .d
def suffix_sorted_2_fi : Fi := ⟨25, suffix_sorted_2_c, suffix_sorted_2_r, suffix_sorted_2_an, suffix_sorted_2_hi, none⟩
theorem suffix_sorted_2_ok : FiOk Try.prog f_suffix_sorted_2 suffix_sorted_2_fi :=
  ⟨fun _ => by kernel_rfl, fun _ h hlen => fun_sound (by kernel_rfl) (fn := Try.f35) (draw_sound _ _) Try.func35 rfl (by kernel_rfl : comp Try.prog 25 _ suffix_sorted_2_c = some suffix_sorted_2_c) (by kernel_rfl : cRes Try.prog Try.f35.results.toList = some suffix_sorted_2_r) hlen h, fun _ h => nomatch h⟩

/-- slices.SortFunc[[]int,int]: slots [0 x, 1 cmp, 2 x, 3 cmp, 4 n] -/
def slices_SortFunc___int_int__c : SCode :=
  (.seq (.ops [⟨(some 5), .mov (.t 0), none, false, []⟩,
    ⟨(some 6), .len false (.t 5), none, false, []⟩,
    ⟨(some 4), .mov (.t 6), none, false, []⟩] none [0, 1, 4])
  (.ops [⟨(some 7), .mov (.t 0), none, false, []⟩,
    ⟨(some 8), .mov (.t 4), none, false, []⟩,
    ⟨(some 9), .mov (.t 4), none, false, []⟩,
    ⟨(some 10), .conv .u64 (.t 9), none, false, []⟩,
    ⟨(some 11), .call f_math_bits_Len [(.t 10)], none, false, []⟩,
    ⟨(some 12), .mov (.t 1), none, false, []⟩,
    ⟨(some 13), .call f_slices_pdqsortCmpFunc_int_ [(.t 7), (.c (.int .i64 0)), (.t 8), (.t 11), (.t 12)], none, false, []⟩] none []))
def slices_SortFunc___int_int__r : List RRes := []
def slices_SortFunc___int_int__hi : Hi := ⟨[], [(0, "x"), (1, "cmp"), (2, "x"), (3, "cmp"), (4, "n")]⟩
def slices_SortFunc___int_int__an : An := .d
def slices_SortFunc___int_int__fi : Fi := ⟨14, slices_SortFunc___int_int__c, slices_SortFunc___int_int__r, slices_SortFunc___int_int__an, slices_SortFunc___int_int__hi, none⟩
theorem slices_SortFunc___int_int__ok : FiOk Try.prog f_slices_SortFunc___int_int_ slices_SortFunc___int_int__fi :=
  ⟨fun _ => by kernel_rfl, fun _ h hlen => fun_sound (by kernel_rfl) (fn := Try.f36) (draw_sound _ _) Try.func36 rfl (by kernel_rfl : comp Try.prog 14 _ slices_SortFunc___int_int__c = some slices_SortFunc___int_int__c) (by kernel_rfl : cRes Try.prog Try.f36.results.toList = some slices_SortFunc___int_int__r) hlen h, fun _ h => nomatch h⟩

/-- fustian/suffix.sorted: slots [0 text, 1 text, 3 n, 4 out, 5 rank, 6 i, 7 wide, 8 second, 9 by, 10 next, 11 i] -/
def suffix_sorted_c : SCode :=
  (.seq (.ops [⟨(some 2), .mov (.c .nils), none, false, []⟩] none [0])
  (.seq (.ops [⟨(some 12), .mov (.t 0), none, false, []⟩,
    ⟨(some 13), .len true (.t 12), none, false, []⟩,
    ⟨(some 3), .alloc 0 [(.int .i64 0)], none, false, []⟩,
    ⟨none, .store 1 (.t 3) (.t 13), none, false, []⟩] none [0, 3])
  (.seq (.ops [⟨(some 14), .load 1 false (.t 3), none, false, []⟩,
    ⟨(some 16), .load 1 false (.t 3), none, false, []⟩,
    ⟨(some 15), .mkres 3 1 8 [(.int .i64 0)] (.t 14) (.t 14), none, false, []⟩,
    ⟨(some 5), .alres 2 0 [.nils], none, false, []⟩,
    ⟨(some 4), .mov (.t 15), none, false, []⟩,
    ⟨(some 17), .mkres 1 1 8 [(.int .i64 0)] (.t 16) (.t 16), none, false, []⟩,
    ⟨none, .store 1 (.t 5) (.t 17), none, false, []⟩] (some (2, 3, [0, 2, 1, 4, 5, 3, 6])) [0, 3, 4, 5])
  (.seq (.seq (.ops [⟨(some 18), .load 1 false (.t 3), none, false, []⟩,
    ⟨(some 19), .mov (.c (.int .i64 0)), none, false, []⟩] none [0, 3, 4, 5, 18, 19])
  (.block 0 (.loop [0, 3, 4, 5, 18] [19] 4
    (.seq (.ops [⟨(some 20), .bin .none .lss (.t 19) (.t 18), none, false, []⟩] none [0, 3, 4, 5, 18, 19, 20])
    (.seq (.cond (.t 20)
      .skip
      (.exit 0))
    (.seq (.block 1 (.seq (.ops [⟨(some 21), .mov (.t 19), none, false, []⟩,
      ⟨(some 6), .mov (.t 21), none, false, []⟩] none [0, 3, 4, 5, 6, 18, 19])
    (.ops [⟨(some 22), .mov (.t 4), none, false, []⟩,
      ⟨(some 23), .mov (.t 6), none, false, []⟩,
      ⟨(some 24), .load 1 false (.t 5), none, false, []⟩,
      ⟨(some 25), .mov (.t 6), none, false, []⟩,
      ⟨(some 26), .mov (.t 6), none, false, []⟩,
      ⟨(some 27), .mov (.t 0), none, false, []⟩,
      ⟨(some 28), .mov (.t 6), none, false, []⟩,
      ⟨(some 29), .index 1 none false (.t 27) (.t 28), none, false, []⟩,
      ⟨(some 30), .conv .i64 (.t 29), none, false, []⟩,
      ⟨(some 31), .iaddr 1 none (.t 22) (.t 23), none, false, []⟩,
      ⟨none, .store 1 (.t 31) (.t 26), none, false, [(24, 1, false, (.t 5))]⟩,
      ⟨none, .again 24 1 false (.t 5), none, false, []⟩,
      ⟨(some 32), .iaddr 1 none (.t 24) (.t 25), none, false, []⟩,
      ⟨none, .store 1 (.t 32) (.t 30), none, false, []⟩] (some (0, 0, [0, 1, 2, 3, 4, 5, 6, 7, 8, 9, 10, 11, 12])) [0, 3, 4, 5, 18, 19])))
    (.ops [⟨(some 33), .bin .none .add (.t 19) (.c (.int .i64 1)), none, false, []⟩,
      ⟨(some 19), .mov (.t 33), none, false, []⟩] none [0, 3, 4, 5, 18, 19])))))))
  (.seq (.ops [⟨(some 7), .alloc 0 [(.int .i64 0)], none, false, []⟩,
    ⟨none, .store 1 (.t 7) (.c (.int .i64 1)), none, false, []⟩] none [3, 4, 5, 7])
  (.block 2 (.loop [3, 4, 5] [7] 5
    (.seq (.block 3 (.seq (.ops [⟨(some 36), .mkfunc (.func f_suffix_sorted_1) [] [(.t 7), (.t 3), (.t 5)], none, false, []⟩,
      ⟨(some 8), .alloc 0 [.nilf], none, false, []⟩,
      ⟨none, .store 1 (.t 8) (.t 36), none, false, []⟩] none [3, 4, 5, 7, 8])
    (.seq (.ops [⟨(some 37), .mkfunc (.func f_suffix_sorted_2) [] [(.t 5), (.t 8)], none, false, []⟩,
      ⟨(some 9), .mov (.t 37), none, false, []⟩] none [3, 4, 5, 7, 9])
    (.seq (.ops [⟨(some 38), .mov (.t 4), none, false, []⟩,
      ⟨(some 39), .mov (.t 9), none, false, []⟩,
      ⟨(some 40), .call f_slices_SortFunc___int_int_ [(.t 38), (.t 39)], none, false, []⟩] none [3, 4, 5, 7, 9])
    (.seq (.ops [⟨(some 41), .load 1 false (.t 3), none, false, []⟩,
      ⟨(some 42), .mkslice 1 8 [(.int .i64 0)] (.t 41) (.t 41), none, false, []⟩,
      ⟨(some 10), .mov (.t 42), none, false, []⟩] none [3, 4, 5, 7, 9, 10])
    (.seq (.seq (.ops [⟨(some 11), .mov (.c (.int .i64 1)), none, false, []⟩] none [3, 4, 5, 7, 9, 10, 11])
    (.block 4 (.loop [3, 4, 5, 7, 9, 10] [11] 7
      (.seq (.seq (.ops [⟨(some 43), .mov (.t 11), none, false, []⟩,
        ⟨(some 44), .load 1 false (.t 3), none, false, []⟩,
        ⟨(some 45), .bin .none .lss (.t 43) (.t 44), none, false, []⟩] none [3, 4, 5, 7, 9, 10, 11, 45])
      (.cond (.t 45)
        .skip
        (.exit 4)))
      (.join [3, 4, 5, 7, 9, 10, 11] [] 7 (.block 5 (.seq (.ops [⟨(some 48), .mov (.t 10), none, false, []⟩,
          ⟨(some 49), .mov (.t 4), none, false, []⟩,
          ⟨(some 50), .mov (.t 11), none, false, []⟩,
          ⟨(some 51), .iaddr 1 none (.t 49) (.t 50), none, false, []⟩,
          ⟨(some 52), .load 1 false (.t 51), none, false, []⟩,
          ⟨(some 53), .mov (.t 10), none, false, []⟩,
          ⟨(some 54), .mov (.t 4), none, false, []⟩,
          ⟨(some 55), .mov (.t 11), none, false, []⟩,
          ⟨(some 56), .bin .none .sub (.t 55) (.c (.int .i64 1)), none, false, []⟩,
          ⟨(some 57), .iaddr 1 none (.t 54) (.t 56), none, false, []⟩,
          ⟨(some 58), .load 1 false (.t 57), none, false, []⟩,
          ⟨(some 59), .iaddr 1 none (.t 53) (.t 58), none, false, []⟩,
          ⟨(some 60), .load 1 false (.t 59), none, false, []⟩,
          ⟨(some 61), .iaddr 1 none (.t 48) (.t 52), none, false, []⟩,
          ⟨none, .store 1 (.t 61) (.t 60), none, false, []⟩] (some (0, 0, [0, 1, 2, 3, 4, 5, 6, 7, 8, 9, 10, 11, 12, 13, 14])) [3, 4, 5, 7, 9, 10, 11])
        (.seq (.ops [⟨(some 62), .mov (.t 9), none, false, []⟩,
          ⟨(some 63), .mov (.t 4), none, false, []⟩,
          ⟨(some 64), .mov (.t 11), none, false, []⟩,
          ⟨(some 65), .bin .none .sub (.t 64) (.c (.int .i64 1)), none, false, []⟩,
          ⟨(some 66), .iaddr 1 none (.t 63) (.t 65), none, false, []⟩,
          ⟨(some 67), .load 1 false (.t 66), none, false, []⟩,
          ⟨(some 68), .mov (.t 4), none, false, []⟩,
          ⟨(some 69), .mov (.t 11), none, false, []⟩,
          ⟨(some 70), .iaddr 1 none (.t 68) (.t 69), none, false, []⟩,
          ⟨(some 71), .load 1 false (.t 70), none, false, []⟩,
          ⟨(some 72), .callv (.t 62) [(.t 67), (.t 71)], none, false, []⟩,
          ⟨(some 73), .bin .none .neq (.t 72) (.c (.int .i64 0)), none, false, []⟩] (some (0, 0, [0, 1, 2, 3, 4, 5, 6, 7, 8, 9, 10, 11])) [3, 4, 5, 7, 9, 10, 11, 73])
        (.cond (.t 73)
          (.ops [⟨(some 74), .mov (.t 10), none, false, []⟩,
            ⟨(some 75), .mov (.t 4), none, false, []⟩,
            ⟨(some 76), .mov (.t 11), none, false, []⟩,
            ⟨(some 77), .iaddr 1 none (.t 75) (.t 76), none, false, []⟩,
            ⟨(some 78), .load 1 false (.t 77), none, false, []⟩,
            ⟨(some 79), .iaddr 1 none (.t 74) (.t 78), none, false, []⟩,
            ⟨(some 80), .load 1 false (.t 79), none, false, []⟩,
            ⟨(some 81), .bin .none .add (.t 80) (.c (.int .i64 1)), none, false, []⟩,
            ⟨(some 82), .iaddr 1 none (.t 74) (.t 78), none, false, []⟩,
            ⟨none, .store 1 (.t 82) (.t 81), none, false, []⟩] none [3, 4, 5, 7, 9, 10, 11])
          .skip))))
      (.ops [⟨(some 46), .mov (.t 11), none, false, []⟩,
        ⟨(some 47), .bin .none .add (.t 46) (.c (.int .i64 1)), none, false, []⟩,
        ⟨(some 11), .mov (.t 47), none, false, []⟩] none [3, 4, 5, 7, 9, 10, 11]))))))
    (.seq (.ops [⟨(some 83), .mov (.t 10), none, false, []⟩,
      ⟨none, .store 1 (.t 5) (.t 83), none, false, []⟩] none [3, 4, 5, 7])
    (.seq (.ops [⟨(some 84), .load 1 false (.t 3), none, false, []⟩,
      ⟨(some 85), .bin .none .eql (.t 84) (.c (.int .i64 0)), none, false, []⟩,
      ⟨(some 86), .mov (.t 85), none, true, []⟩,
      ⟨(some 87), .load 1 false (.t 5), (some (86, false)), false, []⟩,
      ⟨(some 88), .mov (.t 4), (some (86, false)), false, []⟩,
      ⟨(some 89), .load 1 false (.t 3), (some (86, false)), false, []⟩,
      ⟨(some 90), .bin .none .sub (.t 89) (.c (.int .i64 1)), (some (86, false)), false, []⟩,
      ⟨(some 91), .iaddr 1 none (.t 88) (.t 90), (some (86, false)), false, []⟩,
      ⟨(some 92), .load 1 false (.t 91), (some (86, false)), false, []⟩,
      ⟨(some 93), .iaddr 1 none (.t 87) (.t 92), (some (86, false)), false, []⟩,
      ⟨(some 94), .load 1 false (.t 93), (some (86, false)), false, []⟩,
      ⟨(some 95), .load 1 false (.t 3), (some (86, false)), false, []⟩,
      ⟨(some 96), .bin .none .sub (.t 95) (.c (.int .i64 1)), (some (86, false)), false, []⟩,
      ⟨(some 97), .bin .none .eql (.t 94) (.t 96), (some (86, false)), false, []⟩,
      ⟨(some 98), .pick (.t 86) (.c (.bool true)) (.t 97), none, false, []⟩] (some (0, 0, [0, 1, 2, 3, 4, 5, 6, 7, 8, 9, 10, 11, 12, 13, 14])) [3, 4, 5, 7, 98])
    (.cond (.t 98)
      (.seq (.ops [⟨(some 99), .mov (.t 4), none, false, []⟩,
        ⟨(some 2), .mov (.t 99), none, false, []⟩] none [2])
      .ret)
      .skip)))))))))
    (.seq (.seq (.ops [⟨(some 100), .load 1 false (.t 7), none, false, []⟩] none [3, 4, 5, 100])
    (.ops [⟨(some 7), .alloc 0 [(.int .i64 0)], none, false, []⟩,
      ⟨none, .store 1 (.t 7) (.t 100), none, false, []⟩] none [3, 4, 5, 7]))
    (.ops [⟨(some 34), .load 1 false (.t 7), none, false, []⟩,
      ⟨(some 35), .bin .none .mul (.t 34) (.c (.int .i64 2)), none, false, []⟩,
      ⟨none, .store 1 (.t 7) (.t 35), none, false, []⟩] none [3, 4, 5, 7]))))))))))
def suffix_sorted_r : List RRes := [.tmp 2]
def suffix_sorted_hi : Hi := ⟨[(15, (.int .i64)), (17, (.int .i64)), (42, (.int .i64)), (5, (.sl (.int .i64)))], [(0, "text"), (1, "text"), (3, "n"), (4, "out"), (5, "rank"), (6, "i"), (7, "wide"), (8, "second"), (9, "by"), (10, "next"), (11, "i")]⟩
def suffix_sorted_an : An := (.seq .d (.seq .d (.seq .d (.seq (.seq .d (.loop [4, 5] [] [] .d)) (.seq .d (.loop [4, 5, 7] [] [5, 7] (.seq (.seq .d (.seq .d (.seq .d (.seq .d (.seq (.seq .d (.loop [10] [] [] .d)) .d))))) .d)))))))
def suffix_sorted_fi : Fi := ⟨101, suffix_sorted_c, suffix_sorted_r, suffix_sorted_an, suffix_sorted_hi, none⟩
theorem suffix_sorted_ok : FiOk Try.prog f_suffix_sorted suffix_sorted_fi :=
  ⟨fun _ => by kernel_rfl, fun _ h hlen => fun_sound (by kernel_rfl) (fn := Try.f20) (draw_sound _ _) Try.func20 rfl (by kernel_rfl : comp Try.prog 101 _ suffix_sorted_c = some suffix_sorted_c) (by kernel_rfl : cRes Try.prog Try.f20.results.toList = some suffix_sorted_r) hlen h, fun _ h => nomatch h⟩

/-- fustian/fustianref.findFault: slots [0 text, 1 find, 2 text, 3 find] -/
def ref_findFault_c : SCode :=
  (.seq (.ops [⟨(some 4), .mov (.c (.int .i64 0)), none, false, []⟩] none [0, 1])
  (.seq (.seq (.ops [⟨(some 5), .mov (.t 0), none, false, []⟩,
    ⟨(some 6), .len true (.t 5), none, false, []⟩,
    ⟨(some 7), .bin .none .gtr (.t 6) (.c (.int .i64 600)), none, false, []⟩,
    ⟨(some 8), .mov (.t 7), none, true, []⟩,
    ⟨(some 9), .mov (.t 1), (some (8, false)), false, []⟩,
    ⟨(some 10), .len true (.t 9), (some (8, false)), false, []⟩,
    ⟨(some 11), .bin .none .gtr (.t 10) (.c (.int .i64 20)), (some (8, false)), false, []⟩,
    ⟨(some 12), .pick (.t 8) (.c (.bool true)) (.t 11), none, false, []⟩] none [1, 12])
  (.cond (.t 12)
    (.seq (.ops [⟨(some 4), .mov (.c (.int .i64 1)), none, false, []⟩] none [4])
    .ret)
    .skip))
  (.seq (.seq (.ops [⟨(some 13), .mov (.t 1), none, false, []⟩,
    ⟨(some 14), .bin .none .eql (.t 13) (.c (.str [])), none, false, []⟩] none [14])
  (.cond (.t 14)
    (.seq (.ops [⟨(some 4), .mov (.c (.int .i64 4)), none, false, []⟩] none [4])
    .ret)
    .skip))
  (.seq (.ops [⟨(some 4), .mov (.c (.int .i64 0)), none, false, []⟩] none [4])
  .ret))))
def ref_findFault_r : List RRes := [.tmp 4]
def ref_findFault_hi : Hi := ⟨[], [(0, "text"), (1, "find"), (2, "text"), (3, "find")]⟩
def ref_findFault_an : An := .d
def ref_findFault_fi : Fi := ⟨15, ref_findFault_c, ref_findFault_r, ref_findFault_an, ref_findFault_hi, none⟩
theorem ref_findFault_ok : FiOk Try.prog f_ref_findFault ref_findFault_fi :=
  ⟨fun _ => by kernel_rfl, fun _ h hlen => fun_sound (by kernel_rfl) (fn := Try.f26) (draw_sound _ _) Try.func26 rfl (by kernel_rfl : comp Try.prog 15 _ ref_findFault_c = some ref_findFault_c) (by kernel_rfl : cRes Try.prog Try.f26.results.toList = some ref_findFault_r) hlen h, fun _ h => nomatch h⟩

/-- fustian/fustianref.standsAt: slots [0 text, 1 find, 2 at, 3 text, 4 find, 5 at] -/
def ref_standsAt_c : SCode :=
  (.seq (.ops [⟨(some 6), .mov (.c (.bool false)), none, false, []⟩] none [0, 1, 2])
  (.seq (.ops [⟨(some 7), .mov (.t 2), none, false, []⟩,
    ⟨(some 8), .bin .none .geq (.t 7) (.c (.int .i64 0)), none, false, []⟩,
    ⟨(some 9), .mov (.t 8), none, true, []⟩,
    ⟨(some 10), .mov (.t 2), (some (9, true)), false, []⟩,
    ⟨(some 11), .mov (.t 1), (some (9, true)), false, []⟩,
    ⟨(some 12), .len true (.t 11), (some (9, true)), false, []⟩,
    ⟨(some 13), .bin .none .add (.t 10) (.t 12), (some (9, true)), false, []⟩,
    ⟨(some 14), .mov (.t 0), (some (9, true)), false, []⟩,
    ⟨(some 15), .len true (.t 14), (some (9, true)), false, []⟩,
    ⟨(some 16), .bin .none .leq (.t 13) (.t 15), (some (9, true)), false, []⟩,
    ⟨(some 17), .pick (.t 9) (.t 16) (.c (.bool false)), none, false, []⟩,
    ⟨(some 18), .mov (.t 17), none, true, []⟩,
    ⟨(some 19), .mov (.t 0), (some (18, true)), false, []⟩,
    ⟨(some 20), .mov (.t 2), (some (18, true)), false, []⟩,
    ⟨(some 21), .mov (.t 2), (some (18, true)), false, []⟩,
    ⟨(some 22), .mov (.t 1), (some (18, true)), false, []⟩,
    ⟨(some 23), .len true (.t 22), (some (18, true)), false, []⟩,
    ⟨(some 24), .bin .none .add (.t 21) (.t 23), (some (18, true)), false, []⟩,
    ⟨(some 25), .slice 0 (.t 19) (some (.t 20)) (some (.t 24)), (some (18, true)), false, []⟩,
    ⟨(some 26), .mov (.t 1), (some (18, true)), false, []⟩,
    ⟨(some 27), .bin .none .eql (.t 25) (.t 26), (some (18, true)), false, []⟩,
    ⟨(some 28), .pick (.t 18) (.t 27) (.c (.bool false)), none, false, []⟩,
    ⟨(some 6), .mov (.t 28), none, false, []⟩] none [6])
  .ret))
def ref_standsAt_r : List RRes := [.tmp 6]
def ref_standsAt_hi : Hi := ⟨[], [(0, "text"), (1, "find"), (2, "at"), (3, "text"), (4, "find"), (5, "at")]⟩
def ref_standsAt_an : An := .d
def ref_standsAt_fi : Fi := ⟨29, ref_standsAt_c, ref_standsAt_r, ref_standsAt_an, ref_standsAt_hi, none⟩
theorem ref_standsAt_ok : FiOk Try.prog f_ref_standsAt ref_standsAt_fi :=
  ⟨fun _ => by kernel_rfl, fun _ h hlen => fun_sound (by kernel_rfl) (fn := Try.f27) (draw_sound _ _) Try.func27 rfl (by kernel_rfl : comp Try.prog 29 _ ref_standsAt_c = some ref_standsAt_c) (by kernel_rfl : cRes Try.prog Try.f27.results.toList = some ref_standsAt_r) hlen h, fun _ h => nomatch h⟩

/-- fustian/fustianref.FindAll: slots [0 text, 1 find, 2 text, 3 find, 6 e, 7 out, 8 at] -/
def ref_FindAll_c : SCode :=
  (.seq (.ops [⟨(some 4), .mov (.c .nils), none, false, []⟩,
    ⟨(some 5), .mov (.c (.int .i64 0)), none, false, []⟩] none [0, 1])
  (.seq (.seq (.ops [⟨(some 9), .mov (.t 0), none, false, []⟩,
    ⟨(some 10), .mov (.t 1), none, false, []⟩,
    ⟨(some 11), .call f_ref_findFault [(.t 9), (.t 10)], none, false, []⟩,
    ⟨(some 6), .mov (.t 11), none, false, []⟩] none [0, 1, 6])
  (.seq (.ops [⟨(some 12), .mov (.t 6), none, false, []⟩,
    ⟨(some 13), .bin .none .neq (.t 12) (.c (.int .i64 0)), none, false, []⟩] none [0, 1, 6, 13])
  (.cond (.t 13)
    (.seq (.ops [⟨(some 14), .mov (.t 6), none, false, []⟩,
      ⟨(some 4), .mov (.c .nils), none, false, []⟩,
      ⟨(some 5), .mov (.t 14), none, false, []⟩] none [4, 5])
    .ret)
    .skip)))
  (.seq (.ops [⟨(some 7), .newnil 1, none, false, []⟩] none [0, 1, 7])
  (.seq (.seq (.ops [⟨(some 15), .mov (.t 0), none, false, []⟩,
    ⟨(some 16), .len true (.t 15), none, false, []⟩,
    ⟨(some 17), .mov (.c (.int .i64 0)), none, false, []⟩] none [0, 1, 7, 16, 17])
  (.block 0 (.loop [0, 1, 16] [7, 17] 1
    (.seq (.ops [⟨(some 18), .bin .none .lss (.t 17) (.t 16), none, false, []⟩] none [0, 1, 7, 16, 17, 18])
    (.seq (.cond (.t 18)
      .skip
      (.exit 0))
    (.join [0, 1, 16, 17] [7] 1 (.block 1 (.seq (.ops [⟨(some 19), .mov (.t 17), none, false, []⟩,
        ⟨(some 8), .mov (.t 19), none, false, []⟩] none [0, 1, 7, 8, 16, 17])
      (.seq (.ops [⟨(some 20), .mov (.t 0), none, false, []⟩,
        ⟨(some 21), .mov (.t 1), none, false, []⟩,
        ⟨(some 22), .mov (.t 8), none, false, []⟩,
        ⟨(some 23), .call f_ref_standsAt [(.t 20), (.t 21), (.t 22)], none, false, []⟩] none [0, 1, 7, 8, 16, 17, 23])
      (.cond (.t 23)
        (.ops [⟨(some 24), .mov (.t 7), none, false, []⟩,
          ⟨(some 25), .mov (.t 8), none, false, []⟩,
          ⟨(some 26), .bslice true 1 1 [(.int .i64 0)] [(0, 1, (.t 25))], none, false, []⟩,
          ⟨(some 27), .append 1 8 (.t 24) (.t 26), none, false, []⟩,
          ⟨(some 7), .mov (.t 27), none, false, []⟩] none [0, 1, 7, 16, 17])
        .skip))))
    (.ops [⟨(some 28), .bin .none .add (.t 17) (.c (.int .i64 1)), none, false, []⟩,
      ⟨(some 17), .mov (.t 28), none, false, []⟩] none [0, 1, 7, 16, 17])))))))
  (.seq (.ops [⟨(some 29), .mov (.t 7), none, false, []⟩,
    ⟨(some 4), .mov (.t 29), none, false, []⟩,
    ⟨(some 5), .mov (.c (.int .i64 0)), none, false, []⟩] none [4, 5])
  .ret)))))
def ref_FindAll_r : List RRes := [.tmp 4, .tmp 5]
def ref_FindAll_hi : Hi := ⟨[(7, (.int .i64)), (26, (.int .i64)), (27, (.int .i64))], [(0, "text"), (1, "find"), (2, "text"), (3, "find"), (6, "e"), (7, "out"), (8, "at")]⟩
def ref_FindAll_an : An := (.seq .d (.seq .d (.seq .d (.seq (.seq .d (.loop [7] [] [] .d)) .d))))
def ref_FindAll_fi : Fi := ⟨30, ref_FindAll_c, ref_FindAll_r, ref_FindAll_an, ref_FindAll_hi, none⟩
theorem ref_FindAll_ok : FiOk Try.prog f_ref_FindAll ref_FindAll_fi :=
  ⟨fun _ => by kernel_rfl, fun _ h hlen => fun_sound (by kernel_rfl) (fn := Try.f12) (draw_sound _ _) Try.func12 rfl (by kernel_rfl : comp Try.prog 30 _ ref_FindAll_c = some ref_FindAll_c) (by kernel_rfl : cRes Try.prog Try.f12.results.toList = some ref_FindAll_r) hlen h, fun _ h => nomatch h⟩

/-- fustian/fustianlaw.sameInts: slots [0 a, 1 b, 2 a, 3 b, 5 i] -/
def law_sameInts_c : SCode :=
  (.seq (.ops [⟨(some 4), .mov (.c (.bool false)), none, false, []⟩] none [0, 1])
  (.seq (.seq (.ops [⟨(some 6), .mov (.t 0), none, false, []⟩,
    ⟨(some 7), .len false (.t 6), none, false, []⟩,
    ⟨(some 8), .mov (.t 1), none, false, []⟩,
    ⟨(some 9), .len false (.t 8), none, false, []⟩,
    ⟨(some 10), .bin .none .neq (.t 7) (.t 9), none, false, []⟩] none [0, 1, 10])
  (.cond (.t 10)
    (.seq (.ops [⟨(some 4), .mov (.c (.bool false)), none, false, []⟩] none [4])
    .ret)
    .skip))
  (.seq (.seq (.ops [⟨(some 5), .mov (.c (.int .i64 0)), none, false, []⟩] none [0, 1, 5])
  (.block 0 (.loop [0, 1] [5] 0
    (.seq (.seq (.ops [⟨(some 11), .mov (.t 5), none, false, []⟩,
      ⟨(some 12), .mov (.t 0), none, false, []⟩,
      ⟨(some 13), .len false (.t 12), none, false, []⟩,
      ⟨(some 14), .bin .none .lss (.t 11) (.t 13), none, false, []⟩] none [0, 1, 5, 14])
    (.cond (.t 14)
      .skip
      (.exit 0)))
    (.seq (.block 1 (.seq (.ops [⟨(some 17), .mov (.t 0), none, false, []⟩,
      ⟨(some 18), .mov (.t 5), none, false, []⟩,
      ⟨(some 19), .iaddr 1 none (.t 17) (.t 18), none, false, []⟩,
      ⟨(some 20), .load 1 false (.t 19), none, false, []⟩,
      ⟨(some 21), .mov (.t 1), none, false, []⟩,
      ⟨(some 22), .mov (.t 5), none, false, []⟩,
      ⟨(some 23), .iaddr 1 none (.t 21) (.t 22), none, false, []⟩,
      ⟨(some 24), .load 1 false (.t 23), none, false, []⟩,
      ⟨(some 25), .bin .none .neq (.t 20) (.t 24), none, false, []⟩] (some (0, 0, [0, 1, 2, 3, 4, 5, 6, 7, 8])) [0, 1, 5, 25])
    (.cond (.t 25)
      (.seq (.ops [⟨(some 4), .mov (.c (.bool false)), none, false, []⟩] none [4])
      .ret)
      .skip)))
    (.ops [⟨(some 15), .mov (.t 5), none, false, []⟩,
      ⟨(some 16), .bin .none .add (.t 15) (.c (.int .i64 1)), none, false, []⟩,
      ⟨(some 5), .mov (.t 16), none, false, []⟩] none [0, 1, 5]))))))
  (.seq (.ops [⟨(some 4), .mov (.c (.bool true)), none, false, []⟩] none [4])
  .ret))))
def law_sameInts_r : List RRes := [.tmp 4]
def law_sameInts_hi : Hi := ⟨[], [(0, "a"), (1, "b"), (2, "a"), (3, "b"), (5, "i")]⟩
def law_sameInts_an : An := (.seq .d (.seq .d (.seq (.seq .d (.loop [] [] [] .d)) .d)))
def law_sameInts_fi : Fi := ⟨26, law_sameInts_c, law_sameInts_r, law_sameInts_an, law_sameInts_hi, none⟩
theorem law_sameInts_ok : FiOk Try.prog f_law_sameInts law_sameInts_fi :=
  ⟨fun _ => by kernel_rfl, fun _ h hlen => fun_sound (by kernel_rfl) (fn := Try.f8) (draw_sound _ _) Try.func8 rfl (by kernel_rfl : comp Try.prog 26 _ law_sameInts_c = some law_sameInts_c) (by kernel_rfl : cRes Try.prog Try.f8.results.toList = some law_sameInts_r) hlen h, fun _ h => nomatch h⟩

/-- fustian/fustianlaw.SuffixFinds: slots [0 text, 1 s, 2 text, 3 s, 5 x, 6 e, 7 y, 8 f] -/
def law_SuffixFinds_c : SCode :=
  (.seq (.ops [⟨(some 4), .mov (.c (.bool false)), none, false, []⟩] none [0, 1])
  (.seq (.ops [⟨(some 10), .mov (.t 0), none, false, []⟩,
    ⟨(some 11), .mov (.t 1), none, false, []⟩,
    ⟨(some 12), .call f_suffix_Find [(.t 10), (.t 11)], none, false, []⟩,
    ⟨(some 9), .mov (.t 12), none, false, []⟩,
    ⟨(some 13), .extract (.t 9) 0, none, false, []⟩,
    ⟨(some 14), .extract (.t 9) 1, none, false, []⟩,
    ⟨(some 5), .mov (.t 13), none, false, []⟩,
    ⟨(some 6), .mov (.t 14), none, false, []⟩] none [0, 1, 5, 6])
  (.seq (.ops [⟨(some 16), .mov (.t 0), none, false, []⟩,
    ⟨(some 17), .mov (.t 1), none, false, []⟩,
    ⟨(some 18), .call f_ref_FindAll [(.t 16), (.t 17)], none, false, []⟩,
    ⟨(some 15), .mov (.t 18), none, false, []⟩,
    ⟨(some 19), .extract (.t 15) 0, none, false, []⟩,
    ⟨(some 20), .extract (.t 15) 1, none, false, []⟩,
    ⟨(some 7), .mov (.t 19), none, false, []⟩,
    ⟨(some 8), .mov (.t 20), none, false, []⟩] none [5, 6, 7, 8])
  (.seq (.ops [⟨(some 21), .mov (.t 5), none, false, []⟩,
    ⟨(some 22), .mov (.t 7), none, false, []⟩,
    ⟨(some 23), .call f_law_sameInts [(.t 21), (.t 22)], none, false, []⟩,
    ⟨(some 24), .mov (.t 23), none, true, []⟩,
    ⟨(some 25), .mov (.t 6), (some (24, true)), false, []⟩,
    ⟨(some 26), .mov (.t 8), (some (24, true)), false, []⟩,
    ⟨(some 27), .bin .none .eql (.t 25) (.t 26), (some (24, true)), false, []⟩,
    ⟨(some 28), .pick (.t 24) (.t 27) (.c (.bool false)), none, false, []⟩,
    ⟨(some 4), .mov (.t 28), none, false, []⟩] none [4])
  .ret))))
def law_SuffixFinds_r : List RRes := [.tmp 4]
def law_SuffixFinds_hi : Hi := ⟨[], [(0, "text"), (1, "s"), (2, "text"), (3, "s"), (5, "x"), (6, "e"), (7, "y"), (8, "f")]⟩
def law_SuffixFinds_an : An := .d
def law_SuffixFinds_fi : Fi := ⟨29, law_SuffixFinds_c, law_SuffixFinds_r, law_SuffixFinds_an, law_SuffixFinds_hi, none⟩
theorem law_SuffixFinds_ok : FiOk Try.prog f_law_SuffixFinds law_SuffixFinds_fi :=
  ⟨fun _ => by kernel_rfl, fun _ h hlen => fun_sound (by kernel_rfl) (fn := Try.f5) (draw_sound _ _) Try.func5 rfl (by kernel_rfl : comp Try.prog 29 _ law_SuffixFinds_c = some law_SuffixFinds_c) (by kernel_rfl : cRes Try.prog Try.f5.results.toList = some law_SuffixFinds_r) hlen h, fun _ h => nomatch h⟩

/-- fustian/suffix.sorted$1: slots [0 i, 4 i] -/
def suffix_sorted_1_c : SCode :=
  (.seq (.ops [⟨(some 5), .mov (.c (.int .i64 0)), none, false, []⟩] none [0, 1, 2, 3])
  (.seq (.seq (.ops [⟨(some 6), .mov (.t 0), none, false, []⟩,
    ⟨(some 7), .load 1 false (.t 1), none, false, []⟩,
    ⟨(some 8), .bin .none .add (.t 6) (.t 7), none, false, []⟩,
    ⟨(some 9), .load 1 false (.t 2), none, false, []⟩,
    ⟨(some 10), .bin .none .lss (.t 8) (.t 9), none, false, []⟩] none [0, 1, 3, 10])
  (.cond (.t 10)
    (.seq (.ops [⟨(some 11), .load 1 false (.t 3), none, false, []⟩,
      ⟨(some 12), .mov (.t 0), none, false, []⟩,
      ⟨(some 13), .load 1 false (.t 1), none, false, []⟩,
      ⟨(some 14), .bin .none .add (.t 12) (.t 13), none, false, []⟩,
      ⟨(some 15), .iaddr 1 none (.t 11) (.t 14), none, false, []⟩,
      ⟨(some 16), .load 1 false (.t 15), none, false, []⟩,
      ⟨(some 5), .mov (.t 16), none, false, []⟩] none [5])
    .ret)
    .skip))
  (.seq (.ops [⟨(some 5), .mov (.c (.int .i64 (-1))), none, false, []⟩] none [5])
  .ret)))
def suffix_sorted_1_r : List RRes := [.tmp 5]
def suffix_sorted_1_hi : Hi := ⟨[], [(0, "i"), (4, "i")]⟩
def suffix_sorted_1_an : An := .d
def suffix_sorted_1_fi : Fi := ⟨17, suffix_sorted_1_c, suffix_sorted_1_r, suffix_sorted_1_an, suffix_sorted_1_hi, none⟩
theorem suffix_sorted_1_ok : FiOk Try.prog f_suffix_sorted_1 suffix_sorted_1_fi :=
  ⟨fun _ => by kernel_rfl, fun _ h hlen => fun_sound (by kernel_rfl) (fn := Try.f34) (draw_sound _ _) Try.func34 rfl (by kernel_rfl : comp Try.prog 17 _ suffix_sorted_1_c = some suffix_sorted_1_c) (by kernel_rfl : cRes Try.prog Try.f34.results.toList = some suffix_sorted_1_r) hlen h, fun _ h => nomatch h⟩

end Go.Proofs.Ytoiebdgnfjgcpaa
