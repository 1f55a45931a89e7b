/- The functions' simplified code, printed by a program of the claim's author; each is checked against the program's own code. Conditions: none. -/
import Derived.Test.YtoiebdgnfjgcpaaProg
import Derived.Test.YtoiebdgnfjgcpaaVyM
import Derived.Test.YtoiebdgnfjgcpaaVx4
set_option linter.unusedVariables false
set_option maxRecDepth 100000
namespace Go.Proofs.Ytoiebdgnfjgcpaa.S
open Go.Vc
abbrev f_gosem_cut_init : Nat := 2
abbrev f_law_WordsFinds : Nat := 3
abbrev f_law_MarksOrders : Nat := 4
abbrev f_law_SuffixFinds : Nat := 5
abbrev f_words_Find : Nat := 6
abbrev f_ref_WordsFind : Nat := 7
abbrev f_law_sameInts : Nat := 8
abbrev f_marks_Order : Nat := 9
abbrev f_ref_MarksOrder : Nat := 10
abbrev f_suffix_Find : Nat := 11
abbrev f_ref_FindAll : Nat := 12
abbrev f_words_Noted : Nat := 13
abbrev f_words_Of : Nat := 14
abbrev f_ref_wordAt : Nat := 15
abbrev f_slices_SortStableFunc___int_int_ : Nat := 16
abbrev f_marks_Order_1 : Nat := 17
abbrev f_cmp_Or_int_ : Nat := 18
abbrev f_cmp_Compare_int_ : Nat := 19
abbrev f_suffix_sorted : Nat := 20
abbrev f_sort_Search : Nat := 21
abbrev f_suffix_Find_1 : Nat := 22
abbrev f_strings_HasPrefix : Nat := 23
abbrev f_slices_Sorted_int_ : Nat := 24
abbrev f_slices_Values___int_int_ : Nat := 25
abbrev f_ref_findFault : Nat := 26
abbrev f_ref_standsAt : Nat := 27
abbrev f_words_part : Nat := 28
abbrev f_words_Each : Nat := 29
abbrev f_words_Of_1 : Nat := 30
abbrev f_ref_letter : Nat := 31
abbrev f_slices_stableCmpFunc_int_ : Nat := 32
abbrev f_cmp_isNaN_int_ : Nat := 33
abbrev f_suffix_sorted_1 : Nat := 34
abbrev f_suffix_sorted_2 : Nat := 35
abbrev f_slices_SortFunc___int_int_ : Nat := 36
abbrev f_internal_stringslite_HasPrefix : Nat := 37
abbrev f_slices_Collect_int_ : Nat := 38
abbrev f_slices_Sort___int_int_ : Nat := 39
abbrev f_slices_Values___int_int__1 : Nat := 40
abbrev f_slices_insertionSortCmpFunc_int_ : Nat := 41
abbrev f_slices_symMergeCmpFunc_int_ : Nat := 42
abbrev f_slices_pdqsortCmpFunc_int_ : Nat := 43
abbrev f_math_bits_Len : Nat := 44
abbrev f_slices_AppendSeq___int_int_ : Nat := 45
abbrev f_slices_pdqsortOrdered_int_ : Nat := 46
abbrev f_slices_rotateCmpFunc_int_ : Nat := 47
abbrev f_slices_heapSortCmpFunc_int_ : Nat := 48
abbrev f_slices_breakPatternsCmpFunc_int_ : Nat := 49
abbrev f_slices_choosePivotCmpFunc_int_ : Nat := 50
abbrev f_slices_reverseRangeCmpFunc_int_ : Nat := 51
abbrev f_slices_partialInsertionSortCmpFunc_int_ : Nat := 52
abbrev f_slices_partitionEqualCmpFunc_int_ : Nat := 53
abbrev f_slices_partitionCmpFunc_int_ : Nat := 54
abbrev f_math_bits_Len32 : Nat := 55
abbrev f_math_bits_Len64 : Nat := 56
abbrev f_slices_insertionSortOrdered_int_ : Nat := 57
abbrev f_slices_heapSortOrdered_int_ : Nat := 58
abbrev f_slices_breakPatternsOrdered_int_ : Nat := 59
abbrev f_slices_choosePivotOrdered_int_ : Nat := 60
abbrev f_slices_reverseRangeOrdered_int_ : Nat := 61
abbrev f_slices_partialInsertionSortOrdered_int_ : Nat := 62
abbrev f_cmp_Less_int_ : Nat := 63
abbrev f_slices_partitionEqualOrdered_int_ : Nat := 64
abbrev f_slices_partitionOrdered_int_ : Nat := 65
abbrev f_slices_swapRangeCmpFunc_int_ : Nat := 66
abbrev f_slices_siftDownCmpFunc_int_ : Nat := 67
abbrev f_slices_nextPowerOfTwo : Nat := 68
abbrev f___slices_xorshift__Next : Nat := 69
abbrev f_slices_medianAdjacentCmpFunc_int_ : Nat := 70
abbrev f_slices_medianCmpFunc_int_ : Nat := 71
abbrev f_slices_siftDownOrdered_int_ : Nat := 72
abbrev f_slices_medianAdjacentOrdered_int_ : Nat := 73
abbrev f_slices_medianOrdered_int_ : Nat := 74
abbrev f_slices_order2CmpFunc_int_ : Nat := 75
abbrev f_slices_order2Ordered_int_ : Nat := 76

/-- fustian/suffix.Find: slots [0 text, 1 find, 2 text, 3 find, 6 order, 7 lo, 8 hi] -/
def suffix_Find_c : SCode :=
  (.seq (.ops [⟨(some 2), .box 0 (.t 0), none, false, []⟩,
    ⟨(some 3), .box 0 (.t 1), none, false, []⟩,
    ⟨(some 4), .mov (.c .nils), none, false, []⟩,
    ⟨(some 5), .mov (.c (.int .i64 0)), none, false, []⟩] none [2, 3])
  (.seq (.block 0 (.seq (.ops [⟨(some 10), .load 1 false (.t 2), none, false, []⟩,
    ⟨(some 11), .len true (.t 10), none, false, []⟩,
    ⟨(some 12), .bin .none .gtr (.t 11) (.c (.int .i64 600)), none, false, []⟩,
    ⟨(some 13), .mov (.t 12), none, true, []⟩,
    ⟨(some 14), .load 1 false (.t 3), (some (13, false)), false, []⟩,
    ⟨(some 15), .len true (.t 14), (some (13, false)), false, []⟩,
    ⟨(some 16), .bin .none .gtr (.t 15) (.c (.int .i64 20)), (some (13, false)), false, []⟩,
    ⟨(some 17), .pick (.t 13) (.c (.bool true)) (.t 16), none, false, []⟩,
    ⟨(some 9), .mov (.t 17), none, false, []⟩] none [2, 3, 9])
  (.cond (.t 9)
    (.seq (.ops [⟨(some 4), .mov (.c .nils), none, false, []⟩,
      ⟨(some 5), .mov (.c (.int .i64 1)), none, false, []⟩] none [4, 5])
    .ret)
    (.seq (.ops [⟨(some 19), .load 1 false (.t 3), none, false, []⟩,
      ⟨(some 20), .bin .none .eql (.t 19) (.c (.str [])), none, false, []⟩,
      ⟨(some 18), .mov (.t 20), none, false, []⟩] none [2, 3, 18])
    (.cond (.t 18)
      (.seq (.ops [⟨(some 4), .mov (.c .nils), none, false, []⟩,
        ⟨(some 5), .mov (.c (.int .i64 4)), none, false, []⟩] none [4, 5])
      .ret)
      .skip)))))
  (.seq (.ops [⟨(some 21), .load 1 false (.t 2), none, false, []⟩,
    ⟨(some 22), .call f_suffix_sorted [(.t 21)], none, false, []⟩,
    ⟨(some 6), .alloc 0 [.nils], none, false, []⟩,
    ⟨none, .store 1 (.t 6) (.t 22), none, false, []⟩] none [2, 3, 6])
  (.seq (.ops [⟨(some 23), .load 1 false (.t 6), none, false, []⟩,
    ⟨(some 24), .len false (.t 23), none, false, []⟩,
    ⟨(some 25), .mkfunc (.func f_suffix_Find_1) [] [(.t 2), (.t 6), (.t 3)], none, false, []⟩,
    ⟨(some 26), .call f_sort_Search [(.t 24), (.t 25)], none, false, []⟩,
    ⟨(some 7), .mov (.t 26), none, false, []⟩] none [2, 3, 6, 7])
  (.seq (.ops [⟨(some 27), .mov (.t 7), none, false, []⟩,
    ⟨(some 8), .mov (.t 27), none, false, []⟩] none [2, 3, 6, 7, 8])
  (.seq (.block 1 (.loop [2, 3, 6, 7] [8] 3
    (.seq (.seq (.ops [⟨(some 28), .mov (.t 8), none, false, []⟩,
      ⟨(some 29), .load 1 false (.t 6), none, false, []⟩,
      ⟨(some 30), .len false (.t 29), none, false, []⟩,
      ⟨(some 31), .bin .none .lss (.t 28) (.t 30), none, false, []⟩,
      ⟨(some 32), .mov (.t 31), none, true, []⟩,
      ⟨(some 33), .load 1 false (.t 2), (some (32, true)), false, []⟩,
      ⟨(some 34), .load 1 false (.t 6), (some (32, true)), false, []⟩,
      ⟨(some 35), .mov (.t 8), (some (32, true)), false, []⟩,
      ⟨(some 36), .iaddr 1 none (.t 34) (.t 35), (some (32, true)), false, []⟩,
      ⟨(some 37), .load 1 false (.t 36), (some (32, true)), false, []⟩,
      ⟨(some 38), .slice 0 (.t 33) (some (.t 37)) none, (some (32, true)), false, []⟩,
      ⟨(some 39), .load 1 false (.t 3), (some (32, true)), false, []⟩,
      ⟨(some 40), .call f_strings_HasPrefix [(.t 38), (.t 39)], (some (32, true)), false, []⟩,
      ⟨(some 41), .pick (.t 32) (.t 40) (.c (.bool false)), none, false, []⟩] (some (0, 0, [0, 1, 2, 3, 4, 5, 6, 7, 8, 9, 10, 11, 12, 13])) [2, 3, 6, 7, 8, 41])
    (.cond (.t 41)
      .skip
      (.exit 1)))
    (.block 2 (.ops [⟨(some 42), .mov (.t 8), none, false, []⟩,
      ⟨(some 43), .bin .none .add (.t 42) (.c (.int .i64 1)), none, false, []⟩,
      ⟨(some 8), .mov (.t 43), none, false, []⟩] none [2, 3, 6, 7, 8])))))
  (.seq (.ops [⟨(some 44), .load 1 false (.t 6), none, false, []⟩,
    ⟨(some 45), .mov (.t 7), none, false, []⟩,
    ⟨(some 46), .mov (.t 8), none, false, []⟩,
    ⟨(some 47), .slice 1 (.t 44) (some (.t 45)) (some (.t 46)), none, false, []⟩,
    ⟨(some 48), .call f_slices_Values___int_int_ [(.t 47)], none, false, []⟩,
    ⟨(some 49), .call f_slices_Sorted_int_ [(.t 48)], none, false, []⟩,
    ⟨(some 4), .mov (.t 49), none, false, []⟩,
    ⟨(some 5), .mov (.c (.int .i64 0)), none, false, []⟩] none [4, 5])
  .ret)))))))
def suffix_Find_r : List RRes := [.tmp 4, .tmp 5]
def suffix_Find_hi : Hi := ⟨[(6, (.sl (.int .i64)))], [(0, "text"), (1, "find"), (2, "text"), (3, "find"), (6, "order"), (7, "lo"), (8, "hi")]⟩
def suffix_Find_an : An := (.seq .d (.seq .d (.seq .d (.seq .d (.seq .d (.seq (.loop [] [] [] .d) .d))))))
def suffix_Find_fi : Fi := ⟨50, suffix_Find_c, suffix_Find_r, suffix_Find_an, suffix_Find_hi, none⟩
theorem suffix_Find_ok : FiOk Try.prog f_suffix_Find suffix_Find_fi :=
  ⟨fun _ => by kernel_rfl, fun _ h hlen => fun_sound (by kernel_rfl) (fn := Try.f11) (draw_sound _ _) Try.func11 rfl (by kernel_rfl : comp Try.prog 50 _ suffix_Find_c = some suffix_Find_c) (by kernel_rfl : cRes Try.prog Try.f11.results.toList = some suffix_Find_r) hlen h, fun _ h => nomatch h⟩

/-- fustian/suffix.Find$1: slots [0 k, 4 k] -/
def suffix_Find_1_c : SCode :=
  (.seq (.ops [⟨(some 5), .mov (.c (.bool false)), none, false, []⟩] none [0, 1, 2, 3])
  (.seq (.ops [⟨(some 6), .load 1 false (.t 1), none, false, []⟩,
    ⟨(some 7), .load 1 false (.t 2), none, false, []⟩,
    ⟨(some 8), .mov (.t 0), none, false, []⟩,
    ⟨(some 9), .iaddr 1 none (.t 7) (.t 8), none, false, []⟩,
    ⟨(some 10), .load 1 false (.t 9), none, false, []⟩,
    ⟨(some 11), .slice 0 (.t 6) (some (.t 10)) none, none, false, []⟩,
    ⟨(some 12), .load 1 false (.t 3), none, false, []⟩,
    ⟨(some 13), .bin .none .geq (.t 11) (.t 12), none, false, []⟩,
    ⟨(some 5), .mov (.t 13), none, false, []⟩] (some (0, 0, [0, 1, 2, 3, 4, 5, 6, 7, 8])) [5])
  .ret))
def suffix_Find_1_r : List RRes := [.tmp 5]
def suffix_Find_1_hi : Hi := ⟨[], [(0, "k"), (4, "k")]⟩
def suffix_Find_1_an : An := .d
def suffix_Find_1_fi : Fi := ⟨14, suffix_Find_1_c, suffix_Find_1_r, suffix_Find_1_an, suffix_Find_1_hi, none⟩
theorem suffix_Find_1_ok : FiOk Try.prog f_suffix_Find_1 suffix_Find_1_fi :=
  ⟨fun _ => by kernel_rfl, fun _ h hlen => fun_sound (by kernel_rfl) (fn := Try.f22) (draw_sound _ _) Try.func22 rfl (by kernel_rfl : comp Try.prog 14 _ suffix_Find_1_c = some suffix_Find_1_c) (by kernel_rfl : cRes Try.prog Try.f22.results.toList = some suffix_Find_1_r) hlen h, fun _ h => nomatch h⟩

/-- slices.Sorted[int]: slots [0 seq, 1 seq, 3 s] -/
def slices_Sorted_int__c : SCode :=
  (.seq (.ops [⟨(some 2), .mov (.c .nils), none, false, []⟩] none [0])
  (.seq (.ops [⟨(some 4), .mov (.t 0), none, false, []⟩,
    ⟨(some 5), .call f_slices_Collect_int_ [(.t 4)], none, false, []⟩,
    ⟨(some 3), .mov (.t 5), none, false, []⟩] none [3])
  (.seq (.ops [⟨(some 6), .mov (.t 3), none, false, []⟩,
    ⟨(some 7), .call f_slices_Sort___int_int_ [(.t 6)], none, false, []⟩] none [3])
  (.seq (.ops [⟨(some 8), .mov (.t 3), none, false, []⟩,
    ⟨(some 2), .mov (.t 8), none, false, []⟩] none [2])
  .ret))))
def slices_Sorted_int__r : List RRes := [.tmp 2]
def slices_Sorted_int__hi : Hi := ⟨[], [(0, "seq"), (1, "seq"), (3, "s")]⟩
def slices_Sorted_int__an : An := .d
def slices_Sorted_int__fi : Fi := ⟨9, slices_Sorted_int__c, slices_Sorted_int__r, slices_Sorted_int__an, slices_Sorted_int__hi, none⟩
theorem slices_Sorted_int__ok : FiOk Try.prog f_slices_Sorted_int_ slices_Sorted_int__fi :=
  ⟨fun _ => by kernel_rfl, fun _ h hlen => fun_sound (by kernel_rfl) (fn := Try.f24) (draw_sound _ _) Try.func24 rfl (by kernel_rfl : comp Try.prog 9 _ slices_Sorted_int__c = some slices_Sorted_int__c) (by kernel_rfl : cRes Try.prog Try.f24.results.toList = some slices_Sorted_int__r) hlen h, fun _ h => nomatch h⟩

/-- slices.Values[[]int,int]: slots [0 s, 1 s] -/
def slices_Values___int_int__c : SCode :=
  (.seq (.ops [⟨(some 1), .box 0 (.t 0), none, false, []⟩,
    ⟨(some 2), .mov (.c .nilf), none, false, []⟩] none [1])
  (.seq (.ops [⟨(some 3), .mkfunc (.func f_slices_Values___int_int__1) [] [(.t 1)], none, false, []⟩,
    ⟨(some 2), .mov (.t 3), none, false, []⟩] none [2])
  .ret))
def slices_Values___int_int__r : List RRes := [.tmp 2]
def slices_Values___int_int__hi : Hi := ⟨[(1, (.sl (.int .i64)))], [(0, "s"), (1, "s")]⟩
def slices_Values___int_int__an : An := .d
def slices_Values___int_int__fi : Fi := ⟨4, slices_Values___int_int__c, slices_Values___int_int__r, slices_Values___int_int__an, slices_Values___int_int__hi, none⟩
theorem slices_Values___int_int__ok : FiOk Try.prog f_slices_Values___int_int_ slices_Values___int_int__fi :=
  ⟨fun _ => by kernel_rfl, fun _ h hlen => fun_sound (by kernel_rfl) (fn := Try.f25) (draw_sound _ _) Try.func25 rfl (by kernel_rfl : comp Try.prog 4 _ slices_Values___int_int__c = some slices_Values___int_int__c) (by kernel_rfl : cRes Try.prog Try.f25.results.toList = some slices_Values___int_int__r) hlen h, fun _ h => nomatch h⟩

/-- slices.Values[[]int,int]$1: slots [0 yield, 2 yield, 3 _, 4 v] -/
def slices_Values___int_int__1_c : SCode :=
  (.seq (.ops [⟨(some 5), .load 1 false (.t 1), none, false, []⟩,
    ⟨(some 6), .len false (.t 5), none, false, []⟩,
    ⟨(some 7), .mov (.c (.int .i64 0)), none, false, []⟩] none [0, 5, 6, 7])
  (.block 0 (.loop [0, 5, 6] [7] 0
    (.seq (.ops [⟨(some 8), .bin .none .lss (.t 7) (.t 6), none, false, []⟩] none [0, 5, 6, 7, 8])
    (.seq (.cond (.t 8)
      .skip
      (.exit 0))
    (.seq (.block 1 (.seq (.ops [⟨(some 9), .iaddr 1 none (.t 5) (.t 7), none, false, []⟩,
      ⟨(some 10), .load 1 false (.t 9), none, false, []⟩,
      ⟨(some 4), .mov (.t 10), none, false, []⟩] none [0, 4, 5, 6, 7])
    (.seq (.ops [⟨(some 11), .mov (.t 0), none, false, []⟩,
      ⟨(some 12), .mov (.t 4), none, false, []⟩,
      ⟨(some 13), .callv (.t 11) [(.t 12)], none, false, []⟩,
      ⟨(some 14), .not (.t 13), none, false, []⟩] none [0, 5, 6, 7, 14])
    (.cond (.t 14)
      .ret
      .skip))))
    (.ops [⟨(some 15), .bin .none .add (.t 7) (.c (.int .i64 1)), none, false, []⟩,
      ⟨(some 7), .mov (.t 15), none, false, []⟩] none [0, 5, 6, 7])))))))
def slices_Values___int_int__1_r : List RRes := []
def slices_Values___int_int__1_hi : Hi := ⟨[], [(0, "yield"), (2, "yield"), (4, "v")]⟩
def slices_Values___int_int__1_an : An := (.seq .d (.loop [0] [] [] .d))
def slices_Values___int_int__1_fi : Fi := ⟨16, slices_Values___int_int__1_c, slices_Values___int_int__1_r, slices_Values___int_int__1_an, slices_Values___int_int__1_hi, none⟩
theorem slices_Values___int_int__1_ok : FiOk Try.prog f_slices_Values___int_int__1 slices_Values___int_int__1_fi :=
  ⟨fun _ => by kernel_rfl, fun _ h hlen => fun_sound (by kernel_rfl) (fn := Try.f40) (draw_sound _ _) Try.func40 rfl (by kernel_rfl : comp Try.prog 16 _ slices_Values___int_int__1_c = some slices_Values___int_int__1_c) (by kernel_rfl : cRes Try.prog Try.f40.results.toList = some slices_Values___int_int__1_r) hlen h, fun _ h => nomatch h⟩

/-- slices.Collect[int]: slots [0 seq, 1 seq] -/
def slices_Collect_int__c : SCode :=
  (.seq (.ops [⟨(some 2), .mov (.c .nils), none, false, []⟩] none [0])
  (.seq (.ops [⟨(some 3), .mov (.t 0), none, false, []⟩,
    ⟨(some 4), .call f_slices_AppendSeq___int_int_ [(.c .nils), (.t 3)], none, false, []⟩,
    ⟨(some 2), .mov (.t 4), none, false, []⟩] none [2])
  .ret))
def slices_Collect_int__r : List RRes := [.tmp 2]
def slices_Collect_int__hi : Hi := ⟨[], [(0, "seq"), (1, "seq")]⟩
def slices_Collect_int__an : An := .d
def slices_Collect_int__fi : Fi := ⟨5, slices_Collect_int__c, slices_Collect_int__r, slices_Collect_int__an, slices_Collect_int__hi, none⟩
theorem slices_Collect_int__ok : FiOk Try.prog f_slices_Collect_int_ slices_Collect_int__fi :=
  ⟨fun _ => by kernel_rfl, fun _ h hlen => fun_sound (by kernel_rfl) (fn := Try.f38) (draw_sound _ _) Try.func38 rfl (by kernel_rfl : comp Try.prog 5 _ slices_Collect_int__c = some slices_Collect_int__c) (by kernel_rfl : cRes Try.prog Try.f38.results.toList = some slices_Collect_int__r) hlen h, fun _ h => nomatch h⟩

/-- slices.AppendSeq[[]int,int]: slots [0 s, 1 seq, 2 s, 3 seq, 5 v] -/
def slices_AppendSeq___int_int__c : RCode :=
  (.seqR (.ops [⟨(some 2), .box 0 (.t 0), none, false, []⟩,
    ⟨(some 4), .mov (.c .nils), none, false, []⟩] none [1, 2])
  (.seqL (.seqR (.ops [⟨(some 6), .mov (.t 1), none, false, []⟩] none [2, 6])
  (.block 0 (.rfun (.t 6) [7] (.ops [⟨(some 5), .mov (.t 7), none, false, []⟩] none [2, 5])
  (.block 1 (.ops [⟨(some 8), .load 1 false (.t 2), none, false, []⟩,
    ⟨(some 9), .mov (.t 5), none, false, []⟩,
    ⟨(some 10), .bslice true 1 1 [(.int .i64 0)] [(0, 1, (.t 9))], none, false, []⟩,
    ⟨(some 11), .append 1 8 (.t 8) (.t 10), none, false, []⟩,
    ⟨none, .store 1 (.t 2) (.t 11), none, false, []⟩] none [])))))
  (.seq (.ops [⟨(some 12), .load 1 false (.t 2), none, false, []⟩,
    ⟨(some 4), .mov (.t 12), none, false, []⟩] none [4])
  .ret)))
def slices_AppendSeq___int_int__r : List RRes := [.tmp 4]
theorem slices_AppendSeq___int_int__ok : FlOk Try.prog f_slices_AppendSeq___int_int_ 13 slices_AppendSeq___int_int__c slices_AppendSeq___int_int__r :=
  ⟨by kernel_rfl, fun hl h => fun_soundL (by kernel_rfl) (fn := Try.f45) (draw_sound _ _) Try.func45 rfl (by kernel_rfl : compL Try.prog 13 slices_AppendSeq___int_int__c _ = some slices_AppendSeq___int_int__c) (by kernel_rfl : cRes Try.prog Try.f45.results.toList = some slices_AppendSeq___int_int__r) hl h⟩

/-- sort.Search: slots [0 n, 1 f, 2 n, 3 f, 5 i, 6 j, 7 h] -/
def sort_Search_c : SCode :=
  (.seq (.ops [⟨(some 4), .mov (.c (.int .i64 0)), none, false, []⟩] none [0, 1])
  (.seq (.ops [⟨(some 8), .mov (.t 0), none, false, []⟩,
    ⟨(some 5), .mov (.c (.int .i64 0)), none, false, []⟩,
    ⟨(some 6), .mov (.t 8), none, false, []⟩] none [1, 5, 6])
  (.seq (.block 0 (.loop [1] [5, 6] 0
    (.seq (.seq (.ops [⟨(some 9), .mov (.t 5), none, false, []⟩,
      ⟨(some 10), .mov (.t 6), none, false, []⟩,
      ⟨(some 11), .bin .none .lss (.t 9) (.t 10), none, false, []⟩] none [1, 5, 6, 11])
    (.cond (.t 11)
      .skip
      (.exit 0)))
    (.block 1 (.seq (.ops [⟨(some 12), .mov (.t 5), none, false, []⟩,
      ⟨(some 13), .mov (.t 6), none, false, []⟩,
      ⟨(some 14), .bin .none .add (.t 12) (.t 13), none, false, []⟩,
      ⟨(some 15), .conv .u64 (.t 14), none, false, []⟩,
      ⟨(some 16), .bin .none .shr (.t 15) (.c (.int .u64 1)), none, false, []⟩,
      ⟨(some 17), .conv .i64 (.t 16), none, false, []⟩,
      ⟨(some 7), .mov (.t 17), none, false, []⟩] none [1, 5, 6, 7])
    (.seq (.ops [⟨(some 18), .mov (.t 1), none, false, []⟩,
      ⟨(some 19), .mov (.t 7), none, false, []⟩,
      ⟨(some 20), .callv (.t 18) [(.t 19)], none, false, []⟩,
      ⟨(some 21), .not (.t 20), none, false, []⟩] none [1, 5, 6, 7, 21])
    (.cond (.t 21)
      (.ops [⟨(some 22), .mov (.t 7), none, false, []⟩,
        ⟨(some 23), .bin .none .add (.t 22) (.c (.int .i64 1)), none, false, []⟩,
        ⟨(some 5), .mov (.t 23), none, false, []⟩] none [1, 5, 6])
      (.ops [⟨(some 24), .mov (.t 7), none, false, []⟩,
        ⟨(some 6), .mov (.t 24), none, false, []⟩] none [1, 5, 6]))))))))
  (.seq (.ops [⟨(some 25), .mov (.t 5), none, false, []⟩,
    ⟨(some 4), .mov (.t 25), none, false, []⟩] none [4])
  .ret))))
def sort_Search_r : List RRes := [.tmp 4]
def sort_Search_hi : Hi := ⟨[], [(0, "n"), (1, "f"), (2, "n"), (3, "f"), (5, "i"), (6, "j"), (7, "h")]⟩
def sort_Search_an : An := (.seq .d (.seq .d (.seq (.loop [1] [] [] .d) .d)))
def sort_Search_fi : Fi := ⟨26, sort_Search_c, sort_Search_r, sort_Search_an, sort_Search_hi, none⟩
theorem sort_Search_ok : FiOk Try.prog f_sort_Search sort_Search_fi :=
  ⟨fun _ => by kernel_rfl, fun _ h hlen => fun_sound (by kernel_rfl) (fn := Try.f21) (draw_sound _ _) Try.func21 rfl (by kernel_rfl : comp Try.prog 26 _ sort_Search_c = some sort_Search_c) (by kernel_rfl : cRes Try.prog Try.f21.results.toList = some sort_Search_r) hlen h, fun _ h => nomatch h⟩

/-- strings.HasPrefix: slots [0 s, 1 pre, 2 s, 3 pre] -/
def strings_HasPrefix_c : SCode :=
  (.seq (.ops [⟨(some 4), .mov (.c (.bool false)), none, false, []⟩] none [0, 1])
  (.seq (.ops [⟨(some 5), .mov (.t 0), none, false, []⟩,
    ⟨(some 6), .mov (.t 1), none, false, []⟩,
    ⟨(some 7), .call f_internal_stringslite_HasPrefix [(.t 5), (.t 6)], none, false, []⟩,
    ⟨(some 4), .mov (.t 7), none, false, []⟩] none [4])
  .ret))
def strings_HasPrefix_r : List RRes := [.tmp 4]
def strings_HasPrefix_hi : Hi := ⟨[], [(0, "s"), (1, "pre"), (2, "s"), (3, "pre")]⟩
def strings_HasPrefix_an : An := .d
def strings_HasPrefix_fi : Fi := ⟨8, strings_HasPrefix_c, strings_HasPrefix_r, strings_HasPrefix_an, strings_HasPrefix_hi, none⟩
theorem strings_HasPrefix_ok : FiOk Try.prog f_strings_HasPrefix strings_HasPrefix_fi :=
  ⟨fun _ => by kernel_rfl, fun _ h hlen => fun_sound (by kernel_rfl) (fn := Try.f23) (draw_sound _ _) Try.func23 rfl (by kernel_rfl : comp Try.prog 8 _ strings_HasPrefix_c = some strings_HasPrefix_c) (by kernel_rfl : cRes Try.prog Try.f23.results.toList = some strings_HasPrefix_r) hlen h, fun _ h => nomatch h⟩

/-- internal/stringslite.HasPrefix: slots [0 s, 1 pre, 2 s, 3 pre] -/
def internal_stringslite_HasPrefix_c : SCode :=
  (.seq (.ops [⟨(some 4), .mov (.c (.bool false)), none, false, []⟩] none [0, 1])
  (.seq (.ops [⟨(some 5), .mov (.t 0), none, false, []⟩,
    ⟨(some 6), .len true (.t 5), none, false, []⟩,
    ⟨(some 7), .mov (.t 1), none, false, []⟩,
    ⟨(some 8), .len true (.t 7), none, false, []⟩,
    ⟨(some 9), .bin .none .geq (.t 6) (.t 8), none, false, []⟩,
    ⟨(some 10), .mov (.t 9), none, true, []⟩,
    ⟨(some 11), .mov (.t 0), (some (10, true)), false, []⟩,
    ⟨(some 12), .mov (.t 1), (some (10, true)), false, []⟩,
    ⟨(some 13), .len true (.t 12), (some (10, true)), false, []⟩,
    ⟨(some 14), .slice 0 (.t 11) none (some (.t 13)), (some (10, true)), false, []⟩,
    ⟨(some 15), .mov (.t 1), (some (10, true)), false, []⟩,
    ⟨(some 16), .bin .none .eql (.t 14) (.t 15), (some (10, true)), false, []⟩,
    ⟨(some 17), .pick (.t 10) (.t 16) (.c (.bool false)), none, false, []⟩,
    ⟨(some 4), .mov (.t 17), none, false, []⟩] none [4])
  .ret))
def internal_stringslite_HasPrefix_r : List RRes := [.tmp 4]
def internal_stringslite_HasPrefix_hi : Hi := ⟨[], [(0, "s"), (1, "pre"), (2, "s"), (3, "pre")]⟩
def internal_stringslite_HasPrefix_an : An := .d
def internal_stringslite_HasPrefix_fi : Fi := ⟨18, internal_stringslite_HasPrefix_c, internal_stringslite_HasPrefix_r, internal_stringslite_HasPrefix_an, internal_stringslite_HasPrefix_hi, none⟩
theorem internal_stringslite_HasPrefix_ok : FiOk Try.prog f_internal_stringslite_HasPrefix internal_stringslite_HasPrefix_fi :=
  ⟨fun _ => by kernel_rfl, fun _ h hlen => fun_sound (by kernel_rfl) (fn := Try.f37) (draw_sound _ _) Try.func37 rfl (by kernel_rfl : comp Try.prog 18 _ internal_stringslite_HasPrefix_c = some internal_stringslite_HasPrefix_c) (by kernel_rfl : cRes Try.prog Try.f37.results.toList = some internal_stringslite_HasPrefix_r) hlen h, fun _ h => nomatch h⟩

end Go.Proofs.Ytoiebdgnfjgcpaa.S
