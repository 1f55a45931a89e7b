/- The functions' simplified code, printed by a program of the claim's author; each is checked against the program's own code. Conditions: none. -/
import Derived.Test.YtigcaalfadoiaaaProg
import Derived.Test.YtigcaalfadoiaaaVyM
set_option linter.unusedVariables false
set_option maxRecDepth 100000
namespace Go.Proofs.Ytigcaalfadoiaaa
open Go.Vc
abbrev f_gosem_cut_init : Nat := 2
abbrev f_law_DiffCosts : Nat := 3
abbrev f_law_FuzzyFars : Nat := 4
abbrev f_law_FuzzyNears : Nat := 5
abbrev f_law_DiffSteps : Nat := 6
abbrev f_law_HistPlays : Nat := 7
abbrev f_law_HistCounts : Nat := 8
abbrev f_law_MergeMerges : Nat := 9
abbrev f_top_TopMerge : Nat := 10
abbrev f_law_LogSaves : Nat := 11
abbrev f_law_LogLoads : Nat := 12
abbrev f_law_WordsFinds : Nat := 13
abbrev f_law_MarksOrders : Nat := 14
abbrev f_diff_Cost : Nat := 15
abbrev f_ref_DiffCost : Nat := 16
abbrev f_fuzzy_Far : Nat := 17
abbrev f_ref_FuzzyFar : Nat := 18
abbrev f_fuzzy_Near : Nat := 19
abbrev f_ref_FuzzyNear : Nat := 20
abbrev f_diff_Steps : Nat := 21
abbrev f_ref_DiffSteps : Nat := 22
abbrev f_hist_Play : Nat := 23
abbrev f_ref_HistPlayed : Nat := 24
abbrev f_law_sameTexts : Nat := 25
abbrev f_law_sameCodes : Nat := 26
abbrev f_hist_Counts : Nat := 27
abbrev f_merge_Merge : Nat := 28
abbrev f_ref_Merged : Nat := 29
abbrev f_keep_TextOf : Nat := 30
abbrev f_keep_Picked : Nat := 31
abbrev f_edit_Apply : Nat := 32
abbrev f_keep_Few : Nat := 33
abbrev f_top_cutText : Nat := 34
abbrev f_top_sameTexts : Nat := 35
abbrev f_log_Save : Nat := 36
abbrev f_ref_LogSaved : Nat := 37
abbrev f_law_sameBytes : Nat := 38
abbrev f_log_Load : Nat := 39
abbrev f_ref_LogLoaded : Nat := 40
abbrev f_law_sameDeeds : Nat := 41
abbrev f_words_Find : Nat := 42
abbrev f_ref_WordsFind : Nat := 43
abbrev f_law_sameInts : Nat := 44
abbrev f_marks_Order : Nat := 45
abbrev f_ref_MarksOrder : Nat := 46
abbrev f_diff_fault : Nat := 47
abbrev f_diff_costs : Nat := 48
abbrev f_ref_LinesFault : Nat := 49
abbrev f_ref_common : Nat := 50
abbrev f_fuzzy_long : Nat := 51
abbrev f_fuzzy_far : Nat := 52
abbrev f_ref_farOf : Nat := 53
abbrev f_fuzzy_band : Nat := 54
abbrev f_diff_Way : Nat := 55
abbrev f_hist_play : Nat := 56
abbrev f_ref_EditFault : Nat := 57
abbrev f_ref_editMade : Nat := 58
abbrev f___hist_History__Counts : Nat := 59
abbrev f_merge_Merge_1 : Nat := 60
abbrev f_slices_ContainsFunc___string_string_ : Nat := 61
abbrev f_merge_hunks : Nat := 62
abbrev f_merge_part : Nat := 63
abbrev f_merge_made : Nat := 64
abbrev f_slices_Equal___string_string_ : Nat := 65
abbrev f_ref_touched : Nat := 66
abbrev f_ref_Merged_1 : Nat := 67
abbrev f_edit_run : Nat := 68
abbrev f_log_fault : Nat := 69
abbrev f_log_number : Nat := 70
abbrev f_log_text : Nat := 71
abbrev f_poly_Of : Nat := 72
abbrev f_ref_LogFault : Nat := 73
abbrev f_ref_twoBytes : Nat := 74
abbrev f_ref_PolyOf : Nat := 75
abbrev f___log_reader__text : Nat := 76
abbrev f___log_reader__number : Nat := 77
abbrev f___log_reader__deed : Nat := 78
abbrev f_ref_LogLoaded_1 : Nat := 79
abbrev f_ref_LogLoaded_2 : Nat := 80
abbrev f_words_Noted : Nat := 81
abbrev f_words_Of : Nat := 82
abbrev f_ref_wordAt : Nat := 83
abbrev f_slices_SortStableFunc___int_int_ : Nat := 84
abbrev f_marks_Order_1 : Nat := 85
abbrev f_cmp_Or_int_ : Nat := 86
abbrev f_cmp_Compare_int_ : Nat := 87
abbrev f_diff_fault_1 : Nat := 88
abbrev f_fuzzy_long_1 : Nat := 89
abbrev f_diff_add : Nat := 90
abbrev f_hist_New : Nat := 91
abbrev f___hist_History__Deed : Nat := 92
abbrev f_slices_IndexFunc___string_string_ : Nat := 93
abbrev f___merge_side__upTo : Nat := 94
abbrev f_edit_Check : Nat := 95
abbrev f_edit_Undo : Nat := 96
abbrev f_edit_Made : Nat := 97
abbrev f_log_fits : Nat := 98
abbrev f___log_reader__take : Nat := 99
abbrev f_words_part : Nat := 100
abbrev f_words_Each : Nat := 101
abbrev f_words_Of_1 : Nat := 102
abbrev f_ref_letter : Nat := 103
abbrev f_slices_stableCmpFunc_int_ : Nat := 104
abbrev f_cmp_isNaN_int_ : Nat := 105
abbrev f___hist_History__make : Nat := 106
abbrev f_hist_pop : Nat := 107
abbrev f___hist_History__change : Nat := 108
abbrev f_slices_insertionSortCmpFunc_int_ : Nat := 109
abbrev f_slices_symMergeCmpFunc_int_ : Nat := 110
abbrev f_slices_rotateCmpFunc_int_ : Nat := 111
abbrev f_slices_swapRangeCmpFunc_int_ : Nat := 112

/-- fustian/diff.fault: slots [0 ls, 1 ls, 3 long, 4 _, 5 l] -/
def diff_fault_c : SCode :=
  (.seq (.ops [⟨(some 2), .mov (.c (.int .i64 0)), none, false⟩] none [0])
  (.seq (.ops [⟨(some 3), .mov (.c (.fn (.func f_diff_fault_1) [] [])), none, false⟩] none [0, 3])
  (.seq (.seq (.ops [⟨(some 6), .mov (.t 0), none, false⟩,
    ⟨(some 7), .len false (.t 6), none, false⟩,
    ⟨(some 8), .mov (.c (.int .i64 0)), none, false⟩] none [3, 6, 7, 8])
  (.block 0 (.loop [3, 6, 7] [8] 0
    (.seq (.ops [⟨(some 9), .bin .none .lss (.t 8) (.t 7), none, false⟩] none [3, 6, 7, 8, 9])
    (.seq (.cond (.t 9)
      .skip
      (.exit 0))
    (.seq (.block 1 (.seq (.ops [⟨(some 10), .iaddr 1 none (.t 6) (.t 8), none, false⟩,
      ⟨(some 11), .load 1 false (.t 10), none, false⟩,
      ⟨(some 5), .mov (.t 11), none, false⟩] none [3, 5, 6, 7, 8])
    (.seq (.ops [⟨(some 12), .mov (.t 5), none, false⟩,
      ⟨(some 13), .len false (.t 12), none, false⟩,
      ⟨(some 14), .bin .none .gtr (.t 13) (.c (.int .i64 80)), none, false⟩,
      ⟨(some 15), .mov (.t 14), none, true⟩,
      ⟨(some 16), .mov (.t 5), (some (15, false)), false⟩,
      ⟨(some 17), .mov (.t 3), (some (15, false)), false⟩,
      ⟨(some 18), .call f_slices_ContainsFunc___string_string_ [(.t 16), (.t 17)], (some (15, false)), false⟩,
      ⟨(some 19), .pick (.t 15) (.c (.bool true)) (.t 18), none, false⟩] none [3, 6, 7, 8, 19])
    (.cond (.t 19)
      (.seq (.ops [⟨(some 2), .mov (.c (.int .i64 1)), none, false⟩] none [2])
      .ret)
      .skip))))
    (.ops [⟨(some 20), .bin .none .add (.t 8) (.c (.int .i64 1)), none, false⟩,
      ⟨(some 8), .mov (.t 20), none, false⟩] none [3, 6, 7, 8])))))))
  (.seq (.ops [⟨(some 2), .mov (.c (.int .i64 0)), none, false⟩] none [2])
  .ret))))
def diff_fault_r : List RRes := [.tmp 2]
def diff_fault_hi : Hi := ⟨[], [(0, "ls"), (1, "ls"), (3, "long"), (5, "l")]⟩
def diff_fault_an : An := (.seq .d (.seq .d (.seq (.seq .d (.loop [6, 3] [] [] .d)) .d)))
def diff_fault_fi : Fi := ⟨21, diff_fault_c, diff_fault_r, diff_fault_an, diff_fault_hi⟩
theorem diff_fault_ok : FiOk Try.prog f_diff_fault diff_fault_fi :=
  ⟨by kernel_rfl, fun h hlen => fun_sound (fn := Try.f47) (draw_sound _ _) Try.func47 rfl (by kernel_rfl : comp Try.prog 21 _ diff_fault_c = some diff_fault_c) (by kernel_rfl : cRes Try.prog Try.f47.results.toList = some diff_fault_r) hlen h⟩

/-- fustian/diff.Way: slots [0 a, 1 b, 2 a, 3 b, 5 c, 6 out, 7 i, 8 k] -/
def diff_Way_c : SCode :=
  (.seq (.ops [⟨(some 4), .mov (.c .nils), none, false⟩] none [0, 1])
  (.seq (.ops [⟨(some 9), .mov (.t 0), none, false⟩,
    ⟨(some 10), .mov (.t 1), none, false⟩,
    ⟨(some 11), .call f_diff_costs [(.t 9), (.t 10)], none, false⟩,
    ⟨(some 5), .mov (.t 11), none, false⟩] none [0, 1, 5])
  (.seq (.ops [⟨(some 6), .newnil 2, none, false⟩] none [0, 1, 5, 6])
  (.seq (.seq (.ops [⟨(some 7), .mov (.c (.int .i64 0)), none, false⟩,
    ⟨(some 8), .mov (.c (.int .i64 0)), none, false⟩] none [0, 1, 5, 6, 7, 8])
  (.block 0 (.loop [0, 1, 5] [6, 7, 8] 1
    (.seq (.seq (.ops [⟨(some 12), .mov (.t 7), none, false⟩,
      ⟨(some 13), .mov (.t 0), none, false⟩,
      ⟨(some 14), .len false (.t 13), none, false⟩,
      ⟨(some 15), .bin .none .lss (.t 12) (.t 14), none, false⟩,
      ⟨(some 16), .mov (.t 15), none, true⟩,
      ⟨(some 17), .mov (.t 8), (some (16, false)), false⟩,
      ⟨(some 18), .mov (.t 1), (some (16, false)), false⟩,
      ⟨(some 19), .len false (.t 18), (some (16, false)), false⟩,
      ⟨(some 20), .bin .none .lss (.t 17) (.t 19), (some (16, false)), false⟩,
      ⟨(some 21), .pick (.t 16) (.c (.bool true)) (.t 20), none, false⟩] none [0, 1, 5, 6, 7, 8, 21])
    (.cond (.t 21)
      .skip
      (.exit 0)))
    (.block 1 (.block 2 (.seq (.ops [⟨(some 27), .mov (.t 7), none, false⟩,
      ⟨(some 28), .mov (.t 0), none, false⟩,
      ⟨(some 29), .len false (.t 28), none, false⟩,
      ⟨(some 30), .bin .none .lss (.t 27) (.t 29), none, false⟩,
      ⟨(some 31), .mov (.t 30), none, true⟩,
      ⟨(some 32), .mov (.t 8), (some (31, true)), false⟩,
      ⟨(some 33), .mov (.t 1), (some (31, true)), false⟩,
      ⟨(some 34), .len false (.t 33), (some (31, true)), false⟩,
      ⟨(some 35), .bin .none .lss (.t 32) (.t 34), (some (31, true)), false⟩,
      ⟨(some 36), .pick (.t 31) (.t 35) (.c (.bool false)), none, false⟩,
      ⟨(some 37), .mov (.t 36), none, true⟩,
      ⟨(some 38), .mov (.t 0), (some (37, true)), false⟩,
      ⟨(some 39), .mov (.t 7), (some (37, true)), false⟩,
      ⟨(some 40), .iaddr 1 none (.t 38) (.t 39), (some (37, true)), false⟩,
      ⟨(some 41), .load 1 false (.t 40), (some (37, true)), false⟩,
      ⟨(some 42), .mov (.t 1), (some (37, true)), false⟩,
      ⟨(some 43), .mov (.t 8), (some (37, true)), false⟩,
      ⟨(some 44), .iaddr 1 none (.t 42) (.t 43), (some (37, true)), false⟩,
      ⟨(some 45), .load 1 false (.t 44), (some (37, true)), false⟩,
      ⟨(some 46), .bin .none .eql (.t 41) (.t 45), (some (37, true)), false⟩,
      ⟨(some 47), .pick (.t 37) (.t 46) (.c (.bool false)), none, false⟩,
      ⟨(some 26), .mov (.t 47), none, false⟩] (some (0, 0, [0, 1, 2, 3, 4, 5, 6, 7, 8, 9, 10, 11, 12, 13, 14, 15, 16, 17, 18, 19, 20, 21])) [0, 1, 5, 6, 7, 8, 26])
    (.cond (.t 26)
      (.seq (.ops [⟨(some 48), .mov (.t 6), none, false⟩,
        ⟨(some 49), .call f_diff_add [(.t 48), (.c (.int .i64 1))], none, false⟩,
        ⟨(some 6), .mov (.t 49), none, false⟩] none [0, 1, 5, 6, 7, 8])
      (.seq (.ops [⟨(some 50), .mov (.t 7), none, false⟩,
        ⟨(some 51), .bin .none .add (.t 50) (.c (.int .i64 1)), none, false⟩,
        ⟨(some 7), .mov (.t 51), none, false⟩] none [0, 1, 5, 6, 7, 8])
      (.ops [⟨(some 52), .mov (.t 8), none, false⟩,
        ⟨(some 53), .bin .none .add (.t 52) (.c (.int .i64 1)), none, false⟩,
        ⟨(some 8), .mov (.t 53), none, false⟩] none [0, 1, 5, 6, 7, 8])))
      (.seq (.ops [⟨(some 55), .mov (.t 7), none, false⟩,
        ⟨(some 56), .mov (.t 0), none, false⟩,
        ⟨(some 57), .len false (.t 56), none, false⟩,
        ⟨(some 58), .bin .none .lss (.t 55) (.t 57), none, false⟩,
        ⟨(some 59), .mov (.t 58), none, true⟩,
        ⟨(some 60), .mov (.t 5), (some (59, true)), false⟩,
        ⟨(some 61), .mov (.t 7), (some (59, true)), false⟩,
        ⟨(some 62), .bin .none .add (.t 61) (.c (.int .i64 1)), (some (59, true)), false⟩,
        ⟨(some 63), .iaddr 1 none (.t 60) (.t 62), (some (59, true)), false⟩,
        ⟨(some 64), .load 1 false (.t 63), (some (59, true)), false⟩,
        ⟨(some 65), .mov (.t 8), (some (59, true)), false⟩,
        ⟨(some 66), .iaddr 1 none (.t 64) (.t 65), (some (59, true)), false⟩,
        ⟨(some 67), .load 1 false (.t 66), (some (59, true)), false⟩,
        ⟨(some 68), .bin .none .add (.t 67) (.c (.int .i64 1)), (some (59, true)), false⟩,
        ⟨(some 69), .mov (.t 5), (some (59, true)), false⟩,
        ⟨(some 70), .mov (.t 7), (some (59, true)), false⟩,
        ⟨(some 71), .iaddr 1 none (.t 69) (.t 70), (some (59, true)), false⟩,
        ⟨(some 72), .load 1 false (.t 71), (some (59, true)), false⟩,
        ⟨(some 73), .mov (.t 8), (some (59, true)), false⟩,
        ⟨(some 74), .iaddr 1 none (.t 72) (.t 73), (some (59, true)), false⟩,
        ⟨(some 75), .load 1 false (.t 74), (some (59, true)), false⟩,
        ⟨(some 76), .bin .none .eql (.t 68) (.t 75), (some (59, true)), false⟩,
        ⟨(some 77), .pick (.t 59) (.t 76) (.c (.bool false)), none, false⟩,
        ⟨(some 54), .mov (.t 77), none, false⟩] (some (0, 0, [0, 1, 2, 3, 4, 5, 6, 7, 8, 9, 10, 11, 12, 13, 14, 15, 16, 17, 18, 19, 20, 21, 22, 23])) [0, 1, 5, 6, 7, 8, 54])
      (.cond (.t 54)
        (.seq (.ops [⟨(some 78), .mov (.t 6), none, false⟩,
          ⟨(some 79), .call f_diff_add [(.t 78), (.c (.int .i64 2))], none, false⟩,
          ⟨(some 6), .mov (.t 79), none, false⟩] none [0, 1, 5, 6, 7, 8])
        (.ops [⟨(some 80), .mov (.t 7), none, false⟩,
          ⟨(some 81), .bin .none .add (.t 80) (.c (.int .i64 1)), none, false⟩,
          ⟨(some 7), .mov (.t 81), none, false⟩] none [0, 1, 5, 6, 7, 8]))
        (.seq (.ops [⟨(some 22), .mov (.t 6), none, false⟩,
          ⟨(some 23), .call f_diff_add [(.t 22), (.c (.int .i64 3))], none, false⟩,
          ⟨(some 6), .mov (.t 23), none, false⟩] none [0, 1, 5, 6, 7, 8])
        (.ops [⟨(some 24), .mov (.t 8), none, false⟩,
          ⟨(some 25), .bin .none .add (.t 24) (.c (.int .i64 1)), none, false⟩,
          ⟨(some 8), .mov (.t 25), none, false⟩] none [0, 1, 5, 6, 7, 8]))))))))))))
  (.seq (.ops [⟨(some 82), .mov (.t 6), none, false⟩,
    ⟨(some 4), .mov (.t 82), none, false⟩] none [4])
  .ret)))))
def diff_Way_r : List RRes := [.tmp 4]
def diff_Way_hi : Hi := ⟨[(6, (.st (.cons (.int .i64) (.cons (.int .i64) .nil))))], [(0, "a"), (1, "b"), (2, "a"), (3, "b"), (5, "c"), (6, "out"), (7, "i"), (8, "k")]⟩
def diff_Way_an : An := (.seq .d (.seq .d (.seq .d (.seq (.seq .d (.loop [6] [] [6] .d)) .d))))
def diff_Way_fi : Fi := ⟨83, diff_Way_c, diff_Way_r, diff_Way_an, diff_Way_hi⟩
theorem diff_Way_ok : FiOk Try.prog f_diff_Way diff_Way_fi :=
  ⟨by kernel_rfl, fun h hlen => fun_sound (fn := Try.f55) (draw_sound _ _) Try.func55 rfl (by kernel_rfl : comp Try.prog 83 _ diff_Way_c = some diff_Way_c) (by kernel_rfl : cRes Try.prog Try.f55.results.toList = some diff_Way_r) hlen h⟩

/-- fustian/diff.Steps: slots [0 a, 1 b, 2 a, 3 b, 6 e] -/
def diff_Steps_c : SCode :=
  (.seq (.ops [⟨(some 4), .mov (.c .nils), none, false⟩,
    ⟨(some 5), .mov (.c (.int .i64 0)), none, false⟩] none [0, 1])
  (.seq (.seq (.ops [⟨(some 7), .mov (.t 0), none, false⟩,
    ⟨(some 8), .mov (.t 1), none, false⟩,
    ⟨(some 9), .bslice true 2 1 [.nils, .nils] [(0, 1, (.t 7)), (1, 1, (.t 8))], none, false⟩,
    ⟨(some 10), .call f_diff_fault [(.t 9)], none, false⟩,
    ⟨(some 6), .mov (.t 10), none, false⟩] none [0, 1, 6])
  (.seq (.ops [⟨(some 11), .mov (.t 6), none, false⟩,
    ⟨(some 12), .bin .none .neq (.t 11) (.c (.int .i64 0)), none, false⟩] none [0, 1, 6, 12])
  (.cond (.t 12)
    (.seq (.ops [⟨(some 13), .mov (.t 6), none, false⟩,
      ⟨(some 4), .mov (.c .nils), none, false⟩,
      ⟨(some 5), .mov (.t 13), none, false⟩] none [4, 5])
    .ret)
    .skip)))
  (.seq (.ops [⟨(some 14), .mov (.t 0), none, false⟩,
    ⟨(some 15), .mov (.t 1), none, false⟩,
    ⟨(some 16), .call f_diff_Way [(.t 14), (.t 15)], none, false⟩,
    ⟨(some 4), .mov (.t 16), none, false⟩,
    ⟨(some 5), .mov (.c (.int .i64 0)), none, false⟩] none [4, 5])
  .ret)))
def diff_Steps_r : List RRes := [.tmp 4, .tmp 5]
def diff_Steps_hi : Hi := ⟨[(9, (.sl .str))], [(0, "a"), (1, "b"), (2, "a"), (3, "b"), (6, "e")]⟩
def diff_Steps_an : An := .d
def diff_Steps_fi : Fi := ⟨17, diff_Steps_c, diff_Steps_r, diff_Steps_an, diff_Steps_hi⟩
theorem diff_Steps_ok : FiOk Try.prog f_diff_Steps diff_Steps_fi :=
  ⟨by kernel_rfl, fun h hlen => fun_sound (fn := Try.f21) (draw_sound _ _) Try.func21 rfl (by kernel_rfl : comp Try.prog 17 _ diff_Steps_c = some diff_Steps_c) (by kernel_rfl : cRes Try.prog Try.f21.results.toList = some diff_Steps_r) hlen h⟩

/-- fustian/fustianref.LinesFault: slots [0 ls, 1 ls, 3 _, 4 l, 5 _, 6 s] -/
def ref_LinesFault_c : SCode :=
  (.seq (.ops [⟨(some 2), .mov (.c (.int .i64 0)), none, false⟩] none [0])
  (.seq (.seq (.ops [⟨(some 7), .mov (.t 0), none, false⟩,
    ⟨(some 8), .len false (.t 7), none, false⟩,
    ⟨(some 9), .mov (.c (.int .i64 0)), none, false⟩] none [7, 8, 9])
  (.block 0 (.loop [7, 8] [9] 0
    (.seq (.ops [⟨(some 10), .bin .none .lss (.t 9) (.t 8), none, false⟩] none [7, 8, 9, 10])
    (.seq (.cond (.t 10)
      .skip
      (.exit 0))
    (.seq (.block 1 (.seq (.ops [⟨(some 11), .iaddr 1 none (.t 7) (.t 9), none, false⟩,
      ⟨(some 12), .load 1 false (.t 11), none, false⟩,
      ⟨(some 4), .mov (.t 12), none, false⟩] none [4, 7, 8, 9])
    (.seq (.seq (.ops [⟨(some 13), .mov (.t 4), none, false⟩,
      ⟨(some 14), .len false (.t 13), none, false⟩,
      ⟨(some 15), .bin .none .gtr (.t 14) (.c (.int .i64 80)), none, false⟩] none [4, 7, 8, 9, 15])
    (.cond (.t 15)
      (.seq (.ops [⟨(some 2), .mov (.c (.int .i64 1)), none, false⟩] none [2])
      .ret)
      .skip))
    (.seq (.ops [⟨(some 16), .mov (.t 4), none, false⟩,
      ⟨(some 17), .len false (.t 16), none, false⟩,
      ⟨(some 18), .mov (.c (.int .i64 0)), none, false⟩] none [7, 8, 9, 16, 17, 18])
    (.block 2 (.loop [7, 8, 9, 16, 17] [18] 0
      (.seq (.ops [⟨(some 19), .bin .none .lss (.t 18) (.t 17), none, false⟩] none [7, 8, 9, 16, 17, 18, 19])
      (.seq (.cond (.t 19)
        .skip
        (.exit 2))
      (.seq (.block 3 (.seq (.ops [⟨(some 20), .iaddr 1 none (.t 16) (.t 18), none, false⟩,
        ⟨(some 21), .load 1 false (.t 20), none, false⟩,
        ⟨(some 6), .mov (.t 21), none, false⟩] none [6, 7, 8, 9, 16, 17, 18])
      (.seq (.ops [⟨(some 22), .mov (.t 6), none, false⟩,
        ⟨(some 23), .len true (.t 22), none, false⟩,
        ⟨(some 24), .bin .none .gtr (.t 23) (.c (.int .i64 600)), none, false⟩] none [7, 8, 9, 16, 17, 18, 24])
      (.cond (.t 24)
        (.seq (.ops [⟨(some 2), .mov (.c (.int .i64 1)), none, false⟩] none [2])
        .ret)
        .skip))))
      (.ops [⟨(some 25), .bin .none .add (.t 18) (.c (.int .i64 1)), none, false⟩,
        ⟨(some 18), .mov (.t 25), none, false⟩] none [7, 8, 9, 16, 17, 18]))))))))))
    (.ops [⟨(some 26), .bin .none .add (.t 9) (.c (.int .i64 1)), none, false⟩,
      ⟨(some 9), .mov (.t 26), none, false⟩] none [7, 8, 9])))))))
  (.seq (.ops [⟨(some 2), .mov (.c (.int .i64 0)), none, false⟩] none [2])
  .ret)))
def ref_LinesFault_r : List RRes := [.tmp 2]
def ref_LinesFault_hi : Hi := ⟨[], [(0, "ls"), (1, "ls"), (4, "l"), (6, "s")]⟩
def ref_LinesFault_an : An := (.seq .d (.seq (.seq .d (.loop [] [] [] (.seq .d (.seq .d (.seq (.seq .d (.seq .d (.seq .d (.loop [] [] [] .d)))) .d))))) .d))
def ref_LinesFault_fi : Fi := ⟨27, ref_LinesFault_c, ref_LinesFault_r, ref_LinesFault_an, ref_LinesFault_hi⟩
theorem ref_LinesFault_ok : FiOk Try.prog f_ref_LinesFault ref_LinesFault_fi :=
  ⟨by kernel_rfl, fun h hlen => fun_sound (fn := Try.f49) (draw_sound _ _) Try.func49 rfl (by kernel_rfl : comp Try.prog 27 _ ref_LinesFault_c = some ref_LinesFault_c) (by kernel_rfl : cRes Try.prog Try.f49.results.toList = some ref_LinesFault_r) hlen h⟩

/-- fustian/fustianref.common: slots [0 a, 1 b, 2 a, 3 b, 5 row, 6 _, 7 x, 8 next, 9 k, 10 y] -/
def ref_common_c : SCode :=
  (.seq (.ops [⟨(some 4), .mov (.c (.int .i64 0)), none, false⟩] none [0, 1])
  (.seq (.ops [⟨(some 11), .mov (.t 1), none, false⟩,
    ⟨(some 12), .len false (.t 11), none, false⟩,
    ⟨(some 13), .bin .none .add (.t 12) (.c (.int .i64 1)), none, false⟩,
    ⟨(some 14), .mkslice 1 8 [(.int .i64 0)] (.t 13) (.t 13), none, false⟩,
    ⟨(some 5), .mov (.t 14), none, false⟩] none [0, 1, 5])
  (.seq (.seq (.ops [⟨(some 15), .mov (.t 0), none, false⟩,
    ⟨(some 16), .len false (.t 15), none, false⟩,
    ⟨(some 17), .mov (.c (.int .i64 0)), none, false⟩] none [1, 5, 15, 16, 17])
  (.block 0 (.loop [1, 15, 16] [5, 17] 1
    (.seq (.ops [⟨(some 18), .bin .none .lss (.t 17) (.t 16), none, false⟩] none [1, 5, 15, 16, 17, 18])
    (.seq (.cond (.t 18)
      .skip
      (.exit 0))
    (.seq (.block 1 (.seq (.ops [⟨(some 19), .iaddr 1 none (.t 15) (.t 17), none, false⟩,
      ⟨(some 20), .load 1 false (.t 19), none, false⟩,
      ⟨(some 7), .mov (.t 20), none, false⟩] none [1, 5, 7, 15, 16, 17])
    (.seq (.ops [⟨(some 21), .mov (.t 1), none, false⟩,
      ⟨(some 22), .len false (.t 21), none, false⟩,
      ⟨(some 23), .bin .none .add (.t 22) (.c (.int .i64 1)), none, false⟩,
      ⟨(some 24), .mkslice 1 8 [(.int .i64 0)] (.t 23) (.t 23), none, false⟩,
      ⟨(some 8), .mov (.t 24), none, false⟩] none [1, 5, 7, 8, 15, 16, 17])
    (.seq (.seq (.ops [⟨(some 25), .mov (.t 1), none, false⟩,
      ⟨(some 26), .len false (.t 25), none, false⟩,
      ⟨(some 27), .mov (.c (.int .i64 0)), none, false⟩] none [1, 5, 7, 8, 15, 16, 17, 25, 26, 27])
    (.block 2 (.loop [1, 5, 7, 8, 15, 16, 17, 25, 26] [27] 2
      (.seq (.ops [⟨(some 28), .bin .none .lss (.t 27) (.t 26), none, false⟩] none [1, 5, 7, 8, 15, 16, 17, 25, 26, 27, 28])
      (.seq (.cond (.t 28)
        .skip
        (.exit 2))
      (.join [1, 5, 7, 8, 15, 16, 17, 25, 26, 27] [] 2 (.block 3 (.seq (.ops [⟨(some 29), .mov (.t 27), none, false⟩,
          ⟨(some 30), .iaddr 1 none (.t 25) (.t 27), none, false⟩,
          ⟨(some 31), .load 1 false (.t 30), none, false⟩,
          ⟨(some 9), .mov (.t 29), none, false⟩,
          ⟨(some 10), .mov (.t 31), none, false⟩] none [1, 5, 7, 8, 9, 10, 15, 16, 17, 25, 26, 27])
        (.seq (.ops [⟨(some 32), .mov (.t 8), none, false⟩,
          ⟨(some 33), .mov (.t 9), none, false⟩,
          ⟨(some 34), .bin .none .add (.t 33) (.c (.int .i64 1)), none, false⟩,
          ⟨(some 35), .mov (.t 5), none, false⟩,
          ⟨(some 36), .mov (.t 9), none, false⟩,
          ⟨(some 37), .bin .none .add (.t 36) (.c (.int .i64 1)), none, false⟩,
          ⟨(some 38), .iaddr 1 none (.t 35) (.t 37), none, false⟩,
          ⟨(some 39), .load 1 false (.t 38), none, false⟩,
          ⟨(some 40), .mov (.t 8), none, false⟩,
          ⟨(some 41), .mov (.t 9), none, false⟩,
          ⟨(some 42), .iaddr 1 none (.t 40) (.t 41), none, false⟩,
          ⟨(some 43), .load 1 false (.t 42), none, false⟩,
          ⟨(some 44), .max [(.t 39), (.t 43)], none, false⟩,
          ⟨(some 45), .iaddr 1 none (.t 32) (.t 34), none, false⟩,
          ⟨none, .store 1 (.t 45) (.t 44), none, false⟩] (some (0, 0, [0, 1, 2, 3, 4, 5, 6, 7, 8, 9, 10, 11, 12, 13, 14])) [1, 5, 7, 8, 9, 10, 15, 16, 17, 25, 26, 27])
        (.seq (.ops [⟨(some 46), .mov (.t 7), none, false⟩,
          ⟨(some 47), .mov (.t 10), none, false⟩,
          ⟨(some 48), .bin .none .eql (.t 46) (.t 47), none, false⟩] none [1, 5, 7, 8, 9, 15, 16, 17, 25, 26, 27, 48])
        (.cond (.t 48)
          (.ops [⟨(some 49), .mov (.t 8), none, false⟩,
            ⟨(some 50), .mov (.t 9), none, false⟩,
            ⟨(some 51), .bin .none .add (.t 50) (.c (.int .i64 1)), none, false⟩,
            ⟨(some 52), .mov (.t 8), none, false⟩,
            ⟨(some 53), .mov (.t 9), none, false⟩,
            ⟨(some 54), .bin .none .add (.t 53) (.c (.int .i64 1)), none, false⟩,
            ⟨(some 55), .iaddr 1 none (.t 52) (.t 54), none, false⟩,
            ⟨(some 56), .load 1 false (.t 55), none, false⟩,
            ⟨(some 57), .mov (.t 5), none, false⟩,
            ⟨(some 58), .mov (.t 9), none, false⟩,
            ⟨(some 59), .iaddr 1 none (.t 57) (.t 58), none, false⟩,
            ⟨(some 60), .load 1 false (.t 59), none, false⟩,
            ⟨(some 61), .bin .none .add (.t 60) (.c (.int .i64 1)), none, false⟩,
            ⟨(some 62), .max [(.t 56), (.t 61)], none, false⟩,
            ⟨(some 63), .iaddr 1 none (.t 49) (.t 51), none, false⟩,
            ⟨none, .store 1 (.t 63) (.t 62), none, false⟩] (some (0, 0, [0, 1, 2, 3, 4, 5, 6, 7, 8, 9, 10, 11, 12, 13, 14, 15])) [1, 5, 7, 8, 15, 16, 17, 25, 26, 27])
          .skip)))))
      (.ops [⟨(some 64), .bin .none .add (.t 27) (.c (.int .i64 1)), none, false⟩,
        ⟨(some 27), .mov (.t 64), none, false⟩] none [1, 5, 7, 8, 15, 16, 17, 25, 26, 27])))))))
    (.ops [⟨(some 65), .mov (.t 8), none, false⟩,
      ⟨(some 5), .mov (.t 65), none, false⟩] none [1, 5, 15, 16, 17])))))
    (.ops [⟨(some 66), .bin .none .add (.t 17) (.c (.int .i64 1)), none, false⟩,
      ⟨(some 17), .mov (.t 66), none, false⟩] none [1, 5, 15, 16, 17])))))))
  (.seq (.ops [⟨(some 67), .mov (.t 5), none, false⟩,
    ⟨(some 68), .mov (.t 1), none, false⟩,
    ⟨(some 69), .len false (.t 68), none, false⟩,
    ⟨(some 70), .iaddr 1 none (.t 67) (.t 69), none, false⟩,
    ⟨(some 71), .load 1 false (.t 70), none, false⟩,
    ⟨(some 4), .mov (.t 71), none, false⟩] none [4])
  .ret))))
def ref_common_r : List RRes := [.tmp 4]
def ref_common_hi : Hi := ⟨[(14, (.int .i64)), (24, (.int .i64))], [(0, "a"), (1, "b"), (2, "a"), (3, "b"), (5, "row"), (7, "x"), (8, "next"), (9, "k"), (10, "y")]⟩
def ref_common_an : An := (.seq .d (.seq .d (.seq (.seq .d (.loop [5] [] [5] (.seq .d (.seq .d (.seq (.seq .d (.seq .d (.seq (.seq .d (.loop [8] [] [] .d)) .d))) .d))))) .d)))
def ref_common_fi : Fi := ⟨72, ref_common_c, ref_common_r, ref_common_an, ref_common_hi⟩
theorem ref_common_ok : FiOk Try.prog f_ref_common ref_common_fi :=
  ⟨by kernel_rfl, fun h hlen => fun_sound (fn := Try.f50) (draw_sound _ _) Try.func50 rfl (by kernel_rfl : comp Try.prog 72 _ ref_common_c = some ref_common_c) (by kernel_rfl : cRes Try.prog Try.f50.results.toList = some ref_common_r) hlen h⟩

/-- fustian/fustianref.DiffSteps: slots [0 a, 1 b, 2 a, 3 b, 6 e, 7 kinds, 8 out, 9 i, 10 k] -/
def ref_DiffSteps_c : SCode :=
  (.seq (.ops [⟨(some 4), .mov (.c .nils), none, false⟩,
    ⟨(some 5), .mov (.c (.int .i64 0)), none, false⟩] none [0, 1])
  (.seq (.seq (.ops [⟨(some 11), .mov (.t 0), none, false⟩,
    ⟨(some 12), .mov (.t 1), none, false⟩,
    ⟨(some 13), .bslice true 2 1 [.nils, .nils] [(0, 1, (.t 11)), (1, 1, (.t 12))], none, false⟩,
    ⟨(some 14), .call f_ref_LinesFault [(.t 13)], none, false⟩,
    ⟨(some 6), .mov (.t 14), none, false⟩] none [0, 1, 6])
  (.seq (.ops [⟨(some 15), .mov (.t 6), none, false⟩,
    ⟨(some 16), .bin .none .neq (.t 15) (.c (.int .i64 0)), none, false⟩] none [0, 1, 6, 16])
  (.cond (.t 16)
    (.seq (.ops [⟨(some 17), .mov (.t 6), none, false⟩,
      ⟨(some 4), .mov (.c .nils), none, false⟩,
      ⟨(some 5), .mov (.t 17), none, false⟩] none [4, 5])
    .ret)
    .skip)))
  (.seq (.ops [⟨(some 7), .newnil 1, none, false⟩] none [0, 1, 7])
  (.seq (.block 0 (.loop [] [0, 1, 7] 1
    (.seq (.seq (.ops [⟨(some 18), .mov (.t 0), none, false⟩,
      ⟨(some 19), .len false (.t 18), none, false⟩,
      ⟨(some 20), .bin .none .gtr (.t 19) (.c (.int .i64 0)), none, false⟩,
      ⟨(some 21), .mov (.t 20), none, true⟩,
      ⟨(some 22), .mov (.t 1), (some (21, false)), false⟩,
      ⟨(some 23), .len false (.t 22), (some (21, false)), false⟩,
      ⟨(some 24), .bin .none .gtr (.t 23) (.c (.int .i64 0)), (some (21, false)), false⟩,
      ⟨(some 25), .pick (.t 21) (.c (.bool true)) (.t 24), none, false⟩] none [0, 1, 7, 25])
    (.cond (.t 25)
      .skip
      (.exit 0)))
    (.block 1 (.block 2 (.seq (.ops [⟨(some 32), .mov (.t 0), none, false⟩,
      ⟨(some 33), .len false (.t 32), none, false⟩,
      ⟨(some 34), .bin .none .gtr (.t 33) (.c (.int .i64 0)), none, false⟩,
      ⟨(some 35), .mov (.t 34), none, true⟩,
      ⟨(some 36), .mov (.t 1), (some (35, true)), false⟩,
      ⟨(some 37), .len false (.t 36), (some (35, true)), false⟩,
      ⟨(some 38), .bin .none .gtr (.t 37) (.c (.int .i64 0)), (some (35, true)), false⟩,
      ⟨(some 39), .pick (.t 35) (.t 38) (.c (.bool false)), none, false⟩,
      ⟨(some 40), .mov (.t 39), none, true⟩,
      ⟨(some 41), .mov (.t 0), (some (40, true)), false⟩,
      ⟨(some 42), .iaddr 1 none (.t 41) (.c (.int .i64 0)), (some (40, true)), false⟩,
      ⟨(some 43), .load 1 false (.t 42), (some (40, true)), false⟩,
      ⟨(some 44), .mov (.t 1), (some (40, true)), false⟩,
      ⟨(some 45), .iaddr 1 none (.t 44) (.c (.int .i64 0)), (some (40, true)), false⟩,
      ⟨(some 46), .load 1 false (.t 45), (some (40, true)), false⟩,
      ⟨(some 47), .bin .none .eql (.t 43) (.t 46), (some (40, true)), false⟩,
      ⟨(some 48), .pick (.t 40) (.t 47) (.c (.bool false)), none, false⟩,
      ⟨(some 31), .mov (.t 48), none, false⟩] (some (0, 0, [0, 1, 2, 3, 4, 5, 6, 7, 8, 9, 10, 11, 12, 13, 14, 15, 16, 17])) [0, 1, 7, 31])
    (.cond (.t 31)
      (.seq (.ops [⟨(some 49), .mov (.t 7), none, false⟩,
        ⟨(some 50), .bslice true 1 1 [(.int .i64 0)] [(0, 1, (.c (.int .i64 1)))], none, false⟩,
        ⟨(some 51), .append 1 8 (.t 49) (.t 50), none, false⟩,
        ⟨(some 7), .mov (.t 51), none, false⟩] none [0, 1, 7])
      (.ops [⟨(some 52), .mov (.t 0), none, false⟩,
        ⟨(some 53), .slice 1 (.t 52) (some (.c (.int .i64 1))) none, none, false⟩,
        ⟨(some 54), .mov (.t 1), none, false⟩,
        ⟨(some 55), .slice 1 (.t 54) (some (.c (.int .i64 1))) none, none, false⟩,
        ⟨(some 0), .mov (.t 53), none, false⟩,
        ⟨(some 1), .mov (.t 55), none, false⟩] (some (0, 0, [0, 1, 2, 3, 4, 5])) [0, 1, 7]))
      (.seq (.ops [⟨(some 57), .mov (.t 0), none, false⟩,
        ⟨(some 58), .len false (.t 57), none, false⟩,
        ⟨(some 59), .bin .none .gtr (.t 58) (.c (.int .i64 0)), none, false⟩,
        ⟨(some 60), .mov (.t 59), none, true⟩,
        ⟨(some 61), .mov (.t 0), (some (60, true)), false⟩,
        ⟨(some 62), .slice 1 (.t 61) (some (.c (.int .i64 1))) none, (some (60, true)), false⟩,
        ⟨(some 63), .mov (.t 1), (some (60, true)), false⟩,
        ⟨(some 64), .call f_ref_common [(.t 62), (.t 63)], (some (60, true)), false⟩,
        ⟨(some 65), .mov (.t 0), (some (60, true)), false⟩,
        ⟨(some 66), .mov (.t 1), (some (60, true)), false⟩,
        ⟨(some 67), .call f_ref_common [(.t 65), (.t 66)], (some (60, true)), false⟩,
        ⟨(some 68), .bin .none .eql (.t 64) (.t 67), (some (60, true)), false⟩,
        ⟨(some 69), .pick (.t 60) (.t 68) (.c (.bool false)), none, false⟩,
        ⟨(some 56), .mov (.t 69), none, false⟩] none [0, 1, 7, 56])
      (.cond (.t 56)
        (.seq (.ops [⟨(some 70), .mov (.t 7), none, false⟩,
          ⟨(some 71), .bslice true 1 1 [(.int .i64 0)] [(0, 1, (.c (.int .i64 2)))], none, false⟩,
          ⟨(some 72), .append 1 8 (.t 70) (.t 71), none, false⟩,
          ⟨(some 7), .mov (.t 72), none, false⟩] none [0, 1, 7])
        (.ops [⟨(some 73), .mov (.t 0), none, false⟩,
          ⟨(some 74), .slice 1 (.t 73) (some (.c (.int .i64 1))) none, none, false⟩,
          ⟨(some 0), .mov (.t 74), none, false⟩] none [0, 1, 7]))
        (.seq (.ops [⟨(some 26), .mov (.t 7), none, false⟩,
          ⟨(some 27), .bslice true 1 1 [(.int .i64 0)] [(0, 1, (.c (.int .i64 3)))], none, false⟩,
          ⟨(some 28), .append 1 8 (.t 26) (.t 27), none, false⟩,
          ⟨(some 7), .mov (.t 28), none, false⟩] none [0, 1, 7])
        (.ops [⟨(some 29), .mov (.t 1), none, false⟩,
          ⟨(some 30), .slice 1 (.t 29) (some (.c (.int .i64 1))) none, none, false⟩,
          ⟨(some 1), .mov (.t 30), none, false⟩] none [0, 1, 7])))))))))))
  (.seq (.ops [⟨(some 8), .newnil 2, none, false⟩] none [7, 8])
  (.seq (.seq (.ops [⟨(some 75), .mov (.t 7), none, false⟩,
    ⟨(some 76), .len false (.t 75), none, false⟩,
    ⟨(some 77), .mov (.c (.int .i64 0)), none, false⟩] none [7, 8, 75, 76, 77])
  (.block 3 (.loop [7, 75, 76] [8, 77] 2
    (.seq (.ops [⟨(some 78), .bin .none .lss (.t 77) (.t 76), none, false⟩] none [7, 8, 75, 76, 77, 78])
    (.seq (.cond (.t 78)
      .skip
      (.exit 3))
    (.join [7, 75, 76, 77] [8] 2 (.block 4 (.seq (.ops [⟨(some 79), .mov (.t 77), none, false⟩,
        ⟨(some 80), .iaddr 1 none (.t 75) (.t 77), none, false⟩,
        ⟨(some 81), .load 1 false (.t 80), none, false⟩,
        ⟨(some 9), .mov (.t 79), none, false⟩,
        ⟨(some 10), .mov (.t 81), none, false⟩] none [7, 8, 9, 10, 75, 76, 77])
      (.seq (.ops [⟨(some 82), .mov (.t 9), none, false⟩,
        ⟨(some 83), .bin .none .gtr (.t 82) (.c (.int .i64 0)), none, false⟩,
        ⟨(some 84), .mov (.t 83), none, true⟩,
        ⟨(some 85), .mov (.t 7), (some (84, true)), false⟩,
        ⟨(some 86), .mov (.t 9), (some (84, true)), false⟩,
        ⟨(some 87), .bin .none .sub (.t 86) (.c (.int .i64 1)), (some (84, true)), false⟩,
        ⟨(some 88), .iaddr 1 none (.t 85) (.t 87), (some (84, true)), false⟩,
        ⟨(some 89), .load 1 false (.t 88), (some (84, true)), false⟩,
        ⟨(some 90), .mov (.t 10), (some (84, true)), false⟩,
        ⟨(some 91), .bin .none .eql (.t 89) (.t 90), (some (84, true)), false⟩,
        ⟨(some 92), .pick (.t 84) (.t 91) (.c (.bool false)), none, false⟩] none [7, 8, 10, 75, 76, 77, 92])
      (.cond (.t 92)
        (.ops [⟨(some 93), .mov (.t 8), none, false⟩,
          ⟨(some 94), .mov (.t 8), none, false⟩,
          ⟨(some 95), .len false (.t 94), none, false⟩,
          ⟨(some 96), .bin .none .sub (.t 95) (.c (.int .i64 1)), none, false⟩,
          ⟨(some 97), .iaddr 2 none (.t 93) (.t 96), none, false⟩,
          ⟨(some 98), .faddr 1 (.t 97), none, false⟩,
          ⟨(some 99), .load 1 false (.t 98), none, false⟩,
          ⟨(some 100), .bin .none .add (.t 99) (.c (.int .i64 1)), none, false⟩,
          ⟨(some 101), .iaddr 2 none (.t 93) (.t 96), none, false⟩,
          ⟨(some 102), .faddr 1 (.t 101), none, false⟩,
          ⟨none, .store 1 (.t 102) (.t 100), none, false⟩] none [7, 8, 75, 76, 77])
        (.ops [⟨(some 103), .mov (.t 8), none, false⟩,
          ⟨(some 104), .mov (.t 10), none, false⟩,
          ⟨(some 105), .build [(.int .i64 0), (.int .i64 0)] [(0, 1, (.t 104)), (1, 1, (.c (.int .i64 1)))], none, false⟩,
          ⟨(some 106), .bslice true 1 2 [(.int .i64 0), (.int .i64 0)] [(0, 2, (.t 105))], none, false⟩,
          ⟨(some 107), .append 2 16 (.t 103) (.t 106), none, false⟩,
          ⟨(some 8), .mov (.t 107), none, false⟩] none [7, 8, 75, 76, 77])))))
    (.ops [⟨(some 108), .bin .none .add (.t 77) (.c (.int .i64 1)), none, false⟩,
      ⟨(some 77), .mov (.t 108), none, false⟩] none [7, 8, 75, 76, 77])))))))
  (.seq (.ops [⟨(some 109), .mov (.t 8), none, false⟩,
    ⟨(some 4), .mov (.t 109), none, false⟩,
    ⟨(some 5), .mov (.c (.int .i64 0)), none, false⟩] none [4, 5])
  .ret)))))))
def ref_DiffSteps_r : List RRes := [.tmp 4, .tmp 5]
def ref_DiffSteps_hi : Hi := ⟨[(13, (.sl .str)), (7, (.int .i64)), (50, (.int .i64)), (51, (.int .i64)), (71, (.int .i64)), (72, (.int .i64)), (27, (.int .i64)), (28, (.int .i64)), (8, (.st (.cons (.int .i64) (.cons (.int .i64) .nil)))), (106, (.st (.cons (.int .i64) (.cons (.int .i64) .nil)))), (107, (.st (.cons (.int .i64) (.cons (.int .i64) .nil))))], [(0, "a"), (1, "b"), (2, "a"), (3, "b"), (6, "e"), (7, "kinds"), (8, "out"), (9, "i"), (10, "k")]⟩
def ref_DiffSteps_an : An := (.seq .d (.seq .d (.seq .d (.seq (.loop [7, 0, 1] [] [] .d) (.seq .d (.seq (.seq .d (.loop [8] [] [] .d)) .d))))))
def ref_DiffSteps_fi : Fi := ⟨110, ref_DiffSteps_c, ref_DiffSteps_r, ref_DiffSteps_an, ref_DiffSteps_hi⟩
theorem ref_DiffSteps_ok : FiOk Try.prog f_ref_DiffSteps ref_DiffSteps_fi :=
  ⟨by kernel_rfl, fun h hlen => fun_sound (fn := Try.f22) (draw_sound _ _) Try.func22 rfl (by kernel_rfl : comp Try.prog 110 _ ref_DiffSteps_c = some ref_DiffSteps_c) (by kernel_rfl : cRes Try.prog Try.f22.results.toList = some ref_DiffSteps_r) hlen h⟩

/-- fustian/fustianlaw.DiffSteps: slots [0 a, 1 b, 2 a, 3 b, 5 x, 6 e, 7 y, 8 f, 9 i] -/
def law_DiffSteps_c : SCode :=
  (.seq (.ops [⟨(some 4), .mov (.c (.bool false)), none, false⟩] none [0, 1])
  (.seq (.ops [⟨(some 11), .mov (.t 0), none, false⟩,
    ⟨(some 12), .mov (.t 1), none, false⟩,
    ⟨(some 13), .call f_diff_Steps [(.t 11), (.t 12)], none, false⟩,
    ⟨(some 10), .mov (.t 13), none, false⟩,
    ⟨(some 14), .extract (.t 10) 0, none, false⟩,
    ⟨(some 15), .extract (.t 10) 1, none, false⟩,
    ⟨(some 5), .mov (.t 14), none, false⟩,
    ⟨(some 6), .mov (.t 15), none, false⟩] none [0, 1, 5, 6])
  (.seq (.ops [⟨(some 17), .mov (.t 0), none, false⟩,
    ⟨(some 18), .mov (.t 1), none, false⟩,
    ⟨(some 19), .call f_ref_DiffSteps [(.t 17), (.t 18)], none, false⟩,
    ⟨(some 16), .mov (.t 19), none, false⟩,
    ⟨(some 20), .extract (.t 16) 0, none, false⟩,
    ⟨(some 21), .extract (.t 16) 1, none, false⟩,
    ⟨(some 7), .mov (.t 20), none, false⟩,
    ⟨(some 8), .mov (.t 21), none, false⟩] none [5, 6, 7, 8])
  (.seq (.seq (.ops [⟨(some 22), .mov (.t 5), none, false⟩,
    ⟨(some 23), .len false (.t 22), none, false⟩,
    ⟨(some 24), .mov (.t 7), none, false⟩,
    ⟨(some 25), .len false (.t 24), none, false⟩,
    ⟨(some 26), .bin .none .neq (.t 23) (.t 25), none, false⟩,
    ⟨(some 27), .mov (.t 26), none, true⟩,
    ⟨(some 28), .mov (.t 6), (some (27, false)), false⟩,
    ⟨(some 29), .mov (.t 8), (some (27, false)), false⟩,
    ⟨(some 30), .bin .none .neq (.t 28) (.t 29), (some (27, false)), false⟩,
    ⟨(some 31), .pick (.t 27) (.c (.bool true)) (.t 30), none, false⟩] none [5, 7, 31])
  (.cond (.t 31)
    (.seq (.ops [⟨(some 4), .mov (.c (.bool false)), none, false⟩] none [4])
    .ret)
    .skip))
  (.seq (.seq (.ops [⟨(some 9), .mov (.c (.int .i64 0)), none, false⟩] none [5, 7, 9])
  (.block 0 (.loop [5, 7] [9] 0
    (.seq (.seq (.ops [⟨(some 32), .mov (.t 9), none, false⟩,
      ⟨(some 33), .mov (.t 5), none, false⟩,
      ⟨(some 34), .len false (.t 33), none, false⟩,
      ⟨(some 35), .bin .none .lss (.t 32) (.t 34), none, false⟩] none [5, 7, 9, 35])
    (.cond (.t 35)
      .skip
      (.exit 0)))
    (.seq (.block 1 (.seq (.ops [⟨(some 38), .mov (.t 5), none, false⟩,
      ⟨(some 39), .mov (.t 9), none, false⟩,
      ⟨(some 40), .iaddr 2 none (.t 38) (.t 39), none, false⟩,
      ⟨(some 41), .load 2 true (.t 40), none, false⟩,
      ⟨(some 42), .mov (.t 7), none, false⟩,
      ⟨(some 43), .mov (.t 9), none, false⟩,
      ⟨(some 44), .iaddr 2 none (.t 42) (.t 43), none, false⟩,
      ⟨(some 45), .load 2 true (.t 44), none, false⟩,
      ⟨(some 46), .bin (.agg [.int, .int]) .neq (.t 41) (.t 45), none, false⟩] (some (0, 0, [0, 1, 2, 3, 4, 5, 6, 7, 8])) [5, 7, 9, 46])
    (.cond (.t 46)
      (.seq (.ops [⟨(some 4), .mov (.c (.bool false)), none, false⟩] none [4])
      .ret)
      .skip)))
    (.ops [⟨(some 36), .mov (.t 9), none, false⟩,
      ⟨(some 37), .bin .none .add (.t 36) (.c (.int .i64 1)), none, false⟩,
      ⟨(some 9), .mov (.t 37), none, false⟩] none [5, 7, 9]))))))
  (.seq (.ops [⟨(some 4), .mov (.c (.bool true)), none, false⟩] none [4])
  .ret))))))
def law_DiffSteps_r : List RRes := [.tmp 4]
def law_DiffSteps_hi : Hi := ⟨[], [(0, "a"), (1, "b"), (2, "a"), (3, "b"), (5, "x"), (6, "e"), (7, "y"), (8, "f"), (9, "i")]⟩
def law_DiffSteps_an : An := (.seq .d (.seq .d (.seq .d (.seq .d (.seq (.seq .d (.loop [] [] [] .d)) .d)))))
def law_DiffSteps_fi : Fi := ⟨47, law_DiffSteps_c, law_DiffSteps_r, law_DiffSteps_an, law_DiffSteps_hi⟩
theorem law_DiffSteps_ok : FiOk Try.prog f_law_DiffSteps law_DiffSteps_fi :=
  ⟨by kernel_rfl, fun h hlen => fun_sound (fn := Try.f6) (draw_sound _ _) Try.func6 rfl (by kernel_rfl : comp Try.prog 47 _ law_DiffSteps_c = some law_DiffSteps_c) (by kernel_rfl : cRes Try.prog Try.f6.results.toList = some law_DiffSteps_r) hlen h⟩

/-- slices.ContainsFunc[[]string,string]: slots [0 s, 1 f, 2 s, 3 f] -/
def slices_ContainsFunc___string_string__c : SCode :=
  (.seq (.ops [⟨(some 4), .mov (.c (.bool false)), none, false⟩] none [0, 1])
  (.seq (.ops [⟨(some 5), .mov (.t 0), none, false⟩,
    ⟨(some 6), .mov (.t 1), none, false⟩,
    ⟨(some 7), .call f_slices_IndexFunc___string_string_ [(.t 5), (.t 6)], none, false⟩,
    ⟨(some 8), .bin .none .geq (.t 7) (.c (.int .i64 0)), none, false⟩,
    ⟨(some 4), .mov (.t 8), none, false⟩] none [4])
  .ret))
def slices_ContainsFunc___string_string__r : List RRes := [.tmp 4]
def slices_ContainsFunc___string_string__hi : Hi := ⟨[], [(0, "s"), (1, "f"), (2, "s"), (3, "f")]⟩
def slices_ContainsFunc___string_string__an : An := .d
def slices_ContainsFunc___string_string__fi : Fi := ⟨9, slices_ContainsFunc___string_string__c, slices_ContainsFunc___string_string__r, slices_ContainsFunc___string_string__an, slices_ContainsFunc___string_string__hi⟩
theorem slices_ContainsFunc___string_string__ok : FiOk Try.prog f_slices_ContainsFunc___string_string_ slices_ContainsFunc___string_string__fi :=
  ⟨by kernel_rfl, fun h hlen => fun_sound (fn := Try.f61) (draw_sound _ _) Try.func61 rfl (by kernel_rfl : comp Try.prog 9 _ slices_ContainsFunc___string_string__c = some slices_ContainsFunc___string_string__c) (by kernel_rfl : cRes Try.prog Try.f61.results.toList = some slices_ContainsFunc___string_string__r) hlen h⟩

/-- slices.IndexFunc[[]string,string]: slots [0 s, 1 f, 2 s, 3 f, 5 i] -/
def slices_IndexFunc___string_string__c : SCode :=
  (.seq (.ops [⟨(some 4), .mov (.c (.int .i64 0)), none, false⟩] none [0, 1])
  (.seq (.seq (.ops [⟨(some 6), .mov (.t 0), none, false⟩,
    ⟨(some 7), .len false (.t 6), none, false⟩,
    ⟨(some 8), .mov (.c (.int .i64 0)), none, false⟩] none [0, 1, 7, 8])
  (.block 0 (.loop [0, 1, 7] [8] 0
    (.seq (.ops [⟨(some 9), .bin .none .lss (.t 8) (.t 7), none, false⟩] none [0, 1, 7, 8, 9])
    (.seq (.cond (.t 9)
      .skip
      (.exit 0))
    (.seq (.block 1 (.seq (.ops [⟨(some 10), .mov (.t 8), none, false⟩,
      ⟨(some 5), .mov (.t 10), none, false⟩] none [0, 1, 5, 7, 8])
    (.seq (.ops [⟨(some 11), .mov (.t 1), none, false⟩,
      ⟨(some 12), .mov (.t 0), none, false⟩,
      ⟨(some 13), .mov (.t 5), none, false⟩,
      ⟨(some 14), .iaddr 1 none (.t 12) (.t 13), none, false⟩,
      ⟨(some 15), .load 1 false (.t 14), none, false⟩,
      ⟨(some 16), .callv (.t 11) [(.t 15)], none, false⟩] none [0, 1, 5, 7, 8, 16])
    (.cond (.t 16)
      (.seq (.ops [⟨(some 17), .mov (.t 5), none, false⟩,
        ⟨(some 4), .mov (.t 17), none, false⟩] none [4])
      .ret)
      .skip))))
    (.ops [⟨(some 18), .bin .none .add (.t 8) (.c (.int .i64 1)), none, false⟩,
      ⟨(some 8), .mov (.t 18), none, false⟩] none [0, 1, 7, 8])))))))
  (.seq (.ops [⟨(some 4), .mov (.c (.int .i64 (-1))), none, false⟩] none [4])
  .ret)))
def slices_IndexFunc___string_string__r : List RRes := [.tmp 4]
def slices_IndexFunc___string_string__hi : Hi := ⟨[], [(0, "s"), (1, "f"), (2, "s"), (3, "f"), (5, "i")]⟩
def slices_IndexFunc___string_string__an : An := (.seq .d (.seq (.seq .d (.loop [1] [] [] .d)) .d))
def slices_IndexFunc___string_string__fi : Fi := ⟨19, slices_IndexFunc___string_string__c, slices_IndexFunc___string_string__r, slices_IndexFunc___string_string__an, slices_IndexFunc___string_string__hi⟩
theorem slices_IndexFunc___string_string__ok : FiOk Try.prog f_slices_IndexFunc___string_string_ slices_IndexFunc___string_string__fi :=
  ⟨by kernel_rfl, fun h hlen => fun_sound (fn := Try.f93) (draw_sound _ _) Try.func93 rfl (by kernel_rfl : comp Try.prog 19 _ slices_IndexFunc___string_string__c = some slices_IndexFunc___string_string__c) (by kernel_rfl : cRes Try.prog Try.f93.results.toList = some slices_IndexFunc___string_string__r) hlen h⟩

/-- fustian/diff.fault$1: slots [0 s, 1 s] -/
def diff_fault_1_c : SCode :=
  (.seq (.ops [⟨(some 2), .mov (.c (.bool false)), none, false⟩] none [0])
  (.seq (.ops [⟨(some 3), .mov (.t 0), none, false⟩,
    ⟨(some 4), .len true (.t 3), none, false⟩,
    ⟨(some 5), .bin .none .gtr (.t 4) (.c (.int .i64 600)), none, false⟩,
    ⟨(some 2), .mov (.t 5), none, false⟩] none [2])
  .ret))
def diff_fault_1_r : List RRes := [.tmp 2]
def diff_fault_1_hi : Hi := ⟨[], [(0, "s"), (1, "s")]⟩
def diff_fault_1_an : An := .d
def diff_fault_1_fi : Fi := ⟨6, diff_fault_1_c, diff_fault_1_r, diff_fault_1_an, diff_fault_1_hi⟩
theorem diff_fault_1_ok : FiOk Try.prog f_diff_fault_1 diff_fault_1_fi :=
  ⟨by kernel_rfl, fun h hlen => fun_sound (fn := Try.f88) (draw_sound _ _) Try.func88 rfl (by kernel_rfl : comp Try.prog 6 _ diff_fault_1_c = some diff_fault_1_c) (by kernel_rfl : cRes Try.prog Try.f88.results.toList = some diff_fault_1_r) hlen h⟩

/-- fustian/diff.costs: slots [0 a, 1 b, 2 a, 3 b, 5 out, 6 i, 7 k] -/
def diff_costs_c : SCode :=
  (.seq (.ops [⟨(some 4), .mov (.c .nils), none, false⟩] none [0, 1])
  (.seq (.ops [⟨(some 8), .mov (.t 0), none, false⟩,
    ⟨(some 9), .len false (.t 8), none, false⟩,
    ⟨(some 10), .bin .none .add (.t 9) (.c (.int .i64 1)), none, false⟩,
    ⟨(some 11), .mkslice 1 24 [.nils] (.t 10) (.t 10), none, false⟩,
    ⟨(some 5), .mov (.t 11), none, false⟩] none [0, 1, 5])
  (.seq (.seq (.ops [⟨(some 12), .mov (.t 0), none, false⟩,
    ⟨(some 13), .len false (.t 12), none, false⟩,
    ⟨(some 6), .mov (.t 13), none, false⟩] none [0, 1, 5, 6])
  (.block 0 (.loop [0, 1, 5] [6] 1
    (.seq (.seq (.ops [⟨(some 14), .mov (.t 6), none, false⟩,
      ⟨(some 15), .bin .none .geq (.t 14) (.c (.int .i64 0)), none, false⟩] none [0, 1, 5, 6, 15])
    (.cond (.t 15)
      .skip
      (.exit 0)))
    (.seq (.block 1 (.seq (.ops [⟨(some 18), .mov (.t 5), none, false⟩,
      ⟨(some 19), .mov (.t 6), none, false⟩,
      ⟨(some 20), .mov (.t 1), none, false⟩,
      ⟨(some 21), .len false (.t 20), none, false⟩,
      ⟨(some 22), .bin .none .add (.t 21) (.c (.int .i64 1)), none, false⟩,
      ⟨(some 23), .mkslice 1 8 [(.int .i64 0)] (.t 22) (.t 22), none, false⟩,
      ⟨(some 24), .iaddr 1 none (.t 18) (.t 19), none, false⟩,
      ⟨none, .store 1 (.t 24) (.t 23), none, false⟩] none [0, 1, 5, 6])
    (.seq (.ops [⟨(some 25), .mov (.t 1), none, false⟩,
      ⟨(some 26), .len false (.t 25), none, false⟩,
      ⟨(some 7), .mov (.t 26), none, false⟩] none [0, 1, 5, 6, 7])
    (.block 2 (.loop [0, 1, 5, 6] [7] 2
      (.seq (.seq (.ops [⟨(some 27), .mov (.t 7), none, false⟩,
        ⟨(some 28), .bin .none .geq (.t 27) (.c (.int .i64 0)), none, false⟩] none [0, 1, 5, 6, 7, 28])
      (.cond (.t 28)
        .skip
        (.exit 2)))
      (.join [0, 1, 5, 6, 7] [] 2 (.block 3 (.block 4 (.seq (.ops [⟨(some 56), .mov (.t 6), none, false⟩,
          ⟨(some 57), .mov (.t 0), none, false⟩,
          ⟨(some 58), .len false (.t 57), none, false⟩,
          ⟨(some 59), .bin .none .eql (.t 56) (.t 58), none, false⟩,
          ⟨(some 55), .mov (.t 59), none, false⟩] none [0, 1, 5, 6, 7, 55])
        (.cond (.t 55)
          (.ops [⟨(some 60), .mov (.t 5), none, false⟩,
            ⟨(some 61), .mov (.t 6), none, false⟩,
            ⟨(some 62), .iaddr 1 none (.t 60) (.t 61), none, false⟩,
            ⟨(some 63), .load 1 false (.t 62), none, false⟩,
            ⟨(some 64), .mov (.t 7), none, false⟩,
            ⟨(some 65), .mov (.t 1), none, false⟩,
            ⟨(some 66), .len false (.t 65), none, false⟩,
            ⟨(some 67), .mov (.t 7), none, false⟩,
            ⟨(some 68), .bin .none .sub (.t 66) (.t 67), none, false⟩,
            ⟨(some 69), .iaddr 1 none (.t 63) (.t 64), none, false⟩,
            ⟨none, .store 1 (.t 69) (.t 68), none, false⟩] none [0, 1, 5, 6, 7])
          (.seq (.ops [⟨(some 71), .mov (.t 7), none, false⟩,
            ⟨(some 72), .mov (.t 1), none, false⟩,
            ⟨(some 73), .len false (.t 72), none, false⟩,
            ⟨(some 74), .bin .none .eql (.t 71) (.t 73), none, false⟩,
            ⟨(some 70), .mov (.t 74), none, false⟩] none [0, 1, 5, 6, 7, 70])
          (.cond (.t 70)
            (.ops [⟨(some 75), .mov (.t 5), none, false⟩,
              ⟨(some 76), .mov (.t 6), none, false⟩,
              ⟨(some 77), .iaddr 1 none (.t 75) (.t 76), none, false⟩,
              ⟨(some 78), .load 1 false (.t 77), none, false⟩,
              ⟨(some 79), .mov (.t 7), none, false⟩,
              ⟨(some 80), .mov (.t 0), none, false⟩,
              ⟨(some 81), .len false (.t 80), none, false⟩,
              ⟨(some 82), .mov (.t 6), none, false⟩,
              ⟨(some 83), .bin .none .sub (.t 81) (.t 82), none, false⟩,
              ⟨(some 84), .iaddr 1 none (.t 78) (.t 79), none, false⟩,
              ⟨none, .store 1 (.t 84) (.t 83), none, false⟩] none [0, 1, 5, 6, 7])
            (.seq (.ops [⟨(some 86), .mov (.t 0), none, false⟩,
              ⟨(some 87), .mov (.t 6), none, false⟩,
              ⟨(some 88), .iaddr 1 none (.t 86) (.t 87), none, false⟩,
              ⟨(some 89), .load 1 false (.t 88), none, false⟩,
              ⟨(some 90), .mov (.t 1), none, false⟩,
              ⟨(some 91), .mov (.t 7), none, false⟩,
              ⟨(some 92), .iaddr 1 none (.t 90) (.t 91), none, false⟩,
              ⟨(some 93), .load 1 false (.t 92), none, false⟩,
              ⟨(some 94), .bin .none .eql (.t 89) (.t 93), none, false⟩,
              ⟨(some 85), .mov (.t 94), none, false⟩] (some (0, 0, [0, 1, 2, 3, 4, 5, 6, 7, 8, 9])) [0, 1, 5, 6, 7, 85])
            (.cond (.t 85)
              (.ops [⟨(some 95), .mov (.t 5), none, false⟩,
                ⟨(some 96), .mov (.t 6), none, false⟩,
                ⟨(some 97), .iaddr 1 none (.t 95) (.t 96), none, false⟩,
                ⟨(some 98), .load 1 false (.t 97), none, false⟩,
                ⟨(some 99), .mov (.t 7), none, false⟩,
                ⟨(some 100), .mov (.t 5), none, false⟩,
                ⟨(some 101), .mov (.t 6), none, false⟩,
                ⟨(some 102), .bin .none .add (.t 101) (.c (.int .i64 1)), none, false⟩,
                ⟨(some 103), .iaddr 1 none (.t 100) (.t 102), none, false⟩,
                ⟨(some 104), .load 1 false (.t 103), none, false⟩,
                ⟨(some 105), .mov (.t 7), none, false⟩,
                ⟨(some 106), .bin .none .add (.t 105) (.c (.int .i64 1)), none, false⟩,
                ⟨(some 107), .iaddr 1 none (.t 104) (.t 106), none, false⟩,
                ⟨(some 108), .load 1 false (.t 107), none, false⟩,
                ⟨(some 109), .iaddr 1 none (.t 98) (.t 99), none, false⟩,
                ⟨none, .store 1 (.t 109) (.t 108), none, false⟩] (some (0, 0, [0, 1, 2, 3, 4, 5, 6, 7, 8, 9, 10, 11, 12, 13, 14, 15])) [0, 1, 5, 6, 7])
              (.ops [⟨(some 31), .mov (.t 5), none, false⟩,
                ⟨(some 32), .mov (.t 6), none, false⟩,
                ⟨(some 33), .iaddr 1 none (.t 31) (.t 32), none, false⟩,
                ⟨(some 34), .load 1 false (.t 33), none, false⟩,
                ⟨(some 35), .mov (.t 7), none, false⟩,
                ⟨(some 36), .mov (.t 5), none, false⟩,
                ⟨(some 37), .mov (.t 6), none, false⟩,
                ⟨(some 38), .bin .none .add (.t 37) (.c (.int .i64 1)), none, false⟩,
                ⟨(some 39), .iaddr 1 none (.t 36) (.t 38), none, false⟩,
                ⟨(some 40), .load 1 false (.t 39), none, false⟩,
                ⟨(some 41), .mov (.t 7), none, false⟩,
                ⟨(some 42), .iaddr 1 none (.t 40) (.t 41), none, false⟩,
                ⟨(some 43), .load 1 false (.t 42), none, false⟩,
                ⟨(some 44), .mov (.t 5), none, false⟩,
                ⟨(some 45), .mov (.t 6), none, false⟩,
                ⟨(some 46), .iaddr 1 none (.t 44) (.t 45), none, false⟩,
                ⟨(some 47), .load 1 false (.t 46), none, false⟩,
                ⟨(some 48), .mov (.t 7), none, false⟩,
                ⟨(some 49), .bin .none .add (.t 48) (.c (.int .i64 1)), none, false⟩,
                ⟨(some 50), .iaddr 1 none (.t 47) (.t 49), none, false⟩,
                ⟨(some 51), .load 1 false (.t 50), none, false⟩,
                ⟨(some 52), .min [(.t 43), (.t 51)], none, false⟩,
                ⟨(some 53), .bin .none .add (.c (.int .i64 1)) (.t 52), none, false⟩,
                ⟨(some 54), .iaddr 1 none (.t 34) (.t 35), none, false⟩,
                ⟨none, .store 1 (.t 54) (.t 53), none, false⟩] (some (0, 0, [0, 1, 2, 3, 4, 5, 6, 7, 8, 9, 10, 11, 12, 13, 14, 15, 16, 17, 18, 19, 20, 21, 22, 23, 24])) [0, 1, 5, 6, 7])))))))))
      (.ops [⟨(some 29), .mov (.t 7), none, false⟩,
        ⟨(some 30), .bin .none .sub (.t 29) (.c (.int .i64 1)), none, false⟩,
        ⟨(some 7), .mov (.t 30), none, false⟩] none [0, 1, 5, 6, 7]))))))))
    (.ops [⟨(some 16), .mov (.t 6), none, false⟩,
      ⟨(some 17), .bin .none .sub (.t 16) (.c (.int .i64 1)), none, false⟩,
      ⟨(some 6), .mov (.t 17), none, false⟩] none [0, 1, 5, 6]))))))
  (.seq (.ops [⟨(some 110), .mov (.t 5), none, false⟩,
    ⟨(some 4), .mov (.t 110), none, false⟩] none [4])
  .ret))))
def diff_costs_r : List RRes := [.tmp 4]
def diff_costs_hi : Hi := ⟨[(11, (.sl (.int .i64))), (23, (.int .i64))], [(0, "a"), (1, "b"), (2, "a"), (3, "b"), (5, "out"), (6, "i"), (7, "k")]⟩
def diff_costs_an : An := (.seq .d (.seq .d (.seq (.seq .d (.loop [5] [] [] (.seq .d (.seq (.seq .d (.seq .d (.loop [5] [] [] .d))) .d)))) .d)))
def diff_costs_fi : Fi := ⟨111, diff_costs_c, diff_costs_r, diff_costs_an, diff_costs_hi⟩
theorem diff_costs_ok : FiOk Try.prog f_diff_costs diff_costs_fi :=
  ⟨by kernel_rfl, fun h hlen => fun_sound (fn := Try.f48) (draw_sound _ _) Try.func48 rfl (by kernel_rfl : comp Try.prog 111 _ diff_costs_c = some diff_costs_c) (by kernel_rfl : cRes Try.prog Try.f48.results.toList = some diff_costs_r) hlen h⟩

/-- fustian/diff.add: slots [0 l, 1 kind, 2 l, 3 kind, 5 n] -/
def diff_add_c : SCode :=
  (.seq (.ops [⟨(some 4), .mov (.c .nils), none, false⟩] none [0, 1])
  (.seq (.seq (.ops [⟨(some 6), .mov (.t 0), none, false⟩,
    ⟨(some 7), .len false (.t 6), none, false⟩,
    ⟨(some 5), .mov (.t 7), none, false⟩] none [0, 1, 5])
  (.seq (.ops [⟨(some 8), .mov (.t 5), none, false⟩,
    ⟨(some 9), .bin .none .gtr (.t 8) (.c (.int .i64 0)), none, false⟩,
    ⟨(some 10), .mov (.t 9), none, true⟩,
    ⟨(some 11), .mov (.t 0), (some (10, true)), false⟩,
    ⟨(some 12), .mov (.t 5), (some (10, true)), false⟩,
    ⟨(some 13), .bin .none .sub (.t 12) (.c (.int .i64 1)), (some (10, true)), false⟩,
    ⟨(some 14), .iaddr 2 none (.t 11) (.t 13), (some (10, true)), false⟩,
    ⟨(some 15), .faddr 0 (.t 14), (some (10, true)), false⟩,
    ⟨(some 16), .load 1 false (.t 15), (some (10, true)), false⟩,
    ⟨(some 17), .mov (.t 1), (some (10, true)), false⟩,
    ⟨(some 18), .bin .none .eql (.t 16) (.t 17), (some (10, true)), false⟩,
    ⟨(some 19), .pick (.t 10) (.t 18) (.c (.bool false)), none, false⟩] none [0, 1, 5, 19])
  (.cond (.t 19)
    (.seq (.ops [⟨(some 20), .mov (.t 0), none, false⟩,
      ⟨(some 21), .mov (.t 5), none, false⟩,
      ⟨(some 22), .bin .none .sub (.t 21) (.c (.int .i64 1)), none, false⟩,
      ⟨(some 23), .iaddr 2 none (.t 20) (.t 22), none, false⟩,
      ⟨(some 24), .faddr 1 (.t 23), none, false⟩,
      ⟨(some 25), .load 1 false (.t 24), none, false⟩,
      ⟨(some 26), .bin .none .add (.t 25) (.c (.int .i64 1)), none, false⟩,
      ⟨(some 27), .iaddr 2 none (.t 20) (.t 22), none, false⟩,
      ⟨(some 28), .faddr 1 (.t 27), none, false⟩,
      ⟨none, .store 1 (.t 28) (.t 26), none, false⟩] none [0])
    (.seq (.ops [⟨(some 29), .mov (.t 0), none, false⟩,
      ⟨(some 4), .mov (.t 29), none, false⟩] none [4])
    .ret))
    .skip)))
  (.seq (.ops [⟨(some 30), .mov (.t 0), none, false⟩,
    ⟨(some 31), .mov (.t 1), none, false⟩,
    ⟨(some 32), .build [(.int .i64 0), (.int .i64 0)] [(0, 1, (.t 31)), (1, 1, (.c (.int .i64 1)))], none, false⟩,
    ⟨(some 33), .bslice true 1 2 [(.int .i64 0), (.int .i64 0)] [(0, 2, (.t 32))], none, false⟩,
    ⟨(some 34), .append 2 16 (.t 30) (.t 33), none, false⟩,
    ⟨(some 4), .mov (.t 34), none, false⟩] none [4])
  .ret)))
def diff_add_r : List RRes := [.tmp 4]
def diff_add_hi : Hi := ⟨[(33, (.st (.cons (.int .i64) (.cons (.int .i64) .nil)))), (34, (.st (.cons (.int .i64) (.cons (.int .i64) .nil))))], [(0, "l"), (1, "kind"), (2, "l"), (3, "kind"), (5, "n")]⟩
def diff_add_an : An := .d
def diff_add_fi : Fi := ⟨35, diff_add_c, diff_add_r, diff_add_an, diff_add_hi⟩
theorem diff_add_ok : FiOk Try.prog f_diff_add diff_add_fi :=
  ⟨by kernel_rfl, fun h hlen => fun_sound (fn := Try.f90) (draw_sound _ _) Try.func90 rfl (by kernel_rfl : comp Try.prog 35 _ diff_add_c = some diff_add_c) (by kernel_rfl : cRes Try.prog Try.f90.results.toList = some diff_add_r) hlen h⟩

end Go.Proofs.Ytigcaalfadoiaaa
