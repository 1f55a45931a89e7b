/- The functions' simplified code, printed by a program of the claim's author; each is checked against the program's own code. Conditions: none. -/
import Derived.Test.YtigcaalfadoiaaaProg
import Derived.Test.YtigcaalfadoiaaaVyM
set_option linter.unusedVariables false
set_option maxRecDepth 100000
namespace Go.Proofs.Ytigcaalfadoiaaa
open Go.Vc
abbrev f_gosem_cut_init : Nat := 2
abbrev f_law_DiffCosts : Nat := 3
abbrev f_law_FuzzyFars : Nat := 4
abbrev f_law_FuzzyNears : Nat := 5
abbrev f_law_DiffSteps : Nat := 6
abbrev f_law_HistPlays : Nat := 7
abbrev f_law_HistCounts : Nat := 8
abbrev f_law_MergeMerges : Nat := 9
abbrev f_top_TopMerge : Nat := 10
abbrev f_law_LogSaves : Nat := 11
abbrev f_law_LogLoads : Nat := 12
abbrev f_law_WordsFinds : Nat := 13
abbrev f_law_MarksOrders : Nat := 14
abbrev f_diff_Cost : Nat := 15
abbrev f_ref_DiffCost : Nat := 16
abbrev f_fuzzy_Far : Nat := 17
abbrev f_ref_FuzzyFar : Nat := 18
abbrev f_fuzzy_Near : Nat := 19
abbrev f_ref_FuzzyNear : Nat := 20
abbrev f_diff_Steps : Nat := 21
abbrev f_ref_DiffSteps : Nat := 22
abbrev f_hist_Play : Nat := 23
abbrev f_ref_HistPlayed : Nat := 24
abbrev f_law_sameTexts : Nat := 25
abbrev f_law_sameCodes : Nat := 26
abbrev f_hist_Counts : Nat := 27
abbrev f_merge_Merge : Nat := 28
abbrev f_ref_Merged : Nat := 29
abbrev f_keep_TextOf : Nat := 30
abbrev f_keep_Picked : Nat := 31
abbrev f_edit_Apply : Nat := 32
abbrev f_keep_Few : Nat := 33
abbrev f_top_cutText : Nat := 34
abbrev f_top_sameTexts : Nat := 35
abbrev f_log_Save : Nat := 36
abbrev f_ref_LogSaved : Nat := 37
abbrev f_law_sameBytes : Nat := 38
abbrev f_log_Load : Nat := 39
abbrev f_ref_LogLoaded : Nat := 40
abbrev f_law_sameDeeds : Nat := 41
abbrev f_words_Find : Nat := 42
abbrev f_ref_WordsFind : Nat := 43
abbrev f_law_sameInts : Nat := 44
abbrev f_marks_Order : Nat := 45
abbrev f_ref_MarksOrder : Nat := 46
abbrev f_diff_fault : Nat := 47
abbrev f_diff_costs : Nat := 48
abbrev f_ref_LinesFault : Nat := 49
abbrev f_ref_common : Nat := 50
abbrev f_fuzzy_long : Nat := 51
abbrev f_fuzzy_far : Nat := 52
abbrev f_ref_farOf : Nat := 53
abbrev f_fuzzy_band : Nat := 54
abbrev f_diff_Way : Nat := 55
abbrev f_hist_play : Nat := 56
abbrev f_ref_EditFault : Nat := 57
abbrev f_ref_editMade : Nat := 58
abbrev f___hist_History__Counts : Nat := 59
abbrev f_merge_Merge_1 : Nat := 60
abbrev f_slices_ContainsFunc___string_string_ : Nat := 61
abbrev f_merge_hunks : Nat := 62
abbrev f_merge_part : Nat := 63
abbrev f_merge_made : Nat := 64
abbrev f_slices_Equal___string_string_ : Nat := 65
abbrev f_ref_touched : Nat := 66
abbrev f_ref_Merged_1 : Nat := 67
abbrev f_edit_run : Nat := 68
abbrev f_log_fault : Nat := 69
abbrev f_log_number : Nat := 70
abbrev f_log_text : Nat := 71
abbrev f_poly_Of : Nat := 72
abbrev f_ref_LogFault : Nat := 73
abbrev f_ref_twoBytes : Nat := 74
abbrev f_ref_PolyOf : Nat := 75
abbrev f___log_reader__text : Nat := 76
abbrev f___log_reader__number : Nat := 77
abbrev f___log_reader__deed : Nat := 78
abbrev f_ref_LogLoaded_1 : Nat := 79
abbrev f_ref_LogLoaded_2 : Nat := 80
abbrev f_words_Noted : Nat := 81
abbrev f_words_Of : Nat := 82
abbrev f_ref_wordAt : Nat := 83
abbrev f_slices_SortStableFunc___int_int_ : Nat := 84
abbrev f_marks_Order_1 : Nat := 85
abbrev f_cmp_Or_int_ : Nat := 86
abbrev f_cmp_Compare_int_ : Nat := 87
abbrev f_diff_fault_1 : Nat := 88
abbrev f_fuzzy_long_1 : Nat := 89
abbrev f_diff_add : Nat := 90
abbrev f_hist_New : Nat := 91
abbrev f___hist_History__Deed : Nat := 92
abbrev f_slices_IndexFunc___string_string_ : Nat := 93
abbrev f___merge_side__upTo : Nat := 94
abbrev f_edit_Check : Nat := 95
abbrev f_edit_Undo : Nat := 96
abbrev f_edit_Made : Nat := 97
abbrev f_log_fits : Nat := 98
abbrev f___log_reader__take : Nat := 99
abbrev f_words_part : Nat := 100
abbrev f_words_Each : Nat := 101
abbrev f_words_Of_1 : Nat := 102
abbrev f_ref_letter : Nat := 103
abbrev f_slices_stableCmpFunc_int_ : Nat := 104
abbrev f_cmp_isNaN_int_ : Nat := 105
abbrev f___hist_History__make : Nat := 106
abbrev f_hist_pop : Nat := 107
abbrev f___hist_History__change : Nat := 108
abbrev f_slices_insertionSortCmpFunc_int_ : Nat := 109
abbrev f_slices_symMergeCmpFunc_int_ : Nat := 110
abbrev f_slices_rotateCmpFunc_int_ : Nat := 111
abbrev f_slices_swapRangeCmpFunc_int_ : Nat := 112

/-- fustian/poly.Of: slots [0 text, 1 text, 3 h, 4 i] -/
def poly_Of_c : SCode :=
  (.seq (.ops [⟨(some 2), .alloc 0 [(.int .i64 0), (.int .i64 0)], none, false, []⟩] none [0, 2])
  (.seq (.ops [⟨(some 5), .build [(.int .i64 0), (.int .i64 0)] [(1, 1, (.c (.int .i64 1)))], none, false, []⟩,
    ⟨(some 3), .alloc 0 [(.int .i64 0), (.int .i64 0)], none, false, []⟩,
    ⟨none, .store 2 (.t 3) (.t 5), none, false, []⟩] none [0, 2, 3])
  (.seq (.seq (.ops [⟨(some 6), .mov (.t 0), none, false, []⟩,
    ⟨(some 7), .len true (.t 6), none, false, []⟩,
    ⟨(some 8), .mov (.c (.int .i64 0)), none, false, []⟩] none [0, 2, 3, 7, 8])
  (.block 0 (.loop [0, 2, 3, 7] [8] 2
    (.seq (.ops [⟨(some 9), .bin .none .lss (.t 8) (.t 7), none, false, []⟩] none [0, 2, 3, 7, 8, 9])
    (.seq (.cond (.t 9)
      .skip
      (.exit 0))
    (.seq (.block 1 (.seq (.ops [⟨(some 10), .mov (.t 8), none, false, []⟩,
      ⟨(some 4), .mov (.t 10), none, false, []⟩] none [0, 2, 3, 4, 7, 8])
    (.seq (.ops [⟨(some 11), .faddr 0 (.t 3), none, false, []⟩,
      ⟨(some 12), .load 1 false (.t 11), none, false, []⟩,
      ⟨(some 13), .bin .none .mul (.t 12) (.c (.int .i64 257)), none, false, []⟩,
      ⟨(some 14), .mov (.t 0), none, false, []⟩,
      ⟨(some 15), .mov (.t 4), none, false, []⟩,
      ⟨(some 16), .index 1 none false (.t 14) (.t 15), none, false, []⟩,
      ⟨(some 17), .conv .i64 (.t 16), none, false, []⟩,
      ⟨(some 18), .bin .none .add (.t 13) (.t 17), none, false, []⟩,
      ⟨(some 19), .bin .none .add (.t 18) (.c (.int .i64 1)), none, false, []⟩,
      ⟨(some 20), .bin .none .rem (.t 19) (.c (.int .i64 2147483647)), none, false, []⟩,
      ⟨(some 21), .faddr 0 (.t 3), none, false, []⟩,
      ⟨none, .store 1 (.t 21) (.t 20), none, false, []⟩] (some (0, 0, [0, 1, 2, 3, 4, 5, 6, 7, 8, 9, 10, 11])) [0, 2, 3, 7, 8])
    (.ops [⟨(some 22), .faddr 1 (.t 3), none, false, []⟩,
      ⟨(some 23), .load 1 false (.t 22), none, false, []⟩,
      ⟨(some 24), .bin .none .mul (.t 23) (.c (.int .i64 257)), none, false, []⟩,
      ⟨(some 25), .bin .none .rem (.t 24) (.c (.int .i64 2147483647)), none, false, []⟩,
      ⟨(some 26), .faddr 1 (.t 3), none, false, []⟩,
      ⟨none, .store 1 (.t 26) (.t 25), none, false, []⟩] none [0, 2, 3, 7, 8]))))
    (.ops [⟨(some 27), .bin .none .add (.t 8) (.c (.int .i64 1)), none, false, []⟩,
      ⟨(some 8), .mov (.t 27), none, false, []⟩] none [0, 2, 3, 7, 8])))))))
  (.seq (.ops [⟨(some 28), .load 2 true (.t 3), none, false, []⟩,
    ⟨none, .store 2 (.t 2) (.t 28), none, false, []⟩] none [2])
  .ret))))
def poly_Of_r : List RRes := [.cell 2 2 true]
def poly_Of_hi : Hi := ⟨[(2, (.st (.cons (.int .i64) (.cons (.int .i64) .nil)))), (3, (.st (.cons (.int .i64) (.cons (.int .i64) .nil))))], [(0, "text"), (1, "text"), (3, "h"), (4, "i")]⟩
def poly_Of_an : An := (.seq .d (.seq .d (.seq (.seq .d (.loop [3] [] [] .d)) .d)))
def poly_Of_fi : Fi := ⟨29, poly_Of_c, poly_Of_r, poly_Of_an, poly_Of_hi, none⟩
theorem poly_Of_ok : FiOk Try.prog f_poly_Of poly_Of_fi :=
  ⟨by kernel_rfl, fun _ h hlen => fun_sound (fn := Try.f72) (draw_sound _ _) Try.func72 rfl (by kernel_rfl : comp Try.prog 29 _ poly_Of_c = some poly_Of_c) (by kernel_rfl : cRes Try.prog Try.f72.results.toList = some poly_Of_r) hlen h, fun _ h => nomatch h⟩

/-- fustian/log.fault: slots [0 s, 1 l, 2 s, 3 l, 5 _, 6 d, 7 _, 8 d] -/
def log_fault_c : SCode :=
  (.seq (.ops [⟨(some 4), .mov (.c (.int .i64 0)), none, false, []⟩] none [0, 1])
  (.seq (.seq (.ops [⟨(some 9), .mov (.t 0), none, false, []⟩,
    ⟨(some 10), .len true (.t 9), none, false, []⟩,
    ⟨(some 11), .bin .none .gtr (.t 10) (.c (.int .i64 600)), none, false, []⟩,
    ⟨(some 12), .mov (.t 11), none, true, []⟩,
    ⟨(some 13), .mov (.t 1), (some (12, false)), false, []⟩,
    ⟨(some 14), .len false (.t 13), (some (12, false)), false, []⟩,
    ⟨(some 15), .bin .none .gtr (.t 14) (.c (.int .i64 80)), (some (12, false)), false, []⟩,
    ⟨(some 16), .pick (.t 12) (.c (.bool true)) (.t 15), none, false, []⟩] none [1, 16])
  (.cond (.t 16)
    (.seq (.ops [⟨(some 4), .mov (.c (.int .i64 1)), none, false, []⟩] none [4])
    .ret)
    .skip))
  (.seq (.seq (.ops [⟨(some 17), .mov (.t 1), none, false, []⟩,
    ⟨(some 18), .len false (.t 17), none, false, []⟩,
    ⟨(some 19), .mov (.c (.int .i64 0)), none, false, []⟩] none [1, 17, 18, 19])
  (.block 0 (.loop [1, 17, 18] [19] 0
    (.seq (.ops [⟨(some 20), .bin .none .lss (.t 19) (.t 18), none, false, []⟩] none [1, 17, 18, 19, 20])
    (.seq (.cond (.t 20)
      .skip
      (.exit 0))
    (.seq (.block 1 (.seq (.ops [⟨(some 21), .iaddr 4 none (.t 17) (.t 19), none, false, []⟩,
      ⟨(some 22), .load 4 true (.t 21), none, false, []⟩,
      ⟨(some 6), .alloc 0 [(.int .i64 0), (.int .i64 0), (.int .i64 0), (.str [])], none, false, []⟩,
      ⟨none, .store 4 (.t 6) (.t 22), none, false, []⟩] none [1, 6, 17, 18, 19])
    (.seq (.ops [⟨(some 23), .faddr 1 (.t 6), none, false, []⟩,
      ⟨(some 24), .faddr 2 (.t 23), none, false, []⟩,
      ⟨(some 25), .load 1 false (.t 24), none, false, []⟩,
      ⟨(some 26), .len true (.t 25), none, false, []⟩,
      ⟨(some 27), .bin .none .gtr (.t 26) (.c (.int .i64 600)), none, false, []⟩] none [1, 17, 18, 19, 27])
    (.cond (.t 27)
      (.seq (.ops [⟨(some 4), .mov (.c (.int .i64 1)), none, false, []⟩] none [4])
      .ret)
      .skip))))
    (.ops [⟨(some 28), .bin .none .add (.t 19) (.c (.int .i64 1)), none, false, []⟩,
      ⟨(some 19), .mov (.t 28), none, false, []⟩] none [1, 17, 18, 19])))))))
  (.seq (.seq (.ops [⟨(some 29), .mov (.t 1), none, false, []⟩,
    ⟨(some 30), .len false (.t 29), none, false, []⟩,
    ⟨(some 31), .mov (.c (.int .i64 0)), none, false, []⟩] none [29, 30, 31])
  (.block 2 (.loop [29, 30] [31] 1
    (.seq (.ops [⟨(some 32), .bin .none .lss (.t 31) (.t 30), none, false, []⟩] none [29, 30, 31, 32])
    (.seq (.cond (.t 32)
      .skip
      (.exit 2))
    (.seq (.block 3 (.seq (.ops [⟨(some 33), .iaddr 4 none (.t 29) (.t 31), none, false, []⟩,
      ⟨(some 34), .load 4 true (.t 33), none, false, []⟩,
      ⟨(some 8), .alloc 0 [(.int .i64 0), (.int .i64 0), (.int .i64 0), (.str [])], none, false, []⟩,
      ⟨none, .store 4 (.t 8) (.t 34), none, false, []⟩] none [8, 29, 30, 31])
    (.block 4 (.seq (.ops [⟨(some 36), .faddr 0 (.t 8), none, false, []⟩,
      ⟨(some 37), .load 1 false (.t 36), none, false, []⟩,
      ⟨(some 38), .bin .none .lss (.t 37) (.c (.int .i64 1)), none, false, []⟩,
      ⟨(some 39), .mov (.t 38), none, true, []⟩,
      ⟨(some 40), .faddr 0 (.t 8), (some (39, false)), false, []⟩,
      ⟨(some 41), .load 1 false (.t 40), (some (39, false)), false, []⟩,
      ⟨(some 42), .bin .none .gtr (.t 41) (.c (.int .i64 4)), (some (39, false)), false, []⟩,
      ⟨(some 43), .pick (.t 39) (.c (.bool true)) (.t 42), none, false, []⟩,
      ⟨(some 35), .mov (.t 43), none, false, []⟩] none [8, 29, 30, 31, 35])
    (.cond (.t 35)
      (.seq (.ops [⟨(some 4), .mov (.c (.int .i64 3)), none, false, []⟩] none [4])
      .ret)
      (.seq (.ops [⟨(some 45), .faddr 0 (.t 8), none, false, []⟩,
        ⟨(some 46), .load 1 false (.t 45), none, false, []⟩,
        ⟨(some 47), .bin .none .neq (.t 46) (.c (.int .i64 1)), none, false, []⟩,
        ⟨(some 48), .mov (.t 47), none, true, []⟩,
        ⟨(some 49), .faddr 1 (.t 8), (some (48, true)), false, []⟩,
        ⟨(some 50), .load 3 true (.t 49), (some (48, true)), false, []⟩,
        ⟨(some 51), .build [(.int .i64 0), (.int .i64 0), (.str [])] [], (some (48, true)), false, []⟩,
        ⟨(some 52), .bin (.agg [.int, .int, .str]) .neq (.t 50) (.t 51), (some (48, true)), false, []⟩,
        ⟨(some 53), .pick (.t 48) (.t 52) (.c (.bool false)), none, false, []⟩,
        ⟨(some 44), .mov (.t 53), none, false, []⟩] none [8, 29, 30, 31, 44])
      (.cond (.t 44)
        (.seq (.ops [⟨(some 4), .mov (.c (.int .i64 4)), none, false, []⟩] none [4])
        .ret)
        (.seq (.ops [⟨(some 55), .faddr 1 (.t 8), none, false, []⟩,
          ⟨(some 56), .faddr 0 (.t 55), none, false, []⟩,
          ⟨(some 57), .load 1 false (.t 56), none, false, []⟩,
          ⟨(some 58), .call f_log_fits [(.t 57)], none, false, []⟩,
          ⟨(some 59), .not (.t 58), none, false, []⟩,
          ⟨(some 60), .mov (.t 59), none, true, []⟩,
          ⟨(some 61), .faddr 1 (.t 8), (some (60, false)), false, []⟩,
          ⟨(some 62), .faddr 1 (.t 61), (some (60, false)), false, []⟩,
          ⟨(some 63), .load 1 false (.t 62), (some (60, false)), false, []⟩,
          ⟨(some 64), .call f_log_fits [(.t 63)], (some (60, false)), false, []⟩,
          ⟨(some 65), .not (.t 64), (some (60, false)), false, []⟩,
          ⟨(some 66), .pick (.t 60) (.c (.bool true)) (.t 65), none, false, []⟩,
          ⟨(some 54), .mov (.t 66), none, false, []⟩] none [29, 30, 31, 54])
        (.cond (.t 54)
          (.seq (.ops [⟨(some 4), .mov (.c (.int .i64 2)), none, false, []⟩] none [4])
          .ret)
          .skip)))))))))
    (.ops [⟨(some 67), .bin .none .add (.t 31) (.c (.int .i64 1)), none, false, []⟩,
      ⟨(some 31), .mov (.t 67), none, false, []⟩] none [29, 30, 31])))))))
  (.seq (.ops [⟨(some 4), .mov (.c (.int .i64 0)), none, false, []⟩] none [4])
  .ret)))))
def log_fault_r : List RRes := [.tmp 4]
def log_fault_hi : Hi := ⟨[(6, (.st (.cons (.int .i64) (.cons (.st (.cons (.int .i64) (.cons (.int .i64) (.cons .str .nil)))) .nil)))), (8, (.st (.cons (.int .i64) (.cons (.st (.cons (.int .i64) (.cons (.int .i64) (.cons .str .nil)))) .nil))))], [(0, "s"), (1, "l"), (2, "s"), (3, "l"), (6, "d"), (8, "d")]⟩
def log_fault_an : An := (.seq .d (.seq .d (.seq (.seq .d (.loop [] [] [] .d)) (.seq (.seq .d (.loop [] [] [] .d)) .d))))
def log_fault_fi : Fi := ⟨68, log_fault_c, log_fault_r, log_fault_an, log_fault_hi, none⟩
theorem log_fault_ok : FiOk Try.prog f_log_fault log_fault_fi :=
  ⟨by kernel_rfl, fun _ h hlen => fun_sound (fn := Try.f69) (draw_sound _ _) Try.func69 rfl (by kernel_rfl : comp Try.prog 68 _ log_fault_c = some log_fault_c) (by kernel_rfl : cRes Try.prog Try.f69.results.toList = some log_fault_r) hlen h, fun _ h => nomatch h⟩

/-- (*fustian/log.reader).number: slots [0 r, 1 r, 3 b] -/
def __log_reader__number_c : SCode :=
  (.seq (.ops [⟨(some 2), .mov (.c (.int .i64 0)), none, false, []⟩] none [0])
  (.seq (.ops [⟨(some 4), .mov (.t 0), none, false, []⟩,
    ⟨(some 5), .call f___log_reader__take [(.t 4), (.c (.int .i64 2))], none, false, []⟩,
    ⟨(some 3), .mov (.t 5), none, false, []⟩] none [3])
  (.seq (.ops [⟨(some 6), .mov (.t 3), none, false, []⟩,
    ⟨(some 7), .iaddr 1 none (.t 6) (.c (.int .i64 0)), none, false, []⟩,
    ⟨(some 8), .load 1 false (.t 7), none, false, []⟩,
    ⟨(some 9), .conv .i64 (.t 8), none, false, []⟩,
    ⟨(some 10), .bin .none .shl (.t 9) (.c (.int .u64 8)), none, false, []⟩,
    ⟨(some 11), .mov (.t 3), none, false, []⟩,
    ⟨(some 12), .iaddr 1 none (.t 11) (.c (.int .i64 1)), none, false, []⟩,
    ⟨(some 13), .load 1 false (.t 12), none, false, []⟩,
    ⟨(some 14), .conv .i64 (.t 13), none, false, []⟩,
    ⟨(some 15), .bin .none .or (.t 10) (.t 14), none, false, []⟩,
    ⟨(some 2), .mov (.t 15), none, false, []⟩] (some (0, 0, [0, 1, 2, 3, 4, 5, 6, 7, 8, 9, 10])) [2])
  .ret)))
def __log_reader__number_r : List RRes := [.tmp 2]
def __log_reader__number_hi : Hi := ⟨[(4, (.st (.cons (.sl (.int .u8)) (.cons .bool .nil)))), (0, (.st (.cons (.sl (.int .u8)) (.cons .bool .nil))))], [(0, "r"), (1, "r"), (3, "b")]⟩
def __log_reader__number_an : An := .d
def __log_reader__number_fi : Fi := ⟨16, __log_reader__number_c, __log_reader__number_r, __log_reader__number_an, __log_reader__number_hi, none⟩
theorem __log_reader__number_ok : FiOk Try.prog f___log_reader__number __log_reader__number_fi :=
  ⟨by kernel_rfl, fun _ h hlen => fun_sound (fn := Try.f77) (draw_sound _ _) Try.func77 rfl (by kernel_rfl : comp Try.prog 16 _ __log_reader__number_c = some __log_reader__number_c) (by kernel_rfl : cRes Try.prog Try.f77.results.toList = some __log_reader__number_r) hlen h, fun _ h => nomatch h⟩

/-- (*fustian/log.reader).text: slots [0 r, 1 r] -/
def __log_reader__text_c : SCode :=
  (.seq (.ops [⟨(some 2), .mov (.c (.str [])), none, false, []⟩] none [0])
  (.seq (.ops [⟨(some 3), .mov (.t 0), none, false, []⟩,
    ⟨(some 4), .mov (.t 0), none, false, []⟩,
    ⟨(some 5), .call f___log_reader__number [(.t 4)], none, false, []⟩,
    ⟨(some 6), .call f___log_reader__take [(.t 3), (.t 5)], none, false, []⟩,
    ⟨(some 7), .b2s (.t 6), none, false, []⟩,
    ⟨(some 2), .mov (.t 7), none, false, []⟩] none [2])
  .ret))
def __log_reader__text_r : List RRes := [.tmp 2]
def __log_reader__text_hi : Hi := ⟨[(3, (.st (.cons (.sl (.int .u8)) (.cons .bool .nil)))), (4, (.st (.cons (.sl (.int .u8)) (.cons .bool .nil)))), (0, (.st (.cons (.sl (.int .u8)) (.cons .bool .nil))))], [(0, "r"), (1, "r")]⟩
def __log_reader__text_an : An := .d
def __log_reader__text_fi : Fi := ⟨8, __log_reader__text_c, __log_reader__text_r, __log_reader__text_an, __log_reader__text_hi, none⟩
theorem __log_reader__text_ok : FiOk Try.prog f___log_reader__text __log_reader__text_fi :=
  ⟨by kernel_rfl, fun _ h hlen => fun_sound (fn := Try.f76) (draw_sound _ _) Try.func76 rfl (by kernel_rfl : comp Try.prog 8 _ __log_reader__text_c = some __log_reader__text_c) (by kernel_rfl : cRes Try.prog Try.f76.results.toList = some __log_reader__text_r) hlen h, fun _ h => nomatch h⟩

/-- (*fustian/log.reader).deed: slots [0 r, 1 r, 2 d] -/
def __log_reader__deed_c : SCode :=
  (.seq (.ops [⟨(some 2), .alloc 0 [(.int .i64 0), (.int .i64 0), (.int .i64 0), (.str [])], none, false, []⟩] none [0, 2])
  (.join [2] [] 1 (.seq (.ops [⟨(some 3), .mov (.t 0), none, false, []⟩,
      ⟨(some 4), .call f___log_reader__take [(.t 3), (.c (.int .i64 1))], none, false, []⟩,
      ⟨(some 5), .iaddr 1 none (.t 4) (.c (.int .i64 0)), none, false, []⟩,
      ⟨(some 6), .load 1 false (.t 5), none, false, []⟩,
      ⟨(some 7), .conv .i64 (.t 6), none, false, []⟩,
      ⟨(some 8), .faddr 0 (.t 2), none, false, []⟩,
      ⟨none, .store 1 (.t 8) (.t 7), none, false, []⟩] none [0, 2])
    (.seq (.ops [⟨(some 9), .faddr 0 (.t 2), none, false, []⟩,
      ⟨(some 10), .load 1 false (.t 9), none, false, []⟩,
      ⟨(some 11), .bin .none .eql (.t 10) (.c (.int .i64 1)), none, false, []⟩] none [0, 2, 11])
    (.cond (.t 11)
      (.seq (.ops [⟨(some 12), .mov (.t 0), none, false, []⟩,
        ⟨(some 13), .call f___log_reader__number [(.t 12)], none, false, []⟩,
        ⟨(some 14), .mov (.t 0), none, false, []⟩,
        ⟨(some 15), .call f___log_reader__number [(.t 14)], none, false, []⟩,
        ⟨(some 16), .build [(.int .i64 0), (.int .i64 0), (.str [])] [(0, 1, (.t 13)), (1, 1, (.t 15))], none, false, []⟩,
        ⟨(some 17), .faddr 1 (.t 2), none, false, []⟩,
        ⟨none, .store 3 (.t 17) (.t 16), none, false, []⟩] none [0, 2])
      (.ops [⟨(some 18), .mov (.t 0), none, false, []⟩,
        ⟨(some 19), .call f___log_reader__text [(.t 18)], none, false, []⟩,
        ⟨(some 20), .faddr 1 (.t 2), none, false, []⟩,
        ⟨(some 21), .faddr 2 (.t 20), none, false, []⟩,
        ⟨none, .store 1 (.t 21) (.t 19), none, false, []⟩] none [2]))
      .skip)))
  (.seq (.ops [⟨(some 22), .load 4 true (.t 2), none, false, []⟩,
    ⟨none, .store 4 (.t 2) (.t 22), none, false, []⟩] none [2])
  .ret)))
def __log_reader__deed_r : List RRes := [.cell 2 4 true]
def __log_reader__deed_hi : Hi := ⟨[(2, (.st (.cons (.int .i64) (.cons (.st (.cons (.int .i64) (.cons (.int .i64) (.cons .str .nil)))) .nil)))), (3, (.st (.cons (.sl (.int .u8)) (.cons .bool .nil)))), (12, (.st (.cons (.sl (.int .u8)) (.cons .bool .nil)))), (14, (.st (.cons (.sl (.int .u8)) (.cons .bool .nil)))), (18, (.st (.cons (.sl (.int .u8)) (.cons .bool .nil)))), (0, (.st (.cons (.sl (.int .u8)) (.cons .bool .nil))))], [(0, "r"), (1, "r"), (2, "d")]⟩
def __log_reader__deed_an : An := .d
def __log_reader__deed_fi : Fi := ⟨23, __log_reader__deed_c, __log_reader__deed_r, __log_reader__deed_an, __log_reader__deed_hi, none⟩
theorem __log_reader__deed_ok : FiOk Try.prog f___log_reader__deed __log_reader__deed_fi :=
  ⟨by kernel_rfl, fun _ h hlen => fun_sound (fn := Try.f78) (draw_sound _ _) Try.func78 rfl (by kernel_rfl : comp Try.prog 23 _ __log_reader__deed_c = some __log_reader__deed_c) (by kernel_rfl : cRes Try.prog Try.f78.results.toList = some __log_reader__deed_r) hlen h, fun _ h => nomatch h⟩

/-- fustian/log.Load: slots [0 b, 1 b, 2 s, 3 l, 4 e, 5 body, 6 sum, 7 _, 8 x, 9 r, 10 n] -/
def log_Load_c : SCode :=
  (.seq (.ops [⟨(some 2), .mov (.c (.str [])), none, false, []⟩,
    ⟨(some 3), .newnil 4, none, false, []⟩,
    ⟨(some 4), .mov (.c (.int .i64 0)), none, false, []⟩] none [0, 3])
  (.seq (.seq (.ops [⟨(some 11), .mov (.t 0), none, false, []⟩,
    ⟨(some 12), .len false (.t 11), none, false, []⟩,
    ⟨(some 13), .bin .none .lss (.t 12) (.c (.int .i64 12)), none, false, []⟩] none [0, 3, 13])
  (.cond (.t 13)
    (.seq (.ops [⟨(some 2), .mov (.c (.str [])), none, false, []⟩,
      ⟨(some 3), .newnil 4, none, false, []⟩,
      ⟨(some 4), .mov (.c (.int .i64 5)), none, false, []⟩] none [2, 3, 4])
    .ret)
    .skip))
  (.seq (.ops [⟨(some 14), .mov (.t 0), none, false, []⟩,
    ⟨(some 15), .mov (.t 0), none, false, []⟩,
    ⟨(some 16), .len false (.t 15), none, false, []⟩,
    ⟨(some 17), .bin .none .sub (.t 16) (.c (.int .i64 4)), none, false, []⟩,
    ⟨(some 18), .slice 1 (.t 14) none (some (.t 17)), none, false, []⟩,
    ⟨(some 5), .mov (.t 18), none, false, []⟩,
    ⟨(some 6), .mov (.c (.int .i64 0)), none, false, []⟩] none [0, 3, 5, 6])
  (.seq (.seq (.ops [⟨(some 19), .mov (.t 0), none, false, []⟩,
    ⟨(some 20), .mov (.t 5), none, false, []⟩,
    ⟨(some 21), .len false (.t 20), none, false, []⟩,
    ⟨(some 22), .slice 1 (.t 19) (some (.t 21)) none, none, false, []⟩,
    ⟨(some 23), .len false (.t 22), none, false, []⟩,
    ⟨(some 24), .mov (.c (.int .i64 0)), none, false, []⟩] none [3, 5, 6, 22, 23, 24])
  (.block 0 (.loop [3, 5, 22, 23] [6, 24] 2
    (.seq (.ops [⟨(some 25), .bin .none .lss (.t 24) (.t 23), none, false, []⟩] none [3, 5, 6, 22, 23, 24, 25])
    (.seq (.cond (.t 25)
      .skip
      (.exit 0))
    (.seq (.block 1 (.seq (.ops [⟨(some 26), .iaddr 1 none (.t 22) (.t 24), none, false, []⟩,
      ⟨(some 27), .load 1 false (.t 26), none, false, []⟩,
      ⟨(some 8), .mov (.t 27), none, false, []⟩] none [3, 5, 6, 8, 22, 23, 24])
    (.ops [⟨(some 28), .mov (.t 6), none, false, []⟩,
      ⟨(some 29), .bin .none .shl (.t 28) (.c (.int .u64 8)), none, false, []⟩,
      ⟨(some 30), .mov (.t 8), none, false, []⟩,
      ⟨(some 31), .conv .i64 (.t 30), none, false, []⟩,
      ⟨(some 32), .bin .none .or (.t 29) (.t 31), none, false, []⟩,
      ⟨(some 6), .mov (.t 32), none, false, []⟩] none [3, 5, 6, 22, 23, 24])))
    (.ops [⟨(some 33), .bin .none .add (.t 24) (.c (.int .i64 1)), none, false, []⟩,
      ⟨(some 24), .mov (.t 33), none, false, []⟩] none [3, 5, 6, 22, 23, 24])))))))
  (.seq (.seq (.ops [⟨(some 34), .mov (.t 5), none, false, []⟩,
    ⟨(some 35), .b2s (.t 34), none, false, []⟩,
    ⟨(some 36), .call f_poly_Of [(.t 35)], none, false, []⟩,
    ⟨(some 37), .field 0 1 false (.t 36), none, false, []⟩,
    ⟨(some 38), .mov (.t 6), none, false, []⟩,
    ⟨(some 39), .bin .none .neq (.t 37) (.t 38), none, false, []⟩] none [3, 5, 39])
  (.cond (.t 39)
    (.seq (.ops [⟨(some 2), .mov (.c (.str [])), none, false, []⟩,
      ⟨(some 3), .newnil 4, none, false, []⟩,
      ⟨(some 4), .mov (.c (.int .i64 6)), none, false, []⟩] none [2, 3, 4])
    .ret)
    .skip))
  (.seq (.ops [⟨(some 40), .mov (.t 5), none, false, []⟩,
    ⟨(some 41), .slice 1 (.t 40) (some (.c (.int .i64 4))) none, none, false, []⟩,
    ⟨(some 42), .build [.nils, (.bool false)] [(0, 1, (.t 41))], none, false, []⟩,
    ⟨(some 43), .box 0 (.t 42), none, false, []⟩,
    ⟨(some 9), .mov (.t 43), none, false, []⟩] none [3, 5, 9])
  (.seq (.ops [⟨(some 44), .mov (.t 9), none, false, []⟩,
    ⟨(some 45), .call f___log_reader__text [(.t 44)], none, false, []⟩,
    ⟨(some 2), .mov (.t 45), none, false, []⟩] none [2, 3, 5, 9])
  (.seq (.seq (.ops [⟨(some 46), .mov (.t 9), none, false, []⟩,
    ⟨(some 47), .call f___log_reader__number [(.t 46)], none, false, []⟩,
    ⟨(some 10), .mov (.t 47), none, false, []⟩] none [2, 3, 5, 9, 10])
  (.block 2 (.loop [2, 5, 9] [3, 10] 4
    (.seq (.seq (.ops [⟨(some 48), .mov (.t 10), none, false, []⟩,
      ⟨(some 49), .bin .none .gtr (.t 48) (.c (.int .i64 0)), none, false, []⟩,
      ⟨(some 50), .mov (.t 49), none, true, []⟩,
      ⟨(some 51), .mov (.t 9), (some (50, true)), false, []⟩,
      ⟨(some 52), .nilchk (.t 51), (some (50, true)), false, []⟩,
      ⟨(some 53), .faddr 1 (.t 52), (some (50, true)), false, []⟩,
      ⟨(some 54), .load 1 false (.t 53), (some (50, true)), false, []⟩,
      ⟨(some 55), .not (.t 54), (some (50, true)), false, []⟩,
      ⟨(some 56), .pick (.t 50) (.t 55) (.c (.bool false)), none, false, []⟩] none [2, 3, 5, 9, 10, 56])
    (.cond (.t 56)
      .skip
      (.exit 2)))
    (.seq (.block 3 (.ops [⟨(some 59), .mov (.t 3), none, false, []⟩,
      ⟨(some 60), .mov (.t 9), none, false, []⟩,
      ⟨(some 61), .call f___log_reader__deed [(.t 60)], none, false, []⟩,
      ⟨(some 62), .bslice true 1 4 [(.int .i64 0), (.int .i64 0), (.int .i64 0), (.str [])] [(0, 4, (.t 61))], none, false, []⟩,
      ⟨(some 63), .append 4 40 (.t 59) (.t 62), none, false, []⟩,
      ⟨(some 3), .mov (.t 63), none, false, []⟩] none [2, 3, 5, 9, 10]))
    (.ops [⟨(some 57), .mov (.t 10), none, false, []⟩,
      ⟨(some 58), .bin .none .sub (.t 57) (.c (.int .i64 1)), none, false, []⟩,
      ⟨(some 10), .mov (.t 58), none, false, []⟩] none [2, 3, 5, 9, 10]))))))
  (.seq (.seq (.ops [⟨(some 64), .mov (.t 9), none, false, []⟩,
    ⟨(some 65), .nilchk (.t 64), none, false, []⟩,
    ⟨(some 66), .faddr 1 (.t 65), none, false, []⟩,
    ⟨(some 67), .load 1 false (.t 66), none, false, []⟩,
    ⟨(some 68), .mov (.t 67), none, true, []⟩,
    ⟨(some 69), .mov (.t 9), (some (68, false)), false, []⟩,
    ⟨(some 70), .nilchk (.t 69), (some (68, false)), false, []⟩,
    ⟨(some 71), .faddr 0 (.t 70), (some (68, false)), false, []⟩,
    ⟨(some 72), .load 1 false (.t 71), (some (68, false)), false, []⟩,
    ⟨(some 73), .len false (.t 72), (some (68, false)), false, []⟩,
    ⟨(some 74), .bin .none .gtr (.t 73) (.c (.int .i64 0)), (some (68, false)), false, []⟩,
    ⟨(some 75), .pick (.t 68) (.c (.bool true)) (.t 74), none, false, []⟩,
    ⟨(some 76), .mov (.t 75), none, true, []⟩,
    ⟨(some 77), .mov (.t 5), (some (76, false)), false, []⟩,
    ⟨(some 78), .slice 1 (.t 77) none (some (.c (.int .i64 4))), (some (76, false)), false, []⟩,
    ⟨(some 79), .b2s (.t 78), (some (76, false)), false, []⟩,
    ⟨(some 80), .bin .none .neq (.t 79) (.c (.str [70, 85, 83, 49])), (some (76, false)), false, []⟩,
    ⟨(some 81), .pick (.t 76) (.c (.bool true)) (.t 80), none, false, []⟩,
    ⟨(some 82), .mov (.t 81), none, true, []⟩,
    ⟨(some 83), .mov (.t 2), (some (82, false)), false, []⟩,
    ⟨(some 84), .mov (.t 3), (some (82, false)), false, []⟩,
    ⟨(some 85), .call f_log_fault [(.t 83), (.t 84)], (some (82, false)), false, []⟩,
    ⟨(some 86), .bin .none .neq (.t 85) (.c (.int .i64 0)), (some (82, false)), false, []⟩,
    ⟨(some 87), .pick (.t 82) (.c (.bool true)) (.t 86), none, false, []⟩] none [2, 3, 87])
  (.cond (.t 87)
    (.seq (.ops [⟨(some 2), .mov (.c (.str [])), none, false, []⟩,
      ⟨(some 3), .newnil 4, none, false, []⟩,
      ⟨(some 4), .mov (.c (.int .i64 4)), none, false, []⟩] none [2, 3, 4])
    .ret)
    .skip))
  (.seq (.ops [⟨(some 88), .mov (.t 2), none, false, []⟩,
    ⟨(some 89), .mov (.t 3), none, false, []⟩,
    ⟨(some 2), .mov (.t 88), none, false, []⟩,
    ⟨(some 3), .mov (.t 89), none, false, []⟩,
    ⟨(some 4), .mov (.c (.int .i64 0)), none, false, []⟩] none [2, 3, 4])
  .ret))))))))))
def log_Load_r : List RRes := [.tmp 2, .tmp 3, .tmp 4]
def log_Load_hi : Hi := ⟨[(3, (.st (.cons (.int .i64) (.cons (.st (.cons (.int .i64) (.cons (.int .i64) (.cons .str .nil)))) .nil)))), (62, (.st (.cons (.int .i64) (.cons (.st (.cons (.int .i64) (.cons (.int .i64) (.cons .str .nil)))) .nil)))), (63, (.st (.cons (.int .i64) (.cons (.st (.cons (.int .i64) (.cons (.int .i64) (.cons .str .nil)))) .nil)))), (43, (.st (.cons (.sl (.int .u8)) (.cons .bool .nil)))), (9, (.st (.cons (.sl (.int .u8)) (.cons .bool .nil)))), (44, (.st (.cons (.sl (.int .u8)) (.cons .bool .nil)))), (46, (.st (.cons (.sl (.int .u8)) (.cons .bool .nil)))), (51, (.st (.cons (.sl (.int .u8)) (.cons .bool .nil)))), (60, (.st (.cons (.sl (.int .u8)) (.cons .bool .nil)))), (64, (.st (.cons (.sl (.int .u8)) (.cons .bool .nil)))), (69, (.st (.cons (.sl (.int .u8)) (.cons .bool .nil))))], [(0, "b"), (1, "b"), (2, "s"), (3, "l"), (4, "e"), (5, "body"), (6, "sum"), (8, "x"), (9, "r"), (10, "n")]⟩
def log_Load_an : An := (.seq .d (.seq .d (.seq .d (.seq (.seq .d (.loop [] [] [] .d)) (.seq .d (.seq .d (.seq .d (.seq (.seq .d (.loop [9, 3] [] [] .d)) .d))))))))
def log_Load_fi : Fi := ⟨90, log_Load_c, log_Load_r, log_Load_an, log_Load_hi, none⟩
theorem log_Load_ok : FiOk Try.prog f_log_Load log_Load_fi :=
  ⟨by kernel_rfl, fun _ h hlen => fun_sound (fn := Try.f39) (draw_sound _ _) Try.func39 rfl (by kernel_rfl : comp Try.prog 90 _ log_Load_c = some log_Load_c) (by kernel_rfl : cRes Try.prog Try.f39.results.toList = some log_Load_r) hlen h, fun _ h => nomatch h⟩

/-- fustian/fustianref.PolyOf: slots [0 text, 1 text, 3 power, 4 sum, 5 i] -/
def ref_PolyOf_c : SCode :=
  (.seq (.ops [⟨(some 2), .alloc 0 [(.int .i64 0), (.int .i64 0)], none, false, []⟩] none [0, 2])
  (.seq (.ops [⟨(some 3), .mov (.c (.int .i64 1)), none, false, []⟩] none [0, 2, 3])
  (.seq (.ops [⟨(some 4), .mov (.c (.int .i64 0)), none, false, []⟩] none [0, 2, 3, 4])
  (.seq (.seq (.ops [⟨(some 6), .mov (.t 0), none, false, []⟩,
    ⟨(some 7), .len true (.t 6), none, false, []⟩,
    ⟨(some 8), .bin .none .sub (.t 7) (.c (.int .i64 1)), none, false, []⟩,
    ⟨(some 5), .mov (.t 8), none, false, []⟩] none [0, 2, 3, 4, 5])
  (.block 0 (.loop [0, 2] [3, 4, 5] 1
    (.seq (.seq (.ops [⟨(some 9), .mov (.t 5), none, false, []⟩,
      ⟨(some 10), .bin .none .geq (.t 9) (.c (.int .i64 0)), none, false, []⟩] none [0, 2, 3, 4, 5, 10])
    (.cond (.t 10)
      .skip
      (.exit 0)))
    (.seq (.block 1 (.seq (.ops [⟨(some 13), .mov (.t 4), none, false, []⟩,
      ⟨(some 14), .mov (.t 0), none, false, []⟩,
      ⟨(some 15), .mov (.t 5), none, false, []⟩,
      ⟨(some 16), .index 1 none false (.t 14) (.t 15), none, false, []⟩,
      ⟨(some 17), .conv .i64 (.t 16), none, false, []⟩,
      ⟨(some 18), .bin .none .add (.t 17) (.c (.int .i64 1)), none, false, []⟩,
      ⟨(some 19), .mov (.t 3), none, false, []⟩,
      ⟨(some 20), .bin .none .mul (.t 18) (.t 19), none, false, []⟩,
      ⟨(some 21), .bin .none .add (.t 13) (.t 20), none, false, []⟩,
      ⟨(some 22), .bin .none .rem (.t 21) (.c (.int .i64 2147483647)), none, false, []⟩,
      ⟨(some 4), .mov (.t 22), none, false, []⟩] none [0, 2, 3, 4, 5])
    (.ops [⟨(some 23), .mov (.t 3), none, false, []⟩,
      ⟨(some 24), .bin .none .mul (.t 23) (.c (.int .i64 257)), none, false, []⟩,
      ⟨(some 25), .bin .none .rem (.t 24) (.c (.int .i64 2147483647)), none, false, []⟩,
      ⟨(some 3), .mov (.t 25), none, false, []⟩] none [0, 2, 3, 4, 5])))
    (.ops [⟨(some 11), .mov (.t 5), none, false, []⟩,
      ⟨(some 12), .bin .none .sub (.t 11) (.c (.int .i64 1)), none, false, []⟩,
      ⟨(some 5), .mov (.t 12), none, false, []⟩] none [0, 2, 3, 4, 5]))))))
  (.seq (.ops [⟨(some 26), .mov (.t 4), none, false, []⟩,
    ⟨(some 27), .mov (.t 3), none, false, []⟩,
    ⟨(some 28), .build [(.int .i64 0), (.int .i64 0)] [(0, 1, (.t 26)), (1, 1, (.t 27))], none, false, []⟩,
    ⟨none, .store 2 (.t 2) (.t 28), none, false, []⟩] none [2])
  .ret)))))
def ref_PolyOf_r : List RRes := [.cell 2 2 true]
def ref_PolyOf_hi : Hi := ⟨[(2, (.st (.cons (.int .i64) (.cons (.int .i64) .nil))))], [(0, "text"), (1, "text"), (3, "power"), (4, "sum"), (5, "i")]⟩
def ref_PolyOf_an : An := (.seq .d (.seq .d (.seq .d (.seq (.seq .d (.loop [] [] [] .d)) .d))))
def ref_PolyOf_fi : Fi := ⟨29, ref_PolyOf_c, ref_PolyOf_r, ref_PolyOf_an, ref_PolyOf_hi, none⟩
theorem ref_PolyOf_ok : FiOk Try.prog f_ref_PolyOf ref_PolyOf_fi :=
  ⟨by kernel_rfl, fun _ h hlen => fun_sound (fn := Try.f75) (draw_sound _ _) Try.func75 rfl (by kernel_rfl : comp Try.prog 29 _ ref_PolyOf_c = some ref_PolyOf_c) (by kernel_rfl : cRes Try.prog Try.f75.results.toList = some ref_PolyOf_r) hlen h, fun _ h => nomatch h⟩

/-- fustian/fustianref.LogFault: slots [0 text, 1 l, 2 text, 3 l, 5 _, 6 d, 7 none, 8 _, 9 d] -/
def ref_LogFault_c : SCode :=
  (.seq (.ops [⟨(some 4), .mov (.c (.int .i64 0)), none, false, []⟩] none [0, 1])
  (.seq (.seq (.ops [⟨(some 10), .mov (.t 0), none, false, []⟩,
    ⟨(some 11), .len true (.t 10), none, false, []⟩,
    ⟨(some 12), .bin .none .gtr (.t 11) (.c (.int .i64 600)), none, false, []⟩,
    ⟨(some 13), .mov (.t 12), none, true, []⟩,
    ⟨(some 14), .mov (.t 1), (some (13, false)), false, []⟩,
    ⟨(some 15), .len false (.t 14), (some (13, false)), false, []⟩,
    ⟨(some 16), .bin .none .gtr (.t 15) (.c (.int .i64 80)), (some (13, false)), false, []⟩,
    ⟨(some 17), .pick (.t 13) (.c (.bool true)) (.t 16), none, false, []⟩] none [1, 17])
  (.cond (.t 17)
    (.seq (.ops [⟨(some 4), .mov (.c (.int .i64 1)), none, false, []⟩] none [4])
    .ret)
    .skip))
  (.seq (.seq (.ops [⟨(some 18), .mov (.t 1), none, false, []⟩,
    ⟨(some 19), .len false (.t 18), none, false, []⟩,
    ⟨(some 20), .mov (.c (.int .i64 0)), none, false, []⟩] none [1, 18, 19, 20])
  (.block 0 (.loop [1, 18, 19] [20] 0
    (.seq (.ops [⟨(some 21), .bin .none .lss (.t 20) (.t 19), none, false, []⟩] none [1, 18, 19, 20, 21])
    (.seq (.cond (.t 21)
      .skip
      (.exit 0))
    (.seq (.block 1 (.seq (.ops [⟨(some 22), .iaddr 4 none (.t 18) (.t 20), none, false, []⟩,
      ⟨(some 23), .load 4 true (.t 22), none, false, []⟩,
      ⟨(some 6), .alloc 0 [(.int .i64 0), (.int .i64 0), (.int .i64 0), (.str [])], none, false, []⟩,
      ⟨none, .store 4 (.t 6) (.t 23), none, false, []⟩] none [1, 6, 18, 19, 20])
    (.seq (.ops [⟨(some 24), .faddr 1 (.t 6), none, false, []⟩,
      ⟨(some 25), .faddr 2 (.t 24), none, false, []⟩,
      ⟨(some 26), .load 1 false (.t 25), none, false, []⟩,
      ⟨(some 27), .len true (.t 26), none, false, []⟩,
      ⟨(some 28), .bin .none .gtr (.t 27) (.c (.int .i64 600)), none, false, []⟩] none [1, 18, 19, 20, 28])
    (.cond (.t 28)
      (.seq (.ops [⟨(some 4), .mov (.c (.int .i64 1)), none, false, []⟩] none [4])
      .ret)
      .skip))))
    (.ops [⟨(some 29), .bin .none .add (.t 20) (.c (.int .i64 1)), none, false, []⟩,
      ⟨(some 20), .mov (.t 29), none, false, []⟩] none [1, 18, 19, 20])))))))
  (.seq (.ops [⟨(some 30), .build [(.int .i64 0), (.int .i64 0), (.str [])] [], none, false, []⟩,
    ⟨(some 7), .alloc 0 [(.int .i64 0), (.int .i64 0), (.str [])], none, false, []⟩,
    ⟨none, .store 3 (.t 7) (.t 30), none, false, []⟩] none [1, 7])
  (.seq (.seq (.ops [⟨(some 31), .mov (.t 1), none, false, []⟩,
    ⟨(some 32), .len false (.t 31), none, false, []⟩,
    ⟨(some 33), .mov (.c (.int .i64 0)), none, false, []⟩] none [7, 31, 32, 33])
  (.block 2 (.loop [7, 31, 32] [33] 2
    (.seq (.ops [⟨(some 34), .bin .none .lss (.t 33) (.t 32), none, false, []⟩] none [7, 31, 32, 33, 34])
    (.seq (.cond (.t 34)
      .skip
      (.exit 2))
    (.seq (.block 3 (.seq (.ops [⟨(some 35), .iaddr 4 none (.t 31) (.t 33), none, false, []⟩,
      ⟨(some 36), .load 4 true (.t 35), none, false, []⟩,
      ⟨(some 9), .alloc 0 [(.int .i64 0), (.int .i64 0), (.int .i64 0), (.str [])], none, false, []⟩,
      ⟨none, .store 4 (.t 9) (.t 36), none, false, []⟩] none [7, 9, 31, 32, 33])
    (.seq (.seq (.ops [⟨(some 37), .faddr 0 (.t 9), none, false, []⟩,
      ⟨(some 38), .load 1 false (.t 37), none, false, []⟩,
      ⟨(some 39), .bin .none .lss (.t 38) (.c (.int .i64 1)), none, false, []⟩,
      ⟨(some 40), .mov (.t 39), none, true, []⟩,
      ⟨(some 41), .faddr 0 (.t 9), (some (40, false)), false, []⟩,
      ⟨(some 42), .load 1 false (.t 41), (some (40, false)), false, []⟩,
      ⟨(some 43), .bin .none .gtr (.t 42) (.c (.int .i64 4)), (some (40, false)), false, []⟩,
      ⟨(some 44), .pick (.t 40) (.c (.bool true)) (.t 43), none, false, []⟩] none [7, 9, 31, 32, 33, 44])
    (.cond (.t 44)
      (.seq (.ops [⟨(some 4), .mov (.c (.int .i64 3)), none, false, []⟩] none [4])
      .ret)
      .skip))
    (.seq (.seq (.ops [⟨(some 45), .faddr 0 (.t 9), none, false, []⟩,
      ⟨(some 46), .load 1 false (.t 45), none, false, []⟩,
      ⟨(some 47), .bin .none .neq (.t 46) (.c (.int .i64 1)), none, false, []⟩,
      ⟨(some 48), .mov (.t 47), none, true, []⟩,
      ⟨(some 49), .faddr 1 (.t 9), (some (48, true)), false, []⟩,
      ⟨(some 50), .load 3 true (.t 49), (some (48, true)), false, []⟩,
      ⟨(some 51), .load 3 true (.t 7), (some (48, true)), false, []⟩,
      ⟨(some 52), .bin (.agg [.int, .int, .str]) .neq (.t 50) (.t 51), (some (48, true)), false, []⟩,
      ⟨(some 53), .pick (.t 48) (.t 52) (.c (.bool false)), none, false, []⟩] none [7, 9, 31, 32, 33, 53])
    (.cond (.t 53)
      (.seq (.ops [⟨(some 4), .mov (.c (.int .i64 4)), none, false, []⟩] none [4])
      .ret)
      .skip))
    (.seq (.ops [⟨(some 54), .faddr 1 (.t 9), none, false, []⟩,
      ⟨(some 55), .faddr 0 (.t 54), none, false, []⟩,
      ⟨(some 56), .load 1 false (.t 55), none, false, []⟩,
      ⟨(some 57), .bin .none .lss (.t 56) (.c (.int .i64 0)), none, false, []⟩,
      ⟨(some 58), .mov (.t 57), none, true, []⟩,
      ⟨(some 59), .faddr 1 (.t 9), (some (58, false)), false, []⟩,
      ⟨(some 60), .faddr 0 (.t 59), (some (58, false)), false, []⟩,
      ⟨(some 61), .load 1 false (.t 60), (some (58, false)), false, []⟩,
      ⟨(some 62), .bin .none .gtr (.t 61) (.c (.int .i64 600)), (some (58, false)), false, []⟩,
      ⟨(some 63), .pick (.t 58) (.c (.bool true)) (.t 62), none, false, []⟩,
      ⟨(some 64), .mov (.t 63), none, true, []⟩,
      ⟨(some 65), .faddr 1 (.t 9), (some (64, false)), false, []⟩,
      ⟨(some 66), .faddr 1 (.t 65), (some (64, false)), false, []⟩,
      ⟨(some 67), .load 1 false (.t 66), (some (64, false)), false, []⟩,
      ⟨(some 68), .bin .none .lss (.t 67) (.c (.int .i64 0)), (some (64, false)), false, []⟩,
      ⟨(some 69), .pick (.t 64) (.c (.bool true)) (.t 68), none, false, []⟩,
      ⟨(some 70), .mov (.t 69), none, true, []⟩,
      ⟨(some 71), .faddr 1 (.t 9), (some (70, false)), false, []⟩,
      ⟨(some 72), .faddr 1 (.t 71), (some (70, false)), false, []⟩,
      ⟨(some 73), .load 1 false (.t 72), (some (70, false)), false, []⟩,
      ⟨(some 74), .bin .none .gtr (.t 73) (.c (.int .i64 600)), (some (70, false)), false, []⟩,
      ⟨(some 75), .pick (.t 70) (.c (.bool true)) (.t 74), none, false, []⟩] none [7, 31, 32, 33, 75])
    (.cond (.t 75)
      (.seq (.ops [⟨(some 4), .mov (.c (.int .i64 2)), none, false, []⟩] none [4])
      .ret)
      .skip))))))
    (.ops [⟨(some 76), .bin .none .add (.t 33) (.c (.int .i64 1)), none, false, []⟩,
      ⟨(some 33), .mov (.t 76), none, false, []⟩] none [7, 31, 32, 33])))))))
  (.seq (.ops [⟨(some 4), .mov (.c (.int .i64 0)), none, false, []⟩] none [4])
  .ret))))))
def ref_LogFault_r : List RRes := [.tmp 4]
def ref_LogFault_hi : Hi := ⟨[(6, (.st (.cons (.int .i64) (.cons (.st (.cons (.int .i64) (.cons (.int .i64) (.cons .str .nil)))) .nil)))), (7, (.st (.cons (.int .i64) (.cons (.int .i64) (.cons .str .nil))))), (9, (.st (.cons (.int .i64) (.cons (.st (.cons (.int .i64) (.cons (.int .i64) (.cons .str .nil)))) .nil))))], [(0, "text"), (1, "l"), (2, "text"), (3, "l"), (6, "d"), (7, "none"), (9, "d")]⟩
def ref_LogFault_an : An := (.seq .d (.seq .d (.seq (.seq .d (.loop [] [] [] .d)) (.seq .d (.seq (.seq .d (.loop [] [] [] .d)) .d)))))
def ref_LogFault_fi : Fi := ⟨77, ref_LogFault_c, ref_LogFault_r, ref_LogFault_an, ref_LogFault_hi, none⟩
theorem ref_LogFault_ok : FiOk Try.prog f_ref_LogFault ref_LogFault_fi :=
  ⟨by kernel_rfl, fun _ h hlen => fun_sound (fn := Try.f73) (draw_sound _ _) Try.func73 rfl (by kernel_rfl : comp Try.prog 77 _ ref_LogFault_c = some ref_LogFault_c) (by kernel_rfl : cRes Try.prog Try.f73.results.toList = some ref_LogFault_r) hlen h, fun _ h => nomatch h⟩

/-- fustian/fustianref.twoBytes: slots [0 n, 1 n] -/
def ref_twoBytes_c : SCode :=
  (.seq (.ops [⟨(some 2), .mov (.c (.str [])), none, false, []⟩] none [0])
  (.seq (.ops [⟨(some 3), .mov (.t 0), none, false, []⟩,
    ⟨(some 4), .bin .none .quo (.t 3) (.c (.int .i64 256)), none, false, []⟩,
    ⟨(some 5), .conv .u8 (.t 4), none, false, []⟩,
    ⟨(some 6), .mov (.t 0), none, false, []⟩,
    ⟨(some 7), .bin .none .rem (.t 6) (.c (.int .i64 256)), none, false, []⟩,
    ⟨(some 8), .conv .u8 (.t 7), none, false, []⟩,
    ⟨(some 9), .bslice false 2 1 [(.int .u8 0), (.int .u8 0)] [(0, 1, (.t 5)), (1, 1, (.t 8))], none, false, []⟩,
    ⟨(some 10), .b2s (.t 9), none, false, []⟩,
    ⟨(some 2), .mov (.t 10), none, false, []⟩] none [2])
  .ret))
def ref_twoBytes_r : List RRes := [.tmp 2]
def ref_twoBytes_hi : Hi := ⟨[(9, (.int .u8))], [(0, "n"), (1, "n")]⟩
def ref_twoBytes_an : An := .d
def ref_twoBytes_fi : Fi := ⟨11, ref_twoBytes_c, ref_twoBytes_r, ref_twoBytes_an, ref_twoBytes_hi, none⟩
theorem ref_twoBytes_ok : FiOk Try.prog f_ref_twoBytes ref_twoBytes_fi :=
  ⟨by kernel_rfl, fun _ h hlen => fun_sound (fn := Try.f74) (draw_sound _ _) Try.func74 rfl (by kernel_rfl : comp Try.prog 11 _ ref_twoBytes_c = some ref_twoBytes_c) (by kernel_rfl : cRes Try.prog Try.f74.results.toList = some ref_twoBytes_r) hlen h, fun _ h => nomatch h⟩

/-- fustian/fustianref.LogSaved: slots [0 text, 1 l, 2 text, 3 l, 6 e, 7 out, 8 _, 9 d, 10 n] -/
def ref_LogSaved_c : SCode :=
  (.seq (.ops [⟨(some 4), .mov (.c .nils), none, false, []⟩,
    ⟨(some 5), .mov (.c (.int .i64 0)), none, false, []⟩] none [0, 1])
  (.seq (.seq (.ops [⟨(some 11), .mov (.t 0), none, false, []⟩,
    ⟨(some 12), .mov (.t 1), none, false, []⟩,
    ⟨(some 13), .call f_ref_LogFault [(.t 11), (.t 12)], none, false, []⟩,
    ⟨(some 6), .mov (.t 13), none, false, []⟩] none [0, 1, 6])
  (.seq (.ops [⟨(some 14), .mov (.t 6), none, false, []⟩,
    ⟨(some 15), .bin .none .neq (.t 14) (.c (.int .i64 0)), none, false, []⟩] none [0, 1, 6, 15])
  (.cond (.t 15)
    (.seq (.ops [⟨(some 16), .mov (.t 6), none, false, []⟩,
      ⟨(some 4), .mov (.c .nils), none, false, []⟩,
      ⟨(some 5), .mov (.t 16), none, false, []⟩] none [4, 5])
    .ret)
    .skip)))
  (.seq (.ops [⟨(some 17), .mov (.t 0), none, false, []⟩,
    ⟨(some 18), .len true (.t 17), none, false, []⟩,
    ⟨(some 19), .call f_ref_twoBytes [(.t 18)], none, false, []⟩,
    ⟨(some 20), .bin .none .add (.c (.str [70, 85, 83, 49])) (.t 19), none, false, []⟩,
    ⟨(some 21), .mov (.t 0), none, false, []⟩,
    ⟨(some 22), .bin .none .add (.t 20) (.t 21), none, false, []⟩,
    ⟨(some 23), .mov (.t 1), none, false, []⟩,
    ⟨(some 24), .len false (.t 23), none, false, []⟩,
    ⟨(some 25), .call f_ref_twoBytes [(.t 24)], none, false, []⟩,
    ⟨(some 26), .bin .none .add (.t 22) (.t 25), none, false, []⟩,
    ⟨(some 7), .mov (.t 26), none, false, []⟩] none [1, 7])
  (.seq (.seq (.ops [⟨(some 27), .mov (.t 1), none, false, []⟩,
    ⟨(some 28), .len false (.t 27), none, false, []⟩,
    ⟨(some 29), .mov (.c (.int .i64 0)), none, false, []⟩] none [7, 27, 28, 29])
  (.block 0 (.loop [27, 28] [7, 29] 0
    (.seq (.ops [⟨(some 30), .bin .none .lss (.t 29) (.t 28), none, false, []⟩] none [7, 27, 28, 29, 30])
    (.seq (.cond (.t 30)
      .skip
      (.exit 0))
    (.join [27, 28, 29] [7] 2 (.block 1 (.seq (.ops [⟨(some 31), .iaddr 4 none (.t 27) (.t 29), none, false, []⟩,
        ⟨(some 32), .load 4 true (.t 31), none, false, []⟩,
        ⟨(some 9), .alloc 0 [(.int .i64 0), (.int .i64 0), (.int .i64 0), (.str [])], none, false, []⟩,
        ⟨none, .store 4 (.t 9) (.t 32), none, false, []⟩] none [7, 9, 27, 28, 29])
      (.seq (.ops [⟨(some 33), .mov (.t 7), none, false, []⟩,
        ⟨(some 34), .faddr 0 (.t 9), none, false, []⟩,
        ⟨(some 35), .load 1 false (.t 34), none, false, []⟩,
        ⟨(some 36), .conv .u8 (.t 35), none, false, []⟩,
        ⟨(some 37), .bslice false 1 1 [(.int .u8 0)] [(0, 1, (.t 36))], none, false, []⟩,
        ⟨(some 38), .b2s (.t 37), none, false, []⟩,
        ⟨(some 39), .bin .none .add (.t 33) (.t 38), none, false, []⟩,
        ⟨(some 7), .mov (.t 39), none, false, []⟩] none [7, 9, 27, 28, 29])
      (.seq (.ops [⟨(some 40), .faddr 0 (.t 9), none, false, []⟩,
        ⟨(some 41), .load 1 false (.t 40), none, false, []⟩,
        ⟨(some 42), .bin .none .eql (.t 41) (.c (.int .i64 1)), none, false, []⟩] none [7, 9, 27, 28, 29, 42])
      (.cond (.t 42)
        (.ops [⟨(some 43), .mov (.t 7), none, false, []⟩,
          ⟨(some 44), .faddr 1 (.t 9), none, false, []⟩,
          ⟨(some 45), .faddr 0 (.t 44), none, false, []⟩,
          ⟨(some 46), .load 1 false (.t 45), none, false, []⟩,
          ⟨(some 48), .faddr 1 (.t 9), none, false, []⟩,
          ⟨(some 49), .faddr 1 (.t 48), none, false, []⟩,
          ⟨(some 50), .load 1 false (.t 49), none, false, []⟩,
          ⟨(some 53), .faddr 1 (.t 9), none, false, []⟩,
          ⟨(some 54), .faddr 2 (.t 53), none, false, []⟩,
          ⟨(some 55), .load 1 false (.t 54), none, false, []⟩,
          ⟨(some 56), .len true (.t 55), none, false, []⟩,
          ⟨(some 59), .faddr 1 (.t 9), none, false, []⟩,
          ⟨(some 60), .faddr 2 (.t 59), none, false, []⟩,
          ⟨(some 61), .load 1 false (.t 60), none, false, []⟩,
          ⟨(some 47), .call f_ref_twoBytes [(.t 46)], none, false, []⟩,
          ⟨(some 51), .call f_ref_twoBytes [(.t 50)], none, false, []⟩,
          ⟨(some 52), .bin .none .add (.t 47) (.t 51), none, false, []⟩,
          ⟨(some 57), .call f_ref_twoBytes [(.t 56)], none, false, []⟩,
          ⟨(some 58), .bin .none .add (.t 52) (.t 57), none, false, []⟩,
          ⟨(some 62), .bin .none .add (.t 58) (.t 61), none, false, []⟩,
          ⟨(some 63), .bin .none .add (.t 43) (.t 62), none, false, []⟩,
          ⟨(some 7), .mov (.t 63), none, false, []⟩] (some (18, 0, [0, 1, 2, 3, 5, 6, 7, 10, 11, 12, 13, 16, 17, 18, 4, 8, 9, 14, 15, 19, 20, 21])) [7, 27, 28, 29])
        .skip)))))
    (.ops [⟨(some 64), .bin .none .add (.t 29) (.c (.int .i64 1)), none, false, []⟩,
      ⟨(some 29), .mov (.t 64), none, false, []⟩] none [7, 27, 28, 29])))))))
  (.seq (.ops [⟨(some 65), .mov (.t 7), none, false, []⟩,
    ⟨(some 66), .call f_ref_PolyOf [(.t 65)], none, false, []⟩,
    ⟨(some 67), .field 0 1 false (.t 66), none, false, []⟩,
    ⟨(some 10), .mov (.t 67), none, false, []⟩] none [7, 10])
  (.seq (.ops [⟨(some 68), .mov (.t 7), none, false, []⟩,
    ⟨(some 69), .mov (.t 10), none, false, []⟩,
    ⟨(some 70), .bin .none .quo (.t 69) (.c (.int .i64 65536)), none, false, []⟩,
    ⟨(some 71), .call f_ref_twoBytes [(.t 70)], none, false, []⟩,
    ⟨(some 72), .bin .none .add (.t 68) (.t 71), none, false, []⟩,
    ⟨(some 73), .mov (.t 10), none, false, []⟩,
    ⟨(some 74), .bin .none .rem (.t 73) (.c (.int .i64 65536)), none, false, []⟩,
    ⟨(some 75), .call f_ref_twoBytes [(.t 74)], none, false, []⟩,
    ⟨(some 76), .bin .none .add (.t 72) (.t 75), none, false, []⟩,
    ⟨(some 77), .s2b (.t 76), none, false, []⟩,
    ⟨(some 4), .mov (.t 77), none, false, []⟩,
    ⟨(some 5), .mov (.c (.int .i64 0)), none, false, []⟩] none [4, 5])
  .ret))))))
def ref_LogSaved_r : List RRes := [.tmp 4, .tmp 5]
def ref_LogSaved_hi : Hi := ⟨[(37, (.int .u8)), (9, (.st (.cons (.int .i64) (.cons (.st (.cons (.int .i64) (.cons (.int .i64) (.cons .str .nil)))) .nil))))], [(0, "text"), (1, "l"), (2, "text"), (3, "l"), (6, "e"), (7, "out"), (9, "d"), (10, "n")]⟩
def ref_LogSaved_an : An := (.seq .d (.seq .d (.seq .d (.seq (.seq .d (.loop [] [] [] .d)) .d))))
def ref_LogSaved_fi : Fi := ⟨78, ref_LogSaved_c, ref_LogSaved_r, ref_LogSaved_an, ref_LogSaved_hi, none⟩
theorem ref_LogSaved_ok : FiOk Try.prog f_ref_LogSaved ref_LogSaved_fi :=
  ⟨by kernel_rfl, fun _ h hlen => fun_sound (fn := Try.f37) (draw_sound _ _) Try.func37 rfl (by kernel_rfl : comp Try.prog 78 _ ref_LogSaved_c = some ref_LogSaved_c) (by kernel_rfl : cRes Try.prog Try.f37.results.toList = some ref_LogSaved_r) hlen h, fun _ h => nomatch h⟩

/-- fustian/fustianref.LogLoaded$1: slots [] -/
def ref_LogLoaded_1_c : SCode :=
  (.seq (.ops [⟨(some 4), .mov (.c (.int .i64 0)), none, false, []⟩] none [0, 1, 2, 3])
  (.seq (.seq (.ops [⟨(some 5), .load 1 false (.t 0), none, false, []⟩,
    ⟨(some 6), .bin .none .add (.t 5) (.c (.int .i64 2)), none, false, []⟩,
    ⟨(some 7), .load 1 false (.t 1), none, false, []⟩,
    ⟨(some 8), .bin .none .gtr (.t 6) (.t 7), none, false, []⟩] none [0, 2, 3, 8])
  (.cond (.t 8)
    (.seq (.ops [⟨none, .store 1 (.t 2) (.c (.bool true)), none, false, []⟩] none [])
    (.seq (.ops [⟨(some 4), .mov (.c (.int .i64 0)), none, false, []⟩] none [4])
    .ret))
    .skip))
  (.seq (.ops [⟨(some 9), .load 1 false (.t 0), none, false, []⟩,
    ⟨(some 10), .bin .none .add (.t 9) (.c (.int .i64 2)), none, false, []⟩,
    ⟨none, .store 1 (.t 0) (.t 10), none, false, []⟩] none [0, 3])
  (.seq (.ops [⟨(some 11), .load 1 false (.t 3), none, false, []⟩,
    ⟨(some 12), .load 1 false (.t 0), none, false, []⟩,
    ⟨(some 13), .bin .none .sub (.t 12) (.c (.int .i64 2)), none, false, []⟩,
    ⟨(some 14), .iaddr 1 none (.t 11) (.t 13), none, false, []⟩,
    ⟨(some 15), .load 1 false (.t 14), none, false, []⟩,
    ⟨(some 16), .conv .i64 (.t 15), none, false, []⟩,
    ⟨(some 17), .bin .none .mul (.c (.int .i64 256)) (.t 16), none, false, []⟩,
    ⟨(some 18), .load 1 false (.t 3), none, false, []⟩,
    ⟨(some 19), .load 1 false (.t 0), none, false, []⟩,
    ⟨(some 20), .bin .none .sub (.t 19) (.c (.int .i64 1)), none, false, []⟩,
    ⟨(some 21), .iaddr 1 none (.t 18) (.t 20), none, false, []⟩,
    ⟨(some 22), .load 1 false (.t 21), none, false, []⟩,
    ⟨(some 23), .conv .i64 (.t 22), none, false, []⟩,
    ⟨(some 24), .bin .none .add (.t 17) (.t 23), none, false, []⟩,
    ⟨(some 4), .mov (.t 24), none, false, []⟩] (some (0, 0, [0, 1, 2, 3, 4, 5, 6, 7, 8, 9, 10, 11, 12, 13, 14])) [4])
  .ret))))
def ref_LogLoaded_1_r : List RRes := [.tmp 4]
def ref_LogLoaded_1_hi : Hi := ⟨[], []⟩
def ref_LogLoaded_1_an : An := .d
def ref_LogLoaded_1_fi : Fi := ⟨25, ref_LogLoaded_1_c, ref_LogLoaded_1_r, ref_LogLoaded_1_an, ref_LogLoaded_1_hi, none⟩
theorem ref_LogLoaded_1_ok : FiOk Try.prog f_ref_LogLoaded_1 ref_LogLoaded_1_fi :=
  ⟨by kernel_rfl, fun _ h hlen => fun_sound (fn := Try.f79) (draw_sound _ _) Try.func79 rfl (by kernel_rfl : comp Try.prog 25 _ ref_LogLoaded_1_c = some ref_LogLoaded_1_c) (by kernel_rfl : cRes Try.prog Try.f79.results.toList = some ref_LogLoaded_1_r) hlen h, fun _ h => nomatch h⟩

/-- fustian/fustianref.LogLoaded: slots [0 b, 1 b, 5 k, 6 sum, 7 _, 8 x, 9 at, 10 over, 11 num, 12 str, 13 text, 14 many, 15 l, 16 i, 17 d, 18 again, 19 e] -/
def ref_LogLoaded_c : SCode :=
  (.seq (.ops [⟨(some 1), .box 0 (.t 0), none, false, []⟩,
    ⟨(some 2), .mov (.c (.str [])), none, false, []⟩,
    ⟨(some 3), .mov (.c .nils), none, false, []⟩,
    ⟨(some 4), .mov (.c (.int .i64 0)), none, false, []⟩] none [1])
  (.seq (.seq (.ops [⟨(some 20), .load 1 false (.t 1), none, false, []⟩,
    ⟨(some 21), .len false (.t 20), none, false, []⟩,
    ⟨(some 22), .bin .none .lss (.t 21) (.c (.int .i64 12)), none, false, []⟩] none [1, 22])
  (.cond (.t 22)
    (.seq (.ops [⟨(some 2), .mov (.c (.str [])), none, false, []⟩,
      ⟨(some 3), .mov (.c .nils), none, false, []⟩,
      ⟨(some 4), .mov (.c (.int .i64 5)), none, false, []⟩] none [2, 3, 4])
    .ret)
    .skip))
  (.seq (.ops [⟨(some 23), .load 1 false (.t 1), none, false, []⟩,
    ⟨(some 24), .len false (.t 23), none, false, []⟩,
    ⟨(some 25), .bin .none .sub (.t 24) (.c (.int .i64 4)), none, false, []⟩,
    ⟨(some 5), .alloc 0 [(.int .i64 0)], none, false, []⟩,
    ⟨none, .store 1 (.t 5) (.t 25), none, false, []⟩] none [1, 5])
  (.seq (.ops [⟨(some 6), .mov (.c (.int .i64 0)), none, false, []⟩] none [1, 5, 6])
  (.seq (.seq (.ops [⟨(some 26), .load 1 false (.t 1), none, false, []⟩,
    ⟨(some 27), .load 1 false (.t 5), none, false, []⟩,
    ⟨(some 28), .slice 1 (.t 26) (some (.t 27)) none, none, false, []⟩,
    ⟨(some 29), .len false (.t 28), none, false, []⟩,
    ⟨(some 30), .mov (.c (.int .i64 0)), none, false, []⟩] none [1, 5, 6, 28, 29, 30])
  (.block 0 (.loop [1, 5, 28, 29] [6, 30] 2
    (.seq (.ops [⟨(some 31), .bin .none .lss (.t 30) (.t 29), none, false, []⟩] none [1, 5, 6, 28, 29, 30, 31])
    (.seq (.cond (.t 31)
      .skip
      (.exit 0))
    (.seq (.block 1 (.seq (.ops [⟨(some 32), .iaddr 1 none (.t 28) (.t 30), none, false, []⟩,
      ⟨(some 33), .load 1 false (.t 32), none, false, []⟩,
      ⟨(some 8), .mov (.t 33), none, false, []⟩] none [1, 5, 6, 8, 28, 29, 30])
    (.ops [⟨(some 34), .mov (.t 6), none, false, []⟩,
      ⟨(some 35), .bin .none .mul (.c (.int .i64 256)) (.t 34), none, false, []⟩,
      ⟨(some 36), .mov (.t 8), none, false, []⟩,
      ⟨(some 37), .conv .i64 (.t 36), none, false, []⟩,
      ⟨(some 38), .bin .none .add (.t 35) (.t 37), none, false, []⟩,
      ⟨(some 6), .mov (.t 38), none, false, []⟩] none [1, 5, 6, 28, 29, 30])))
    (.ops [⟨(some 39), .bin .none .add (.t 30) (.c (.int .i64 1)), none, false, []⟩,
      ⟨(some 30), .mov (.t 39), none, false, []⟩] none [1, 5, 6, 28, 29, 30])))))))
  (.seq (.seq (.ops [⟨(some 40), .load 1 false (.t 1), none, false, []⟩,
    ⟨(some 41), .load 1 false (.t 5), none, false, []⟩,
    ⟨(some 42), .slice 1 (.t 40) none (some (.t 41)), none, false, []⟩,
    ⟨(some 43), .b2s (.t 42), none, false, []⟩,
    ⟨(some 44), .call f_ref_PolyOf [(.t 43)], none, false, []⟩,
    ⟨(some 45), .field 0 1 false (.t 44), none, false, []⟩,
    ⟨(some 46), .mov (.t 6), none, false, []⟩,
    ⟨(some 47), .bin .none .neq (.t 45) (.t 46), none, false, []⟩] none [1, 5, 47])
  (.cond (.t 47)
    (.seq (.ops [⟨(some 2), .mov (.c (.str [])), none, false, []⟩,
      ⟨(some 3), .mov (.c .nils), none, false, []⟩,
      ⟨(some 4), .mov (.c (.int .i64 6)), none, false, []⟩] none [2, 3, 4])
    .ret)
    .skip))
  (.seq (.ops [⟨(some 9), .alloc 0 [(.int .i64 0)], none, false, []⟩,
    ⟨none, .store 1 (.t 9) (.c (.int .i64 4)), none, false, []⟩] none [1, 5, 9])
  (.seq (.ops [⟨(some 10), .alloc 0 [(.bool false)], none, false, []⟩,
    ⟨none, .store 1 (.t 10) (.c (.bool false)), none, false, []⟩] none [1, 5, 9, 10])
  (.seq (.ops [⟨(some 48), .mkfunc (.func f_ref_LogLoaded_1) [] [(.t 9), (.t 5), (.t 10), (.t 1)], none, false, []⟩,
    ⟨(some 11), .alloc 0 [.nilf], none, false, []⟩,
    ⟨none, .store 1 (.t 11) (.t 48), none, false, []⟩] none [1, 5, 9, 10, 11])
  (.seq (.ops [⟨(some 49), .mkfunc (.func f_ref_LogLoaded_2) [] [(.t 11), (.t 10), (.t 9), (.t 5), (.t 1)], none, false, []⟩,
    ⟨(some 12), .mov (.t 49), none, false, []⟩] none [1, 5, 9, 10, 11, 12])
  (.seq (.ops [⟨(some 50), .mov (.t 12), none, false, []⟩,
    ⟨(some 51), .callv (.t 50) [], none, false, []⟩,
    ⟨(some 13), .mov (.t 51), none, false, []⟩] none [1, 5, 9, 10, 11, 12, 13])
  (.seq (.ops [⟨(some 52), .load 1 false (.t 11), none, false, []⟩,
    ⟨(some 53), .callv (.t 52) [], none, false, []⟩,
    ⟨(some 14), .mov (.t 53), none, false, []⟩] none [1, 5, 9, 10, 11, 12, 13, 14])
  (.seq (.ops [⟨(some 15), .newnil 4, none, false, []⟩] none [1, 5, 9, 10, 11, 12, 13, 14, 15])
  (.join [1, 10, 13] [15] 7 (.seq (.ops [⟨(some 16), .mov (.c (.int .i64 0)), none, false, []⟩] none [1, 5, 9, 10, 11, 12, 13, 14, 15, 16])
    (.block 2 (.loop [1, 5, 9, 10, 11, 12, 13, 14] [15, 16] 6
      (.seq (.seq (.ops [⟨(some 54), .mov (.t 16), none, false, []⟩,
        ⟨(some 55), .mov (.t 14), none, false, []⟩,
        ⟨(some 56), .bin .none .lss (.t 54) (.t 55), none, false, []⟩,
        ⟨(some 57), .mov (.t 56), none, true, []⟩,
        ⟨(some 58), .load 1 false (.t 10), (some (57, true)), false, []⟩,
        ⟨(some 59), .not (.t 58), (some (57, true)), false, []⟩,
        ⟨(some 60), .pick (.t 57) (.t 59) (.c (.bool false)), none, false, []⟩] none [1, 5, 9, 10, 11, 12, 13, 14, 15, 16, 60])
      (.cond (.t 60)
        .skip
        (.exit 2)))
      (.seq (.block 3 (.seq (.seq (.ops [⟨(some 63), .load 1 false (.t 9), none, false, []⟩,
        ⟨(some 64), .load 1 false (.t 5), none, false, []⟩,
        ⟨(some 65), .bin .none .geq (.t 63) (.t 64), none, false, []⟩] none [1, 5, 9, 10, 11, 12, 13, 14, 15, 16, 65])
      (.cond (.t 65)
        (.seq (.ops [⟨none, .store 1 (.t 10) (.c (.bool true)), none, false, []⟩] none [1, 10, 13, 15])
        (.exit 2))
        .skip))
      (.seq (.ops [⟨(some 66), .load 1 false (.t 1), none, false, []⟩,
        ⟨(some 67), .load 1 false (.t 9), none, false, []⟩,
        ⟨(some 68), .iaddr 1 none (.t 66) (.t 67), none, false, []⟩,
        ⟨(some 69), .load 1 false (.t 68), none, false, []⟩,
        ⟨(some 70), .conv .i64 (.t 69), none, false, []⟩,
        ⟨(some 71), .build [(.int .i64 0), (.int .i64 0), (.int .i64 0), (.str [])] [(0, 1, (.t 70))], none, false, []⟩,
        ⟨(some 17), .alloc 0 [(.int .i64 0), (.int .i64 0), (.int .i64 0), (.str [])], none, false, []⟩,
        ⟨none, .store 4 (.t 17) (.t 71), none, false, []⟩] none [1, 5, 9, 10, 11, 12, 13, 14, 15, 16, 17])
      (.seq (.ops [⟨(some 72), .load 1 false (.t 9), none, false, []⟩,
        ⟨(some 73), .bin .none .add (.t 72) (.c (.int .i64 1)), none, false, []⟩,
        ⟨none, .store 1 (.t 9) (.t 73), none, false, []⟩] none [1, 5, 9, 10, 11, 12, 13, 14, 15, 16, 17])
      (.join [1, 5, 9, 10, 11, 12, 13, 14, 15, 16, 17] [] 7 (.seq (.ops [⟨(some 74), .faddr 0 (.t 17), none, false, []⟩,
          ⟨(some 75), .load 1 false (.t 74), none, false, []⟩,
          ⟨(some 76), .bin .none .eql (.t 75) (.c (.int .i64 1)), none, false, []⟩] none [1, 5, 9, 10, 11, 12, 13, 14, 15, 16, 17, 76])
        (.cond (.t 76)
          (.seq (.ops [⟨(some 77), .load 1 false (.t 11), none, false, []⟩,
            ⟨(some 78), .callv (.t 77) [], none, false, []⟩,
            ⟨(some 79), .faddr 1 (.t 17), none, false, []⟩,
            ⟨(some 80), .faddr 0 (.t 79), none, false, []⟩,
            ⟨none, .store 1 (.t 80) (.t 78), none, false, []⟩] none [1, 5, 9, 10, 11, 12, 13, 14, 15, 16, 17])
          (.seq (.ops [⟨(some 81), .load 1 false (.t 11), none, false, []⟩,
            ⟨(some 82), .callv (.t 81) [], none, false, []⟩,
            ⟨(some 83), .faddr 1 (.t 17), none, false, []⟩,
            ⟨(some 84), .faddr 1 (.t 83), none, false, []⟩,
            ⟨none, .store 1 (.t 84) (.t 82), none, false, []⟩] none [1, 5, 9, 10, 11, 12, 13, 14, 15, 16, 17])
          (.ops [⟨(some 85), .mov (.t 12), none, false, []⟩,
            ⟨(some 86), .callv (.t 85) [], none, false, []⟩,
            ⟨(some 87), .faddr 1 (.t 17), none, false, []⟩,
            ⟨(some 88), .faddr 2 (.t 87), none, false, []⟩,
            ⟨none, .store 1 (.t 88) (.t 86), none, false, []⟩] none [1, 5, 9, 10, 11, 12, 13, 14, 15, 16, 17])))
          .skip))
      (.ops [⟨(some 89), .mov (.t 15), none, false, []⟩,
        ⟨(some 90), .load 4 true (.t 17), none, false, []⟩,
        ⟨(some 91), .bslice true 1 4 [(.int .i64 0), (.int .i64 0), (.int .i64 0), (.str [])] [(0, 4, (.t 90))], none, false, []⟩,
        ⟨(some 92), .append 4 40 (.t 89) (.t 91), none, false, []⟩,
        ⟨(some 15), .mov (.t 92), none, false, []⟩] none [1, 5, 9, 10, 11, 12, 13, 14, 15, 16]))))))
      (.ops [⟨(some 61), .mov (.t 16), none, false, []⟩,
        ⟨(some 62), .bin .none .add (.t 61) (.c (.int .i64 1)), none, false, []⟩,
        ⟨(some 16), .mov (.t 62), none, false, []⟩] none [1, 5, 9, 10, 11, 12, 13, 14, 15, 16]))))))
  (.seq (.seq (.ops [⟨(some 93), .load 1 false (.t 10), none, false, []⟩] none [1, 13, 15, 93])
  (.cond (.t 93)
    (.seq (.ops [⟨(some 2), .mov (.c (.str [])), none, false, []⟩,
      ⟨(some 3), .mov (.c .nils), none, false, []⟩,
      ⟨(some 4), .mov (.c (.int .i64 4)), none, false, []⟩] none [2, 3, 4])
    .ret)
    .skip))
  (.seq (.ops [⟨(some 95), .mov (.t 13), none, false, []⟩,
    ⟨(some 96), .mov (.t 15), none, false, []⟩,
    ⟨(some 97), .call f_ref_LogSaved [(.t 95), (.t 96)], none, false, []⟩,
    ⟨(some 94), .mov (.t 97), none, false, []⟩,
    ⟨(some 98), .extract (.t 94) 0, none, false, []⟩,
    ⟨(some 99), .extract (.t 94) 1, none, false, []⟩,
    ⟨(some 18), .mov (.t 98), none, false, []⟩,
    ⟨(some 19), .mov (.t 99), none, false, []⟩] none [1, 13, 15, 18, 19])
  (.seq (.seq (.ops [⟨(some 100), .mov (.t 19), none, false, []⟩,
    ⟨(some 101), .bin .none .neq (.t 100) (.c (.int .i64 0)), none, false, []⟩,
    ⟨(some 102), .mov (.t 101), none, true, []⟩,
    ⟨(some 103), .mov (.t 18), (some (102, false)), false, []⟩,
    ⟨(some 104), .b2s (.t 103), (some (102, false)), false, []⟩,
    ⟨(some 105), .load 1 false (.t 1), (some (102, false)), false, []⟩,
    ⟨(some 106), .b2s (.t 105), (some (102, false)), false, []⟩,
    ⟨(some 107), .bin .none .neq (.t 104) (.t 106), (some (102, false)), false, []⟩,
    ⟨(some 108), .pick (.t 102) (.c (.bool true)) (.t 107), none, false, []⟩] none [13, 15, 108])
  (.cond (.t 108)
    (.seq (.ops [⟨(some 2), .mov (.c (.str [])), none, false, []⟩,
      ⟨(some 3), .mov (.c .nils), none, false, []⟩,
      ⟨(some 4), .mov (.c (.int .i64 4)), none, false, []⟩] none [2, 3, 4])
    .ret)
    .skip))
  (.seq (.ops [⟨(some 109), .mov (.t 13), none, false, []⟩,
    ⟨(some 110), .mov (.t 15), none, false, []⟩,
    ⟨(some 2), .mov (.t 109), none, false, []⟩,
    ⟨(some 3), .mov (.t 110), none, false, []⟩,
    ⟨(some 4), .mov (.c (.int .i64 0)), none, false, []⟩] none [2, 3, 4])
  .ret))))))))))))))))))
def ref_LogLoaded_r : List RRes := [.tmp 2, .tmp 3, .tmp 4]
def ref_LogLoaded_hi : Hi := ⟨[(15, (.st (.cons (.int .i64) (.cons (.st (.cons (.int .i64) (.cons (.int .i64) (.cons .str .nil)))) .nil)))), (91, (.st (.cons (.int .i64) (.cons (.st (.cons (.int .i64) (.cons (.int .i64) (.cons .str .nil)))) .nil)))), (92, (.st (.cons (.int .i64) (.cons (.st (.cons (.int .i64) (.cons (.int .i64) (.cons .str .nil)))) .nil)))), (1, (.sl (.int .u8))), (17, (.st (.cons (.int .i64) (.cons (.st (.cons (.int .i64) (.cons (.int .i64) (.cons .str .nil)))) .nil))))], [(0, "b"), (1, "b"), (5, "k"), (6, "sum"), (8, "x"), (9, "at"), (10, "over"), (11, "num"), (12, "str"), (13, "text"), (14, "many"), (15, "l"), (16, "i"), (17, "d"), (18, "again"), (19, "e")]⟩
def ref_LogLoaded_an : An := (.seq .d (.seq .d (.seq .d (.seq .d (.seq (.seq .d (.loop [] [] [] .d)) (.seq .d (.seq .d (.seq .d (.seq .d (.seq .d (.seq .d (.seq .d (.seq .d (.seq (.seq .d (.loop [10, 9, 11, 12, 15] [] [] .d)) .d))))))))))))))
def ref_LogLoaded_fi : Fi := ⟨111, ref_LogLoaded_c, ref_LogLoaded_r, ref_LogLoaded_an, ref_LogLoaded_hi, none⟩
theorem ref_LogLoaded_ok : FiOk Try.prog f_ref_LogLoaded ref_LogLoaded_fi :=
  ⟨by kernel_rfl, fun _ h hlen => fun_sound (fn := Try.f40) (draw_sound _ _) Try.func40 rfl (by kernel_rfl : comp Try.prog 111 _ ref_LogLoaded_c = some ref_LogLoaded_c) (by kernel_rfl : cRes Try.prog Try.f40.results.toList = some ref_LogLoaded_r) hlen h, fun _ h => nomatch h⟩

/-- fustian/fustianlaw.sameDeeds: slots [0 a, 1 b, 2 a, 3 b, 5 i] -/
def law_sameDeeds_c : SCode :=
  (.seq (.ops [⟨(some 4), .mov (.c (.bool false)), none, false, []⟩] none [0, 1])
  (.seq (.seq (.ops [⟨(some 6), .mov (.t 0), none, false, []⟩,
    ⟨(some 7), .len false (.t 6), none, false, []⟩,
    ⟨(some 8), .mov (.t 1), none, false, []⟩,
    ⟨(some 9), .len false (.t 8), none, false, []⟩,
    ⟨(some 10), .bin .none .neq (.t 7) (.t 9), none, false, []⟩] none [0, 1, 10])
  (.cond (.t 10)
    (.seq (.ops [⟨(some 4), .mov (.c (.bool false)), none, false, []⟩] none [4])
    .ret)
    .skip))
  (.seq (.seq (.ops [⟨(some 5), .mov (.c (.int .i64 0)), none, false, []⟩] none [0, 1, 5])
  (.block 0 (.loop [0, 1] [5] 0
    (.seq (.seq (.ops [⟨(some 11), .mov (.t 5), none, false, []⟩,
      ⟨(some 12), .mov (.t 0), none, false, []⟩,
      ⟨(some 13), .len false (.t 12), none, false, []⟩,
      ⟨(some 14), .bin .none .lss (.t 11) (.t 13), none, false, []⟩] none [0, 1, 5, 14])
    (.cond (.t 14)
      .skip
      (.exit 0)))
    (.seq (.block 1 (.seq (.ops [⟨(some 17), .mov (.t 0), none, false, []⟩,
      ⟨(some 18), .mov (.t 5), none, false, []⟩,
      ⟨(some 19), .iaddr 4 none (.t 17) (.t 18), none, false, []⟩,
      ⟨(some 20), .load 4 true (.t 19), none, false, []⟩,
      ⟨(some 21), .mov (.t 1), none, false, []⟩,
      ⟨(some 22), .mov (.t 5), none, false, []⟩,
      ⟨(some 23), .iaddr 4 none (.t 21) (.t 22), none, false, []⟩,
      ⟨(some 24), .load 4 true (.t 23), none, false, []⟩,
      ⟨(some 25), .bin (.agg [.int, .int, .int, .str]) .neq (.t 20) (.t 24), none, false, []⟩] (some (0, 0, [0, 1, 2, 3, 4, 5, 6, 7, 8])) [0, 1, 5, 25])
    (.cond (.t 25)
      (.seq (.ops [⟨(some 4), .mov (.c (.bool false)), none, false, []⟩] none [4])
      .ret)
      .skip)))
    (.ops [⟨(some 15), .mov (.t 5), none, false, []⟩,
      ⟨(some 16), .bin .none .add (.t 15) (.c (.int .i64 1)), none, false, []⟩,
      ⟨(some 5), .mov (.t 16), none, false, []⟩] none [0, 1, 5]))))))
  (.seq (.ops [⟨(some 4), .mov (.c (.bool true)), none, false, []⟩] none [4])
  .ret))))
def law_sameDeeds_r : List RRes := [.tmp 4]
def law_sameDeeds_hi : Hi := ⟨[], [(0, "a"), (1, "b"), (2, "a"), (3, "b"), (5, "i")]⟩
def law_sameDeeds_an : An := (.seq .d (.seq .d (.seq (.seq .d (.loop [] [] [] .d)) .d)))
def law_sameDeeds_fi : Fi := ⟨26, law_sameDeeds_c, law_sameDeeds_r, law_sameDeeds_an, law_sameDeeds_hi, none⟩
theorem law_sameDeeds_ok : FiOk Try.prog f_law_sameDeeds law_sameDeeds_fi :=
  ⟨by kernel_rfl, fun _ h hlen => fun_sound (fn := Try.f41) (draw_sound _ _) Try.func41 rfl (by kernel_rfl : comp Try.prog 26 _ law_sameDeeds_c = some law_sameDeeds_c) (by kernel_rfl : cRes Try.prog Try.f41.results.toList = some law_sameDeeds_r) hlen h, fun _ h => nomatch h⟩

/-- fustian/fustianlaw.LogLoads: slots [0 b, 1 b, 3 s, 4 x, 5 e, 6 t, 7 y, 8 f] -/
def law_LogLoads_c : SCode :=
  (.seq (.ops [⟨(some 2), .mov (.c (.bool false)), none, false, []⟩] none [0])
  (.seq (.ops [⟨(some 10), .mov (.t 0), none, false, []⟩,
    ⟨(some 11), .call f_log_Load [(.t 10)], none, false, []⟩,
    ⟨(some 9), .mov (.t 11), none, false, []⟩,
    ⟨(some 12), .extract (.t 9) 0, none, false, []⟩,
    ⟨(some 13), .extract (.t 9) 1, none, false, []⟩,
    ⟨(some 14), .extract (.t 9) 2, none, false, []⟩,
    ⟨(some 3), .mov (.t 12), none, false, []⟩,
    ⟨(some 4), .mov (.t 13), none, false, []⟩,
    ⟨(some 5), .mov (.t 14), none, false, []⟩] none [0, 3, 4, 5])
  (.seq (.ops [⟨(some 16), .mov (.t 0), none, false, []⟩,
    ⟨(some 17), .call f_ref_LogLoaded [(.t 16)], none, false, []⟩,
    ⟨(some 15), .mov (.t 17), none, false, []⟩,
    ⟨(some 18), .extract (.t 15) 0, none, false, []⟩,
    ⟨(some 19), .extract (.t 15) 1, none, false, []⟩,
    ⟨(some 20), .extract (.t 15) 2, none, false, []⟩,
    ⟨(some 6), .mov (.t 18), none, false, []⟩,
    ⟨(some 7), .mov (.t 19), none, false, []⟩,
    ⟨(some 8), .mov (.t 20), none, false, []⟩] none [3, 4, 5, 6, 7, 8])
  (.seq (.ops [⟨(some 21), .mov (.t 3), none, false, []⟩,
    ⟨(some 22), .mov (.t 6), none, false, []⟩,
    ⟨(some 23), .bin .none .eql (.t 21) (.t 22), none, false, []⟩,
    ⟨(some 24), .mov (.t 23), none, true, []⟩,
    ⟨(some 25), .mov (.t 4), (some (24, true)), false, []⟩,
    ⟨(some 26), .mov (.t 7), (some (24, true)), false, []⟩,
    ⟨(some 27), .call f_law_sameDeeds [(.t 25), (.t 26)], (some (24, true)), false, []⟩,
    ⟨(some 28), .pick (.t 24) (.t 27) (.c (.bool false)), none, false, []⟩,
    ⟨(some 29), .mov (.t 28), none, true, []⟩,
    ⟨(some 30), .mov (.t 5), (some (29, true)), false, []⟩,
    ⟨(some 31), .mov (.t 8), (some (29, true)), false, []⟩,
    ⟨(some 32), .bin .none .eql (.t 30) (.t 31), (some (29, true)), false, []⟩,
    ⟨(some 33), .pick (.t 29) (.t 32) (.c (.bool false)), none, false, []⟩,
    ⟨(some 2), .mov (.t 33), none, false, []⟩] none [2])
  .ret))))
def law_LogLoads_r : List RRes := [.tmp 2]
def law_LogLoads_hi : Hi := ⟨[], [(0, "b"), (1, "b"), (3, "s"), (4, "x"), (5, "e"), (6, "t"), (7, "y"), (8, "f")]⟩
def law_LogLoads_an : An := .d
def law_LogLoads_fi : Fi := ⟨34, law_LogLoads_c, law_LogLoads_r, law_LogLoads_an, law_LogLoads_hi, none⟩
theorem law_LogLoads_ok : FiOk Try.prog f_law_LogLoads law_LogLoads_fi :=
  ⟨by kernel_rfl, fun _ h hlen => fun_sound (fn := Try.f12) (draw_sound _ _) Try.func12 rfl (by kernel_rfl : comp Try.prog 34 _ law_LogLoads_c = some law_LogLoads_c) (by kernel_rfl : cRes Try.prog Try.f12.results.toList = some law_LogLoads_r) hlen h, fun _ h => nomatch h⟩

/-- fustian/log.fits: slots [0 n, 1 n] -/
def log_fits_c : SCode :=
  (.seq (.ops [⟨(some 2), .mov (.c (.bool false)), none, false, []⟩] none [0])
  (.seq (.ops [⟨(some 3), .mov (.t 0), none, false, []⟩,
    ⟨(some 4), .bin .none .geq (.t 3) (.c (.int .i64 0)), none, false, []⟩,
    ⟨(some 5), .mov (.t 4), none, true, []⟩,
    ⟨(some 6), .mov (.t 0), (some (5, true)), false, []⟩,
    ⟨(some 7), .bin .none .leq (.t 6) (.c (.int .i64 600)), (some (5, true)), false, []⟩,
    ⟨(some 8), .pick (.t 5) (.t 7) (.c (.bool false)), none, false, []⟩,
    ⟨(some 2), .mov (.t 8), none, false, []⟩] none [2])
  .ret))
def log_fits_r : List RRes := [.tmp 2]
def log_fits_hi : Hi := ⟨[], [(0, "n"), (1, "n")]⟩
def log_fits_an : An := .d
def log_fits_fi : Fi := ⟨9, log_fits_c, log_fits_r, log_fits_an, log_fits_hi, none⟩
theorem log_fits_ok : FiOk Try.prog f_log_fits log_fits_fi :=
  ⟨by kernel_rfl, fun _ h hlen => fun_sound (fn := Try.f98) (draw_sound _ _) Try.func98 rfl (by kernel_rfl : comp Try.prog 9 _ log_fits_c = some log_fits_c) (by kernel_rfl : cRes Try.prog Try.f98.results.toList = some log_fits_r) hlen h, fun _ h => nomatch h⟩

/-- (*fustian/log.reader).take: slots [0 r, 1 n, 2 r, 3 n, 5 out] -/
def __log_reader__take_c : SCode :=
  (.seq (.ops [⟨(some 4), .mov (.c .nils), none, false, []⟩] none [0, 1])
  (.seq (.seq (.ops [⟨(some 6), .mov (.t 0), none, false, []⟩,
    ⟨(some 7), .mov (.t 0), none, false, []⟩,
    ⟨(some 8), .nilchk (.t 7), none, false, []⟩,
    ⟨(some 9), .faddr 1 (.t 8), none, false, []⟩,
    ⟨(some 10), .load 1 false (.t 9), none, false, []⟩,
    ⟨(some 11), .mov (.t 10), none, true, []⟩,
    ⟨(some 12), .mov (.t 1), (some (11, false)), false, []⟩,
    ⟨(some 13), .mov (.t 0), (some (11, false)), false, []⟩,
    ⟨(some 14), .nilchk (.t 13), (some (11, false)), false, []⟩,
    ⟨(some 15), .faddr 0 (.t 14), (some (11, false)), false, []⟩,
    ⟨(some 16), .load 1 false (.t 15), (some (11, false)), false, []⟩,
    ⟨(some 17), .len false (.t 16), (some (11, false)), false, []⟩,
    ⟨(some 18), .bin .none .gtr (.t 12) (.t 17), (some (11, false)), false, []⟩,
    ⟨(some 19), .pick (.t 11) (.c (.bool true)) (.t 18), none, false, []⟩,
    ⟨(some 20), .nilchk (.t 6), none, false, []⟩,
    ⟨(some 21), .faddr 1 (.t 20), none, false, []⟩,
    ⟨none, .store 1 (.t 21) (.t 19), none, false, []⟩] none [0, 1])
  (.seq (.ops [⟨(some 22), .mov (.t 0), none, false, []⟩,
    ⟨(some 23), .nilchk (.t 22), none, false, []⟩,
    ⟨(some 24), .faddr 1 (.t 23), none, false, []⟩,
    ⟨(some 25), .load 1 false (.t 24), none, false, []⟩] none [0, 1, 25])
  (.cond (.t 25)
    (.seq (.ops [⟨(some 26), .mov (.t 1), none, false, []⟩,
      ⟨(some 27), .min [(.t 26), (.c (.int .i64 2))], none, false, []⟩,
      ⟨(some 28), .mkslice 1 1 [(.int .u8 0)] (.t 27) (.t 27), none, false, []⟩,
      ⟨(some 4), .mov (.t 28), none, false, []⟩] none [4])
    .ret)
    .skip)))
  (.seq (.ops [⟨(some 29), .mov (.t 0), none, false, []⟩,
    ⟨(some 30), .nilchk (.t 29), none, false, []⟩,
    ⟨(some 31), .faddr 0 (.t 30), none, false, []⟩,
    ⟨(some 32), .load 1 false (.t 31), none, false, []⟩,
    ⟨(some 33), .mov (.t 1), none, false, []⟩,
    ⟨(some 34), .slice 1 (.t 32) none (some (.t 33)), none, false, []⟩,
    ⟨(some 5), .mov (.t 34), none, false, []⟩] none [0, 1, 5])
  (.seq (.ops [⟨(some 35), .mov (.t 0), none, false, []⟩,
    ⟨(some 36), .mov (.t 0), none, false, []⟩,
    ⟨(some 37), .nilchk (.t 36), none, false, []⟩,
    ⟨(some 38), .faddr 0 (.t 37), none, false, []⟩,
    ⟨(some 39), .load 1 false (.t 38), none, false, []⟩,
    ⟨(some 40), .mov (.t 1), none, false, []⟩,
    ⟨(some 41), .slice 1 (.t 39) (some (.t 40)) none, none, false, []⟩,
    ⟨(some 42), .nilchk (.t 35), none, false, []⟩,
    ⟨(some 43), .faddr 0 (.t 42), none, false, []⟩,
    ⟨none, .store 1 (.t 43) (.t 41), none, false, []⟩] none [5])
  (.seq (.ops [⟨(some 44), .mov (.t 5), none, false, []⟩,
    ⟨(some 4), .mov (.t 44), none, false, []⟩] none [4])
  .ret)))))
def __log_reader__take_r : List RRes := [.tmp 4]
def __log_reader__take_hi : Hi := ⟨[(28, (.int .u8)), (6, (.st (.cons (.sl (.int .u8)) (.cons .bool .nil)))), (7, (.st (.cons (.sl (.int .u8)) (.cons .bool .nil)))), (13, (.st (.cons (.sl (.int .u8)) (.cons .bool .nil)))), (22, (.st (.cons (.sl (.int .u8)) (.cons .bool .nil)))), (29, (.st (.cons (.sl (.int .u8)) (.cons .bool .nil)))), (35, (.st (.cons (.sl (.int .u8)) (.cons .bool .nil)))), (36, (.st (.cons (.sl (.int .u8)) (.cons .bool .nil)))), (0, (.st (.cons (.sl (.int .u8)) (.cons .bool .nil))))], [(0, "r"), (1, "n"), (2, "r"), (3, "n"), (5, "out")]⟩
def __log_reader__take_an : An := .d
def __log_reader__take_fi : Fi := ⟨45, __log_reader__take_c, __log_reader__take_r, __log_reader__take_an, __log_reader__take_hi, none⟩
theorem __log_reader__take_ok : FiOk Try.prog f___log_reader__take __log_reader__take_fi :=
  ⟨by kernel_rfl, fun _ h hlen => fun_sound (fn := Try.f99) (draw_sound _ _) Try.func99 rfl (by kernel_rfl : comp Try.prog 45 _ __log_reader__take_c = some __log_reader__take_c) (by kernel_rfl : cRes Try.prog Try.f99.results.toList = some __log_reader__take_r) hlen h, fun _ h => nomatch h⟩

/-- fustian/fustianref.LogLoaded$2: slots [6 n] -/
def ref_LogLoaded_2_c : SCode :=
  (.seq (.ops [⟨(some 5), .mov (.c (.str [])), none, false, []⟩] none [0, 1, 2, 3, 4])
  (.seq (.ops [⟨(some 7), .load 1 false (.t 0), none, false, []⟩,
    ⟨(some 8), .callv (.t 7) [], none, false, []⟩,
    ⟨(some 6), .mov (.t 8), none, false, []⟩] none [1, 2, 3, 4, 6])
  (.seq (.seq (.ops [⟨(some 9), .load 1 false (.t 1), none, false, []⟩,
    ⟨(some 10), .mov (.t 9), none, true, []⟩,
    ⟨(some 11), .load 1 false (.t 2), (some (10, false)), false, []⟩,
    ⟨(some 12), .mov (.t 6), (some (10, false)), false, []⟩,
    ⟨(some 13), .bin .none .add (.t 11) (.t 12), (some (10, false)), false, []⟩,
    ⟨(some 14), .load 1 false (.t 3), (some (10, false)), false, []⟩,
    ⟨(some 15), .bin .none .gtr (.t 13) (.t 14), (some (10, false)), false, []⟩,
    ⟨(some 16), .pick (.t 10) (.c (.bool true)) (.t 15), none, false, []⟩] none [1, 2, 4, 6, 16])
  (.cond (.t 16)
    (.seq (.ops [⟨none, .store 1 (.t 1) (.c (.bool true)), none, false, []⟩] none [])
    (.seq (.ops [⟨(some 5), .mov (.c (.str [])), none, false, []⟩] none [5])
    .ret))
    .skip))
  (.seq (.ops [⟨(some 17), .load 1 false (.t 2), none, false, []⟩,
    ⟨(some 18), .mov (.t 6), none, false, []⟩,
    ⟨(some 19), .bin .none .add (.t 17) (.t 18), none, false, []⟩,
    ⟨none, .store 1 (.t 2) (.t 19), none, false, []⟩] none [2, 4, 6])
  (.seq (.ops [⟨(some 20), .load 1 false (.t 4), none, false, []⟩,
    ⟨(some 21), .load 1 false (.t 2), none, false, []⟩,
    ⟨(some 22), .mov (.t 6), none, false, []⟩,
    ⟨(some 23), .bin .none .sub (.t 21) (.t 22), none, false, []⟩,
    ⟨(some 24), .load 1 false (.t 2), none, false, []⟩,
    ⟨(some 25), .slice 1 (.t 20) (some (.t 23)) (some (.t 24)), none, false, []⟩,
    ⟨(some 26), .b2s (.t 25), none, false, []⟩,
    ⟨(some 5), .mov (.t 26), none, false, []⟩] none [5])
  .ret)))))
def ref_LogLoaded_2_r : List RRes := [.tmp 5]
def ref_LogLoaded_2_hi : Hi := ⟨[], [(6, "n")]⟩
def ref_LogLoaded_2_an : An := .d
def ref_LogLoaded_2_fi : Fi := ⟨27, ref_LogLoaded_2_c, ref_LogLoaded_2_r, ref_LogLoaded_2_an, ref_LogLoaded_2_hi, none⟩
theorem ref_LogLoaded_2_ok : FiOk Try.prog f_ref_LogLoaded_2 ref_LogLoaded_2_fi :=
  ⟨by kernel_rfl, fun _ h hlen => fun_sound (fn := Try.f80) (draw_sound _ _) Try.func80 rfl (by kernel_rfl : comp Try.prog 27 _ ref_LogLoaded_2_c = some ref_LogLoaded_2_c) (by kernel_rfl : cRes Try.prog Try.f80.results.toList = some ref_LogLoaded_2_r) hlen h, fun _ h => nomatch h⟩

end Go.Proofs.Ytigcaalfadoiaaa
