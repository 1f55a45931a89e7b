/- The functions' simplified code, printed by a program of the claim's author; each is checked against the program's own code. Conditions: none. -/
import Derived.Test.YtigcaalfadoiaaaProg
import Derived.Test.YtigcaalfadoiaaaVyM
set_option linter.unusedVariables false
set_option maxRecDepth 100000
namespace Go.Proofs.Ytigcaalfadoiaaa
open Go.Vc
abbrev f_gosem_cut_init : Nat := 2
abbrev f_law_DiffCosts : Nat := 3
abbrev f_law_FuzzyFars : Nat := 4
abbrev f_law_FuzzyNears : Nat := 5
abbrev f_law_DiffSteps : Nat := 6
abbrev f_law_HistPlays : Nat := 7
abbrev f_law_HistCounts : Nat := 8
abbrev f_law_MergeMerges : Nat := 9
abbrev f_top_TopMerge : Nat := 10
abbrev f_law_LogSaves : Nat := 11
abbrev f_law_LogLoads : Nat := 12
abbrev f_law_WordsFinds : Nat := 13
abbrev f_law_MarksOrders : Nat := 14
abbrev f_diff_Cost : Nat := 15
abbrev f_ref_DiffCost : Nat := 16
abbrev f_fuzzy_Far : Nat := 17
abbrev f_ref_FuzzyFar : Nat := 18
abbrev f_fuzzy_Near : Nat := 19
abbrev f_ref_FuzzyNear : Nat := 20
abbrev f_diff_Steps : Nat := 21
abbrev f_ref_DiffSteps : Nat := 22
abbrev f_hist_Play : Nat := 23
abbrev f_ref_HistPlayed : Nat := 24
abbrev f_law_sameTexts : Nat := 25
abbrev f_law_sameCodes : Nat := 26
abbrev f_hist_Counts : Nat := 27
abbrev f_merge_Merge : Nat := 28
abbrev f_ref_Merged : Nat := 29
abbrev f_keep_TextOf : Nat := 30
abbrev f_keep_Picked : Nat := 31
abbrev f_edit_Apply : Nat := 32
abbrev f_keep_Few : Nat := 33
abbrev f_top_cutText : Nat := 34
abbrev f_top_sameTexts : Nat := 35
abbrev f_log_Save : Nat := 36
abbrev f_ref_LogSaved : Nat := 37
abbrev f_law_sameBytes : Nat := 38
abbrev f_log_Load : Nat := 39
abbrev f_ref_LogLoaded : Nat := 40
abbrev f_law_sameDeeds : Nat := 41
abbrev f_words_Find : Nat := 42
abbrev f_ref_WordsFind : Nat := 43
abbrev f_law_sameInts : Nat := 44
abbrev f_marks_Order : Nat := 45
abbrev f_ref_MarksOrder : Nat := 46
abbrev f_diff_fault : Nat := 47
abbrev f_diff_costs : Nat := 48
abbrev f_ref_LinesFault : Nat := 49
abbrev f_ref_common : Nat := 50
abbrev f_fuzzy_long : Nat := 51
abbrev f_fuzzy_far : Nat := 52
abbrev f_ref_farOf : Nat := 53
abbrev f_fuzzy_band : Nat := 54
abbrev f_diff_Way : Nat := 55
abbrev f_hist_play : Nat := 56
abbrev f_ref_EditFault : Nat := 57
abbrev f_ref_editMade : Nat := 58
abbrev f___hist_History__Counts : Nat := 59
abbrev f_merge_Merge_1 : Nat := 60
abbrev f_slices_ContainsFunc___string_string_ : Nat := 61
abbrev f_merge_hunks : Nat := 62
abbrev f_merge_part : Nat := 63
abbrev f_merge_made : Nat := 64
abbrev f_slices_Equal___string_string_ : Nat := 65
abbrev f_ref_touched : Nat := 66
abbrev f_ref_Merged_1 : Nat := 67
abbrev f_edit_run : Nat := 68
abbrev f_log_fault : Nat := 69
abbrev f_log_number : Nat := 70
abbrev f_log_text : Nat := 71
abbrev f_poly_Of : Nat := 72
abbrev f_ref_LogFault : Nat := 73
abbrev f_ref_twoBytes : Nat := 74
abbrev f_ref_PolyOf : Nat := 75
abbrev f___log_reader__text : Nat := 76
abbrev f___log_reader__number : Nat := 77
abbrev f___log_reader__deed : Nat := 78
abbrev f_ref_LogLoaded_1 : Nat := 79
abbrev f_ref_LogLoaded_2 : Nat := 80
abbrev f_words_Noted : Nat := 81
abbrev f_words_Of : Nat := 82
abbrev f_ref_wordAt : Nat := 83
abbrev f_slices_SortStableFunc___int_int_ : Nat := 84
abbrev f_marks_Order_1 : Nat := 85
abbrev f_cmp_Or_int_ : Nat := 86
abbrev f_cmp_Compare_int_ : Nat := 87
abbrev f_diff_fault_1 : Nat := 88
abbrev f_fuzzy_long_1 : Nat := 89
abbrev f_diff_add : Nat := 90
abbrev f_hist_New : Nat := 91
abbrev f___hist_History__Deed : Nat := 92
abbrev f_slices_IndexFunc___string_string_ : Nat := 93
abbrev f___merge_side__upTo : Nat := 94
abbrev f_edit_Check : Nat := 95
abbrev f_edit_Undo : Nat := 96
abbrev f_edit_Made : Nat := 97
abbrev f_log_fits : Nat := 98
abbrev f___log_reader__take : Nat := 99
abbrev f_words_part : Nat := 100
abbrev f_words_Each : Nat := 101
abbrev f_words_Of_1 : Nat := 102
abbrev f_ref_letter : Nat := 103
abbrev f_slices_stableCmpFunc_int_ : Nat := 104
abbrev f_cmp_isNaN_int_ : Nat := 105
abbrev f___hist_History__make : Nat := 106
abbrev f_hist_pop : Nat := 107
abbrev f___hist_History__change : Nat := 108
abbrev f_slices_insertionSortCmpFunc_int_ : Nat := 109
abbrev f_slices_symMergeCmpFunc_int_ : Nat := 110
abbrev f_slices_rotateCmpFunc_int_ : Nat := 111
abbrev f_slices_swapRangeCmpFunc_int_ : Nat := 112

/-- fustian/fuzzy.long: slots [0 words, 1 words] -/
def fuzzy_long_c : SCode :=
  (.seq (.ops [⟨(some 2), .mov (.c (.bool false)), none, false⟩] none [0])
  (.seq (.ops [⟨(some 3), .mov (.t 0), none, false⟩,
    ⟨(some 4), .call f_slices_ContainsFunc___string_string_ [(.t 3), (.c (.fn (.func f_fuzzy_long_1) [] []))], none, false⟩,
    ⟨(some 2), .mov (.t 4), none, false⟩] none [2])
  .ret))
def fuzzy_long_r : List RRes := [.tmp 2]
def fuzzy_long_hi : Hi := ⟨[], [(0, "words"), (1, "words")]⟩
def fuzzy_long_an : An := .d
def fuzzy_long_fi : Fi := ⟨5, fuzzy_long_c, fuzzy_long_r, fuzzy_long_an, fuzzy_long_hi⟩
theorem fuzzy_long_ok : FiOk Try.prog f_fuzzy_long fuzzy_long_fi :=
  ⟨by kernel_rfl, fun h hlen => fun_sound (fn := Try.f51) (draw_sound _ _) Try.func51 rfl (by kernel_rfl : comp Try.prog 5 _ fuzzy_long_c = some fuzzy_long_c) (by kernel_rfl : cRes Try.prog Try.f51.results.toList = some fuzzy_long_r) hlen h⟩

/-- fustian/fuzzy.band: slots [0 a, 1 b, 2 most, 3 a, 4 b, 5 most, 7 over, 8 row, 9 k, 10 i, 11 next, 12 k, 13 k, 14 change] -/
def fuzzy_band_c : SCode :=
  (.seq (.ops [⟨(some 6), .mov (.c (.bool false)), none, false⟩] none [0, 1, 2])
  (.seq (.seq (.ops [⟨(some 15), .mov (.t 0), none, false⟩,
    ⟨(some 16), .len true (.t 15), none, false⟩,
    ⟨(some 17), .mov (.t 1), none, false⟩,
    ⟨(some 18), .len true (.t 17), none, false⟩,
    ⟨(some 19), .bin .none .sub (.t 16) (.t 18), none, false⟩,
    ⟨(some 20), .mov (.t 1), none, false⟩,
    ⟨(some 21), .len true (.t 20), none, false⟩,
    ⟨(some 22), .mov (.t 0), none, false⟩,
    ⟨(some 23), .len true (.t 22), none, false⟩,
    ⟨(some 24), .bin .none .sub (.t 21) (.t 23), none, false⟩,
    ⟨(some 25), .max [(.t 19), (.t 24)], none, false⟩,
    ⟨(some 26), .mov (.t 2), none, false⟩,
    ⟨(some 27), .bin .none .gtr (.t 25) (.t 26), none, false⟩] none [0, 1, 2, 27])
  (.cond (.t 27)
    (.seq (.ops [⟨(some 6), .mov (.c (.bool false)), none, false⟩] none [6])
    .ret)
    .skip))
  (.seq (.ops [⟨(some 28), .mov (.t 2), none, false⟩,
    ⟨(some 29), .bin .none .add (.t 28) (.c (.int .i64 1)), none, false⟩,
    ⟨(some 7), .mov (.t 29), none, false⟩] none [0, 1, 2, 7])
  (.seq (.ops [⟨(some 30), .mov (.t 1), none, false⟩,
    ⟨(some 31), .len true (.t 30), none, false⟩,
    ⟨(some 32), .bin .none .add (.t 31) (.c (.int .i64 1)), none, false⟩,
    ⟨(some 33), .mkslice 1 8 [(.int .i64 0)] (.t 32) (.t 32), none, false⟩,
    ⟨(some 8), .mov (.t 33), none, false⟩] none [0, 1, 2, 7, 8])
  (.seq (.seq (.ops [⟨(some 34), .mov (.t 8), none, false⟩,
    ⟨(some 35), .len false (.t 34), none, false⟩,
    ⟨(some 36), .mov (.c (.int .i64 0)), none, false⟩] none [0, 1, 2, 7, 8, 35, 36])
  (.block 0 (.loop [0, 1, 2, 7, 8, 35] [36] 1
    (.seq (.ops [⟨(some 37), .bin .none .lss (.t 36) (.t 35), none, false⟩] none [0, 1, 2, 7, 8, 35, 36, 37])
    (.seq (.cond (.t 37)
      .skip
      (.exit 0))
    (.seq (.block 1 (.seq (.ops [⟨(some 38), .mov (.t 36), none, false⟩,
      ⟨(some 9), .mov (.t 38), none, false⟩] none [0, 1, 2, 7, 8, 9, 35, 36])
    (.ops [⟨(some 39), .mov (.t 8), none, false⟩,
      ⟨(some 40), .mov (.t 9), none, false⟩,
      ⟨(some 41), .mov (.t 9), none, false⟩,
      ⟨(some 42), .mov (.t 7), none, false⟩,
      ⟨(some 43), .min [(.t 41), (.t 42)], none, false⟩,
      ⟨(some 44), .iaddr 1 none (.t 39) (.t 40), none, false⟩,
      ⟨none, .store 1 (.t 44) (.t 43), none, false⟩] none [0, 1, 2, 7, 8, 35, 36])))
    (.ops [⟨(some 45), .bin .none .add (.t 36) (.c (.int .i64 1)), none, false⟩,
      ⟨(some 36), .mov (.t 45), none, false⟩] none [0, 1, 2, 7, 8, 35, 36])))))))
  (.seq (.seq (.ops [⟨(some 46), .mov (.t 0), none, false⟩,
    ⟨(some 47), .len true (.t 46), none, false⟩,
    ⟨(some 48), .mov (.c (.int .i64 0)), none, false⟩] none [0, 1, 2, 7, 8, 47, 48])
  (.block 2 (.loop [0, 1, 2, 7, 47] [8, 48] 1
    (.seq (.ops [⟨(some 49), .bin .none .lss (.t 48) (.t 47), none, false⟩] none [0, 1, 2, 7, 8, 47, 48, 49])
    (.seq (.cond (.t 49)
      .skip
      (.exit 2))
    (.seq (.block 3 (.seq (.ops [⟨(some 50), .mov (.t 48), none, false⟩,
      ⟨(some 10), .mov (.t 50), none, false⟩] none [0, 1, 2, 7, 8, 10, 47, 48])
    (.seq (.ops [⟨(some 51), .mov (.t 1), none, false⟩,
      ⟨(some 52), .len true (.t 51), none, false⟩,
      ⟨(some 53), .bin .none .add (.t 52) (.c (.int .i64 1)), none, false⟩,
      ⟨(some 54), .mkslice 1 8 [(.int .i64 0)] (.t 53) (.t 53), none, false⟩,
      ⟨(some 11), .mov (.t 54), none, false⟩] none [0, 1, 2, 7, 8, 10, 11, 47, 48])
    (.seq (.seq (.ops [⟨(some 55), .mov (.t 11), none, false⟩,
      ⟨(some 56), .len false (.t 55), none, false⟩,
      ⟨(some 57), .mov (.c (.int .i64 0)), none, false⟩] none [0, 1, 2, 7, 8, 10, 11, 47, 48, 56, 57])
    (.block 4 (.loop [0, 1, 2, 7, 8, 10, 11, 47, 48, 56] [57] 2
      (.seq (.ops [⟨(some 58), .bin .none .lss (.t 57) (.t 56), none, false⟩] none [0, 1, 2, 7, 8, 10, 11, 47, 48, 56, 57, 58])
      (.seq (.cond (.t 58)
        .skip
        (.exit 4))
      (.seq (.block 5 (.seq (.ops [⟨(some 59), .mov (.t 57), none, false⟩,
        ⟨(some 12), .mov (.t 59), none, false⟩] none [0, 1, 2, 7, 8, 10, 11, 12, 47, 48, 56, 57])
      (.ops [⟨(some 60), .mov (.t 11), none, false⟩,
        ⟨(some 61), .mov (.t 12), none, false⟩,
        ⟨(some 62), .mov (.t 7), none, false⟩,
        ⟨(some 63), .iaddr 1 none (.t 60) (.t 61), none, false⟩,
        ⟨none, .store 1 (.t 63) (.t 62), none, false⟩] none [0, 1, 2, 7, 8, 10, 11, 47, 48, 56, 57])))
      (.ops [⟨(some 64), .bin .none .add (.t 57) (.c (.int .i64 1)), none, false⟩,
        ⟨(some 57), .mov (.t 64), none, false⟩] none [0, 1, 2, 7, 8, 10, 11, 47, 48, 56, 57])))))))
    (.seq (.seq (.ops [⟨(some 65), .mov (.t 10), none, false⟩,
      ⟨(some 66), .bin .none .add (.t 65) (.c (.int .i64 1)), none, false⟩,
      ⟨(some 67), .mov (.t 2), none, false⟩,
      ⟨(some 68), .bin .none .sub (.t 66) (.t 67), none, false⟩,
      ⟨(some 69), .max [(.c (.int .i64 0)), (.t 68)], none, false⟩,
      ⟨(some 13), .mov (.t 69), none, false⟩] none [0, 1, 2, 7, 8, 10, 11, 13, 47, 48])
    (.block 6 (.loop [0, 1, 2, 7, 8, 10, 11, 47, 48] [13] 2
      (.seq (.seq (.ops [⟨(some 70), .mov (.t 13), none, false⟩,
        ⟨(some 71), .mov (.t 1), none, false⟩,
        ⟨(some 72), .len true (.t 71), none, false⟩,
        ⟨(some 73), .mov (.t 10), none, false⟩,
        ⟨(some 74), .bin .none .add (.t 73) (.c (.int .i64 1)), none, false⟩,
        ⟨(some 75), .mov (.t 2), none, false⟩,
        ⟨(some 76), .bin .none .add (.t 74) (.t 75), none, false⟩,
        ⟨(some 77), .min [(.t 72), (.t 76)], none, false⟩,
        ⟨(some 78), .bin .none .leq (.t 70) (.t 77), none, false⟩] none [0, 1, 2, 7, 8, 10, 11, 13, 47, 48, 78])
      (.cond (.t 78)
        .skip
        (.exit 6)))
      (.join [0, 1, 2, 7, 8, 10, 11, 13, 47, 48] [] 2 (.block 7 (.seq (.seq (.ops [⟨(some 81), .mov (.t 13), none, false⟩,
          ⟨(some 82), .bin .none .eql (.t 81) (.c (.int .i64 0)), none, false⟩] none [0, 1, 2, 7, 8, 10, 11, 13, 47, 48, 82])
        (.cond (.t 82)
          (.seq (.ops [⟨(some 83), .mov (.t 11), none, false⟩,
            ⟨(some 84), .mov (.t 10), none, false⟩,
            ⟨(some 85), .bin .none .add (.t 84) (.c (.int .i64 1)), none, false⟩,
            ⟨(some 86), .mov (.t 7), none, false⟩,
            ⟨(some 87), .min [(.t 85), (.t 86)], none, false⟩,
            ⟨(some 88), .iaddr 1 none (.t 83) (.c (.int .i64 0)), none, false⟩,
            ⟨none, .store 1 (.t 88) (.t 87), none, false⟩] none [0, 1, 2, 7, 8, 10, 11, 13, 47, 48])
          (.exit 7))
          .skip))
        (.seq (.ops [⟨(some 89), .mov (.t 8), none, false⟩,
          ⟨(some 90), .mov (.t 13), none, false⟩,
          ⟨(some 91), .bin .none .sub (.t 90) (.c (.int .i64 1)), none, false⟩,
          ⟨(some 92), .iaddr 1 none (.t 89) (.t 91), none, false⟩,
          ⟨(some 93), .load 1 false (.t 92), none, false⟩,
          ⟨(some 14), .mov (.t 93), none, false⟩] none [0, 1, 2, 7, 8, 10, 11, 13, 14, 47, 48])
        (.join [0, 1, 2, 7, 8, 10, 11, 13, 47, 48] [14] 2 (.seq (.ops [⟨(some 94), .mov (.t 0), none, false⟩,
            ⟨(some 95), .mov (.t 10), none, false⟩,
            ⟨(some 96), .index 1 none false (.t 94) (.t 95), none, false⟩,
            ⟨(some 97), .mov (.t 1), none, false⟩,
            ⟨(some 98), .mov (.t 13), none, false⟩,
            ⟨(some 99), .bin .none .sub (.t 98) (.c (.int .i64 1)), none, false⟩,
            ⟨(some 100), .index 1 none false (.t 97) (.t 99), none, false⟩,
            ⟨(some 101), .bin .none .neq (.t 96) (.t 100), none, false⟩] (some (0, 0, [0, 1, 2, 3, 4, 5, 6, 7])) [0, 1, 2, 7, 8, 10, 11, 13, 14, 47, 48, 101])
          (.cond (.t 101)
            (.ops [⟨(some 102), .mov (.t 14), none, false⟩,
              ⟨(some 103), .bin .none .add (.t 102) (.c (.int .i64 1)), none, false⟩,
              ⟨(some 14), .mov (.t 103), none, false⟩] none [0, 1, 2, 7, 8, 10, 11, 13, 14, 47, 48])
            .skip))
        (.ops [⟨(some 104), .mov (.t 11), none, false⟩,
          ⟨(some 105), .mov (.t 13), none, false⟩,
          ⟨(some 106), .mov (.t 14), none, false⟩,
          ⟨(some 107), .mov (.t 11), none, false⟩,
          ⟨(some 108), .mov (.t 13), none, false⟩,
          ⟨(some 109), .bin .none .sub (.t 108) (.c (.int .i64 1)), none, false⟩,
          ⟨(some 110), .iaddr 1 none (.t 107) (.t 109), none, false⟩,
          ⟨(some 111), .load 1 false (.t 110), none, false⟩,
          ⟨(some 112), .bin .none .add (.t 111) (.c (.int .i64 1)), none, false⟩,
          ⟨(some 113), .mov (.t 8), none, false⟩,
          ⟨(some 114), .mov (.t 13), none, false⟩,
          ⟨(some 115), .iaddr 1 none (.t 113) (.t 114), none, false⟩,
          ⟨(some 116), .load 1 false (.t 115), none, false⟩,
          ⟨(some 117), .bin .none .add (.t 116) (.c (.int .i64 1)), none, false⟩,
          ⟨(some 118), .mov (.t 7), none, false⟩,
          ⟨(some 119), .min [(.t 106), (.t 112), (.t 117), (.t 118)], none, false⟩,
          ⟨(some 120), .iaddr 1 none (.t 104) (.t 105), none, false⟩,
          ⟨none, .store 1 (.t 120) (.t 119), none, false⟩] (some (0, 0, [0, 1, 2, 3, 4, 5, 6, 7, 8, 9, 10, 11, 12, 13, 14, 15, 16, 17])) [0, 1, 2, 7, 8, 10, 11, 13, 47, 48])))))
      (.ops [⟨(some 79), .mov (.t 13), none, false⟩,
        ⟨(some 80), .bin .none .add (.t 79) (.c (.int .i64 1)), none, false⟩,
        ⟨(some 13), .mov (.t 80), none, false⟩] none [0, 1, 2, 7, 8, 10, 11, 13, 47, 48]))))))
    (.ops [⟨(some 121), .mov (.t 11), none, false⟩,
      ⟨(some 8), .mov (.t 121), none, false⟩] none [0, 1, 2, 7, 8, 47, 48]))))))
    (.ops [⟨(some 122), .bin .none .add (.t 48) (.c (.int .i64 1)), none, false⟩,
      ⟨(some 48), .mov (.t 122), none, false⟩] none [0, 1, 2, 7, 8, 47, 48])))))))
  (.seq (.ops [⟨(some 123), .mov (.t 8), none, false⟩,
    ⟨(some 124), .mov (.t 1), none, false⟩,
    ⟨(some 125), .len true (.t 124), none, false⟩,
    ⟨(some 126), .iaddr 1 none (.t 123) (.t 125), none, false⟩,
    ⟨(some 127), .load 1 false (.t 126), none, false⟩,
    ⟨(some 128), .mov (.t 2), none, false⟩,
    ⟨(some 129), .bin .none .leq (.t 127) (.t 128), none, false⟩,
    ⟨(some 6), .mov (.t 129), none, false⟩] none [6])
  .ret)))))))
def fuzzy_band_r : List RRes := [.tmp 6]
def fuzzy_band_hi : Hi := ⟨[(33, (.int .i64)), (54, (.int .i64))], [(0, "a"), (1, "b"), (2, "most"), (3, "a"), (4, "b"), (5, "most"), (7, "over"), (8, "row"), (9, "k"), (10, "i"), (11, "next"), (12, "k"), (13, "k"), (14, "change")]⟩
def fuzzy_band_an : An := (.seq .d (.seq .d (.seq .d (.seq .d (.seq (.seq .d (.loop [8] [] [] .d)) (.seq (.seq .d (.loop [8] [] [8] (.seq .d (.seq .d (.seq (.seq .d (.seq .d (.seq (.seq .d (.loop [11] [] [] .d)) (.seq (.seq .d (.loop [11] [] [] .d)) .d)))) .d))))) .d))))))
def fuzzy_band_fi : Fi := ⟨130, fuzzy_band_c, fuzzy_band_r, fuzzy_band_an, fuzzy_band_hi⟩
theorem fuzzy_band_ok : FiOk Try.prog f_fuzzy_band fuzzy_band_fi :=
  ⟨by kernel_rfl, fun h hlen => fun_sound (fn := Try.f54) (draw_sound _ _) Try.func54 rfl (by kernel_rfl : comp Try.prog 130 _ fuzzy_band_c = some fuzzy_band_c) (by kernel_rfl : cRes Try.prog Try.f54.results.toList = some fuzzy_band_r) hlen h⟩

/-- fustian/fuzzy.Near: slots [0 a, 1 b, 2 most, 3 a, 4 b, 5 most] -/
def fuzzy_Near_c : SCode :=
  (.seq (.ops [⟨(some 6), .mov (.c (.bool false)), none, false⟩,
    ⟨(some 7), .mov (.c (.int .i64 0)), none, false⟩] none [0, 1, 2])
  (.seq (.block 0 (.seq (.ops [⟨(some 9), .mov (.t 0), none, false⟩,
    ⟨(some 10), .mov (.t 1), none, false⟩,
    ⟨(some 11), .bslice true 2 1 [(.str []), (.str [])] [(0, 1, (.t 9)), (1, 1, (.t 10))], none, false⟩,
    ⟨(some 12), .call f_fuzzy_long [(.t 11)], none, false⟩,
    ⟨(some 8), .mov (.t 12), none, false⟩] none [0, 1, 2, 8])
  (.cond (.t 8)
    (.seq (.ops [⟨(some 6), .mov (.c (.bool false)), none, false⟩,
      ⟨(some 7), .mov (.c (.int .i64 1)), none, false⟩] none [6, 7])
    .ret)
    (.seq (.ops [⟨(some 14), .mov (.t 2), none, false⟩,
      ⟨(some 15), .bin .none .lss (.t 14) (.c (.int .i64 0)), none, false⟩,
      ⟨(some 16), .mov (.t 15), none, true⟩,
      ⟨(some 17), .mov (.t 2), (some (16, false)), false⟩,
      ⟨(some 18), .bin .none .gtr (.t 17) (.c (.int .i64 20)), (some (16, false)), false⟩,
      ⟨(some 19), .pick (.t 16) (.c (.bool true)) (.t 18), none, false⟩,
      ⟨(some 13), .mov (.t 19), none, false⟩] none [0, 1, 2, 13])
    (.cond (.t 13)
      (.seq (.ops [⟨(some 6), .mov (.c (.bool false)), none, false⟩,
        ⟨(some 7), .mov (.c (.int .i64 2)), none, false⟩] none [6, 7])
      .ret)
      .skip)))))
  (.seq (.ops [⟨(some 20), .mov (.t 0), none, false⟩,
    ⟨(some 21), .mov (.t 1), none, false⟩,
    ⟨(some 22), .mov (.t 2), none, false⟩,
    ⟨(some 23), .call f_fuzzy_band [(.t 20), (.t 21), (.t 22)], none, false⟩,
    ⟨(some 6), .mov (.t 23), none, false⟩,
    ⟨(some 7), .mov (.c (.int .i64 0)), none, false⟩] none [6, 7])
  .ret)))
def fuzzy_Near_r : List RRes := [.tmp 6, .tmp 7]
def fuzzy_Near_hi : Hi := ⟨[(11, .str)], [(0, "a"), (1, "b"), (2, "most"), (3, "a"), (4, "b"), (5, "most")]⟩
def fuzzy_Near_an : An := .d
def fuzzy_Near_fi : Fi := ⟨24, fuzzy_Near_c, fuzzy_Near_r, fuzzy_Near_an, fuzzy_Near_hi⟩
theorem fuzzy_Near_ok : FiOk Try.prog f_fuzzy_Near fuzzy_Near_fi :=
  ⟨by kernel_rfl, fun h hlen => fun_sound (fn := Try.f19) (draw_sound _ _) Try.func19 rfl (by kernel_rfl : comp Try.prog 24 _ fuzzy_Near_c = some fuzzy_Near_c) (by kernel_rfl : cRes Try.prog Try.f19.results.toList = some fuzzy_Near_r) hlen h⟩

/-- fustian/fustianref.farOf: slots [0 a, 1 b, 2 a, 3 b, 5 t, 6 i, 7 k] -/
def ref_farOf_c : SCode :=
  (.seq (.ops [⟨(some 4), .mov (.c (.int .i64 0)), none, false⟩] none [0, 1])
  (.seq (.ops [⟨(some 8), .mov (.t 0), none, false⟩,
    ⟨(some 9), .len true (.t 8), none, false⟩,
    ⟨(some 10), .bin .none .add (.t 9) (.c (.int .i64 1)), none, false⟩,
    ⟨(some 11), .mkslice 1 24 [.nils] (.t 10) (.t 10), none, false⟩,
    ⟨(some 5), .mov (.t 11), none, false⟩] none [0, 1, 5])
  (.seq (.seq (.ops [⟨(some 12), .mov (.t 5), none, false⟩,
    ⟨(some 13), .len false (.t 12), none, false⟩,
    ⟨(some 14), .mov (.c (.int .i64 0)), none, false⟩] none [0, 1, 5, 13, 14])
  (.block 0 (.loop [0, 1, 5, 13] [14] 1
    (.seq (.ops [⟨(some 15), .bin .none .lss (.t 14) (.t 13), none, false⟩] none [0, 1, 5, 13, 14, 15])
    (.seq (.cond (.t 15)
      .skip
      (.exit 0))
    (.seq (.block 1 (.seq (.ops [⟨(some 16), .mov (.t 14), none, false⟩,
      ⟨(some 6), .mov (.t 16), none, false⟩] none [0, 1, 5, 6, 13, 14])
    (.seq (.ops [⟨(some 17), .mov (.t 5), none, false⟩,
      ⟨(some 18), .mov (.t 6), none, false⟩,
      ⟨(some 19), .mov (.t 1), none, false⟩,
      ⟨(some 20), .len true (.t 19), none, false⟩,
      ⟨(some 21), .bin .none .add (.t 20) (.c (.int .i64 1)), none, false⟩,
      ⟨(some 22), .mkslice 1 8 [(.int .i64 0)] (.t 21) (.t 21), none, false⟩,
      ⟨(some 23), .iaddr 1 none (.t 17) (.t 18), none, false⟩,
      ⟨none, .store 1 (.t 23) (.t 22), none, false⟩] none [0, 1, 5, 6, 13, 14])
    (.seq (.ops [⟨(some 24), .mov (.t 5), none, false⟩,
      ⟨(some 25), .mov (.t 6), none, false⟩,
      ⟨(some 26), .iaddr 1 none (.t 24) (.t 25), none, false⟩,
      ⟨(some 27), .load 1 false (.t 26), none, false⟩,
      ⟨(some 28), .len false (.t 27), none, false⟩,
      ⟨(some 29), .mov (.c (.int .i64 0)), none, false⟩] none [0, 1, 5, 6, 13, 14, 28, 29])
    (.block 2 (.loop [0, 1, 5, 6, 13, 14, 28] [29] 2
      (.seq (.ops [⟨(some 30), .bin .none .lss (.t 29) (.t 28), none, false⟩] none [0, 1, 5, 6, 13, 14, 28, 29, 30])
      (.seq (.cond (.t 30)
        .skip
        (.exit 2))
      (.join [0, 1, 5, 6, 13, 14, 28, 29] [] 2 (.block 3 (.seq (.ops [⟨(some 31), .mov (.t 29), none, false⟩,
          ⟨(some 7), .mov (.t 31), none, false⟩] none [0, 1, 5, 6, 7, 13, 14, 28, 29])
        (.block 4 (.seq (.ops [⟨(some 66), .mov (.t 6), none, false⟩,
          ⟨(some 67), .bin .none .eql (.t 66) (.c (.int .i64 0)), none, false⟩,
          ⟨(some 65), .mov (.t 67), none, false⟩] none [0, 1, 5, 6, 7, 13, 14, 28, 29, 65])
        (.cond (.t 65)
          (.ops [⟨(some 68), .mov (.t 5), none, false⟩,
            ⟨(some 69), .mov (.t 6), none, false⟩,
            ⟨(some 70), .iaddr 1 none (.t 68) (.t 69), none, false⟩,
            ⟨(some 71), .load 1 false (.t 70), none, false⟩,
            ⟨(some 72), .mov (.t 7), none, false⟩,
            ⟨(some 73), .mov (.t 7), none, false⟩,
            ⟨(some 74), .iaddr 1 none (.t 71) (.t 72), none, false⟩,
            ⟨none, .store 1 (.t 74) (.t 73), none, false⟩] none [0, 1, 5, 6, 13, 14, 28, 29])
          (.seq (.ops [⟨(some 76), .mov (.t 7), none, false⟩,
            ⟨(some 77), .bin .none .eql (.t 76) (.c (.int .i64 0)), none, false⟩,
            ⟨(some 75), .mov (.t 77), none, false⟩] none [0, 1, 5, 6, 7, 13, 14, 28, 29, 75])
          (.cond (.t 75)
            (.ops [⟨(some 78), .mov (.t 5), none, false⟩,
              ⟨(some 79), .mov (.t 6), none, false⟩,
              ⟨(some 80), .iaddr 1 none (.t 78) (.t 79), none, false⟩,
              ⟨(some 81), .load 1 false (.t 80), none, false⟩,
              ⟨(some 82), .mov (.t 7), none, false⟩,
              ⟨(some 83), .mov (.t 6), none, false⟩,
              ⟨(some 84), .iaddr 1 none (.t 81) (.t 82), none, false⟩,
              ⟨none, .store 1 (.t 84) (.t 83), none, false⟩] none [0, 1, 5, 6, 13, 14, 28, 29])
            (.seq (.ops [⟨(some 86), .mov (.t 0), none, false⟩,
              ⟨(some 87), .mov (.t 6), none, false⟩,
              ⟨(some 88), .bin .none .sub (.t 87) (.c (.int .i64 1)), none, false⟩,
              ⟨(some 89), .index 1 none false (.t 86) (.t 88), none, false⟩,
              ⟨(some 90), .mov (.t 1), none, false⟩,
              ⟨(some 91), .mov (.t 7), none, false⟩,
              ⟨(some 92), .bin .none .sub (.t 91) (.c (.int .i64 1)), none, false⟩,
              ⟨(some 93), .index 1 none false (.t 90) (.t 92), none, false⟩,
              ⟨(some 94), .bin .none .eql (.t 89) (.t 93), none, false⟩,
              ⟨(some 85), .mov (.t 94), none, false⟩] (some (0, 0, [0, 1, 2, 3, 4, 5, 6, 7, 8, 9])) [0, 1, 5, 6, 7, 13, 14, 28, 29, 85])
            (.cond (.t 85)
              (.ops [⟨(some 95), .mov (.t 5), none, false⟩,
                ⟨(some 96), .mov (.t 6), none, false⟩,
                ⟨(some 97), .iaddr 1 none (.t 95) (.t 96), none, false⟩,
                ⟨(some 98), .load 1 false (.t 97), none, false⟩,
                ⟨(some 99), .mov (.t 7), none, false⟩,
                ⟨(some 100), .mov (.t 5), none, false⟩,
                ⟨(some 101), .mov (.t 6), none, false⟩,
                ⟨(some 102), .bin .none .sub (.t 101) (.c (.int .i64 1)), none, false⟩,
                ⟨(some 103), .iaddr 1 none (.t 100) (.t 102), none, false⟩,
                ⟨(some 104), .load 1 false (.t 103), none, false⟩,
                ⟨(some 105), .mov (.t 7), none, false⟩,
                ⟨(some 106), .bin .none .sub (.t 105) (.c (.int .i64 1)), none, false⟩,
                ⟨(some 107), .iaddr 1 none (.t 104) (.t 106), none, false⟩,
                ⟨(some 108), .load 1 false (.t 107), none, false⟩,
                ⟨(some 109), .iaddr 1 none (.t 98) (.t 99), none, false⟩,
                ⟨none, .store 1 (.t 109) (.t 108), none, false⟩] (some (0, 0, [0, 1, 2, 3, 4, 5, 6, 7, 8, 9, 10, 11, 12, 13, 14, 15])) [0, 1, 5, 6, 13, 14, 28, 29])
              (.ops [⟨(some 32), .mov (.t 5), none, false⟩,
                ⟨(some 33), .mov (.t 6), none, false⟩,
                ⟨(some 34), .iaddr 1 none (.t 32) (.t 33), none, false⟩,
                ⟨(some 35), .load 1 false (.t 34), none, false⟩,
                ⟨(some 36), .mov (.t 7), none, false⟩,
                ⟨(some 37), .mov (.t 5), none, false⟩,
                ⟨(some 38), .mov (.t 6), none, false⟩,
                ⟨(some 39), .bin .none .sub (.t 38) (.c (.int .i64 1)), none, false⟩,
                ⟨(some 40), .iaddr 1 none (.t 37) (.t 39), none, false⟩,
                ⟨(some 41), .load 1 false (.t 40), none, false⟩,
                ⟨(some 42), .mov (.t 7), none, false⟩,
                ⟨(some 43), .bin .none .sub (.t 42) (.c (.int .i64 1)), none, false⟩,
                ⟨(some 44), .iaddr 1 none (.t 41) (.t 43), none, false⟩,
                ⟨(some 45), .load 1 false (.t 44), none, false⟩,
                ⟨(some 46), .mov (.t 5), none, false⟩,
                ⟨(some 47), .mov (.t 6), none, false⟩,
                ⟨(some 48), .bin .none .sub (.t 47) (.c (.int .i64 1)), none, false⟩,
                ⟨(some 49), .iaddr 1 none (.t 46) (.t 48), none, false⟩,
                ⟨(some 50), .load 1 false (.t 49), none, false⟩,
                ⟨(some 51), .mov (.t 7), none, false⟩,
                ⟨(some 52), .iaddr 1 none (.t 50) (.t 51), none, false⟩,
                ⟨(some 53), .load 1 false (.t 52), none, false⟩,
                ⟨(some 54), .mov (.t 5), none, false⟩,
                ⟨(some 55), .mov (.t 6), none, false⟩,
                ⟨(some 56), .iaddr 1 none (.t 54) (.t 55), none, false⟩,
                ⟨(some 57), .load 1 false (.t 56), none, false⟩,
                ⟨(some 58), .mov (.t 7), none, false⟩,
                ⟨(some 59), .bin .none .sub (.t 58) (.c (.int .i64 1)), none, false⟩,
                ⟨(some 60), .iaddr 1 none (.t 57) (.t 59), none, false⟩,
                ⟨(some 61), .load 1 false (.t 60), none, false⟩,
                ⟨(some 62), .min [(.t 45), (.t 53), (.t 61)], none, false⟩,
                ⟨(some 63), .bin .none .add (.c (.int .i64 1)) (.t 62), none, false⟩,
                ⟨(some 64), .iaddr 1 none (.t 35) (.t 36), none, false⟩,
                ⟨none, .store 1 (.t 64) (.t 63), none, false⟩] (some (0, 0, [0, 1, 2, 3, 4, 5, 6, 7, 8, 9, 10, 11, 12, 13, 14, 15, 16, 17, 18, 19, 20, 21, 22, 23, 24, 25, 26, 27, 28, 29, 30, 31, 32, 33])) [0, 1, 5, 6, 13, 14, 28, 29]))))))))))
      (.ops [⟨(some 110), .bin .none .add (.t 29) (.c (.int .i64 1)), none, false⟩,
        ⟨(some 29), .mov (.t 110), none, false⟩] none [0, 1, 5, 6, 13, 14, 28, 29]))))))))))
    (.ops [⟨(some 111), .bin .none .add (.t 14) (.c (.int .i64 1)), none, false⟩,
      ⟨(some 14), .mov (.t 111), none, false⟩] none [0, 1, 5, 13, 14])))))))
  (.seq (.ops [⟨(some 112), .mov (.t 5), none, false⟩,
    ⟨(some 113), .mov (.t 0), none, false⟩,
    ⟨(some 114), .len true (.t 113), none, false⟩,
    ⟨(some 115), .iaddr 1 none (.t 112) (.t 114), none, false⟩,
    ⟨(some 116), .load 1 false (.t 115), none, false⟩,
    ⟨(some 117), .mov (.t 1), none, false⟩,
    ⟨(some 118), .len true (.t 117), none, false⟩,
    ⟨(some 119), .iaddr 1 none (.t 116) (.t 118), none, false⟩,
    ⟨(some 120), .load 1 false (.t 119), none, false⟩,
    ⟨(some 4), .mov (.t 120), none, false⟩] none [4])
  .ret))))
def ref_farOf_r : List RRes := [.tmp 4]
def ref_farOf_hi : Hi := ⟨[(11, (.sl (.int .i64))), (22, (.int .i64))], [(0, "a"), (1, "b"), (2, "a"), (3, "b"), (5, "t"), (6, "i"), (7, "k")]⟩
def ref_farOf_an : An := (.seq .d (.seq .d (.seq (.seq .d (.loop [5] [] [] (.seq .d (.seq .d (.seq (.seq .d (.seq .d (.seq .d (.loop [5] [] [] .d)))) .d))))) .d)))
def ref_farOf_fi : Fi := ⟨121, ref_farOf_c, ref_farOf_r, ref_farOf_an, ref_farOf_hi⟩
theorem ref_farOf_ok : FiOk Try.prog f_ref_farOf ref_farOf_fi :=
  ⟨by kernel_rfl, fun h hlen => fun_sound (fn := Try.f53) (draw_sound _ _) Try.func53 rfl (by kernel_rfl : comp Try.prog 121 _ ref_farOf_c = some ref_farOf_c) (by kernel_rfl : cRes Try.prog Try.f53.results.toList = some ref_farOf_r) hlen h⟩

/-- fustian/fustianref.FuzzyFar: slots [0 a, 1 b, 2 a, 3 b] -/
def ref_FuzzyFar_c : SCode :=
  (.seq (.ops [⟨(some 4), .mov (.c (.int .i64 0)), none, false⟩,
    ⟨(some 5), .mov (.c (.int .i64 0)), none, false⟩] none [0, 1])
  (.seq (.seq (.ops [⟨(some 6), .mov (.t 0), none, false⟩,
    ⟨(some 7), .len true (.t 6), none, false⟩,
    ⟨(some 8), .bin .none .gtr (.t 7) (.c (.int .i64 20)), none, false⟩,
    ⟨(some 9), .mov (.t 8), none, true⟩,
    ⟨(some 10), .mov (.t 1), (some (9, false)), false⟩,
    ⟨(some 11), .len true (.t 10), (some (9, false)), false⟩,
    ⟨(some 12), .bin .none .gtr (.t 11) (.c (.int .i64 20)), (some (9, false)), false⟩,
    ⟨(some 13), .pick (.t 9) (.c (.bool true)) (.t 12), none, false⟩] none [0, 1, 13])
  (.cond (.t 13)
    (.seq (.ops [⟨(some 4), .mov (.c (.int .i64 0)), none, false⟩,
      ⟨(some 5), .mov (.c (.int .i64 1)), none, false⟩] none [4, 5])
    .ret)
    .skip))
  (.seq (.ops [⟨(some 14), .mov (.t 0), none, false⟩,
    ⟨(some 15), .mov (.t 1), none, false⟩,
    ⟨(some 16), .call f_ref_farOf [(.t 14), (.t 15)], none, false⟩,
    ⟨(some 4), .mov (.t 16), none, false⟩,
    ⟨(some 5), .mov (.c (.int .i64 0)), none, false⟩] none [4, 5])
  .ret)))
def ref_FuzzyFar_r : List RRes := [.tmp 4, .tmp 5]
def ref_FuzzyFar_hi : Hi := ⟨[], [(0, "a"), (1, "b"), (2, "a"), (3, "b")]⟩
def ref_FuzzyFar_an : An := .d
def ref_FuzzyFar_fi : Fi := ⟨17, ref_FuzzyFar_c, ref_FuzzyFar_r, ref_FuzzyFar_an, ref_FuzzyFar_hi⟩
theorem ref_FuzzyFar_ok : FiOk Try.prog f_ref_FuzzyFar ref_FuzzyFar_fi :=
  ⟨by kernel_rfl, fun h hlen => fun_sound (fn := Try.f18) (draw_sound _ _) Try.func18 rfl (by kernel_rfl : comp Try.prog 17 _ ref_FuzzyFar_c = some ref_FuzzyFar_c) (by kernel_rfl : cRes Try.prog Try.f18.results.toList = some ref_FuzzyFar_r) hlen h⟩

/-- fustian/fustianref.FuzzyNear: slots [0 a, 1 b, 2 most, 3 a, 4 b, 5 most, 8 n, 9 e] -/
def ref_FuzzyNear_c : SCode :=
  (.seq (.ops [⟨(some 6), .mov (.c (.bool false)), none, false⟩,
    ⟨(some 7), .mov (.c (.int .i64 0)), none, false⟩] none [0, 1, 2])
  (.seq (.ops [⟨(some 11), .mov (.t 0), none, false⟩,
    ⟨(some 12), .mov (.t 1), none, false⟩,
    ⟨(some 13), .call f_ref_FuzzyFar [(.t 11), (.t 12)], none, false⟩,
    ⟨(some 10), .mov (.t 13), none, false⟩,
    ⟨(some 14), .extract (.t 10) 0, none, false⟩,
    ⟨(some 15), .extract (.t 10) 1, none, false⟩,
    ⟨(some 8), .mov (.t 14), none, false⟩,
    ⟨(some 9), .mov (.t 15), none, false⟩] none [2, 8, 9])
  (.seq (.seq (.ops [⟨(some 16), .mov (.t 9), none, false⟩,
    ⟨(some 17), .bin .none .neq (.t 16) (.c (.int .i64 0)), none, false⟩] none [2, 8, 9, 17])
  (.cond (.t 17)
    (.seq (.ops [⟨(some 18), .mov (.t 9), none, false⟩,
      ⟨(some 6), .mov (.c (.bool false)), none, false⟩,
      ⟨(some 7), .mov (.t 18), none, false⟩] none [6, 7])
    .ret)
    .skip))
  (.seq (.seq (.ops [⟨(some 19), .mov (.t 2), none, false⟩,
    ⟨(some 20), .bin .none .lss (.t 19) (.c (.int .i64 0)), none, false⟩,
    ⟨(some 21), .mov (.t 20), none, true⟩,
    ⟨(some 22), .mov (.t 2), (some (21, false)), false⟩,
    ⟨(some 23), .bin .none .gtr (.t 22) (.c (.int .i64 20)), (some (21, false)), false⟩,
    ⟨(some 24), .pick (.t 21) (.c (.bool true)) (.t 23), none, false⟩] none [2, 8, 24])
  (.cond (.t 24)
    (.seq (.ops [⟨(some 6), .mov (.c (.bool false)), none, false⟩,
      ⟨(some 7), .mov (.c (.int .i64 2)), none, false⟩] none [6, 7])
    .ret)
    .skip))
  (.seq (.ops [⟨(some 25), .mov (.t 8), none, false⟩,
    ⟨(some 26), .mov (.t 2), none, false⟩,
    ⟨(some 27), .bin .none .leq (.t 25) (.t 26), none, false⟩,
    ⟨(some 6), .mov (.t 27), none, false⟩,
    ⟨(some 7), .mov (.c (.int .i64 0)), none, false⟩] none [6, 7])
  .ret)))))
def ref_FuzzyNear_r : List RRes := [.tmp 6, .tmp 7]
def ref_FuzzyNear_hi : Hi := ⟨[], [(0, "a"), (1, "b"), (2, "most"), (3, "a"), (4, "b"), (5, "most"), (8, "n"), (9, "e")]⟩
def ref_FuzzyNear_an : An := .d
def ref_FuzzyNear_fi : Fi := ⟨28, ref_FuzzyNear_c, ref_FuzzyNear_r, ref_FuzzyNear_an, ref_FuzzyNear_hi⟩
theorem ref_FuzzyNear_ok : FiOk Try.prog f_ref_FuzzyNear ref_FuzzyNear_fi :=
  ⟨by kernel_rfl, fun h hlen => fun_sound (fn := Try.f20) (draw_sound _ _) Try.func20 rfl (by kernel_rfl : comp Try.prog 28 _ ref_FuzzyNear_c = some ref_FuzzyNear_c) (by kernel_rfl : cRes Try.prog Try.f20.results.toList = some ref_FuzzyNear_r) hlen h⟩

/-- fustian/fustianlaw.FuzzyNears: slots [0 a, 1 b, 2 most, 3 a, 4 b, 5 most, 7 x, 8 e, 9 y, 10 f] -/
def law_FuzzyNears_c : SCode :=
  (.seq (.ops [⟨(some 6), .mov (.c (.bool false)), none, false⟩] none [0, 1, 2])
  (.seq (.ops [⟨(some 12), .mov (.t 0), none, false⟩,
    ⟨(some 13), .mov (.t 1), none, false⟩,
    ⟨(some 14), .mov (.t 2), none, false⟩,
    ⟨(some 15), .call f_fuzzy_Near [(.t 12), (.t 13), (.t 14)], none, false⟩,
    ⟨(some 11), .mov (.t 15), none, false⟩,
    ⟨(some 16), .extract (.t 11) 0, none, false⟩,
    ⟨(some 17), .extract (.t 11) 1, none, false⟩,
    ⟨(some 7), .mov (.t 16), none, false⟩,
    ⟨(some 8), .mov (.t 17), none, false⟩] none [0, 1, 2, 7, 8])
  (.seq (.ops [⟨(some 19), .mov (.t 0), none, false⟩,
    ⟨(some 20), .mov (.t 1), none, false⟩,
    ⟨(some 21), .mov (.t 2), none, false⟩,
    ⟨(some 22), .call f_ref_FuzzyNear [(.t 19), (.t 20), (.t 21)], none, false⟩,
    ⟨(some 18), .mov (.t 22), none, false⟩,
    ⟨(some 23), .extract (.t 18) 0, none, false⟩,
    ⟨(some 24), .extract (.t 18) 1, none, false⟩,
    ⟨(some 9), .mov (.t 23), none, false⟩,
    ⟨(some 10), .mov (.t 24), none, false⟩] none [7, 8, 9, 10])
  (.seq (.ops [⟨(some 25), .mov (.t 7), none, false⟩,
    ⟨(some 26), .mov (.t 9), none, false⟩,
    ⟨(some 27), .bin .bool .eql (.t 25) (.t 26), none, false⟩,
    ⟨(some 28), .mov (.t 27), none, true⟩,
    ⟨(some 29), .mov (.t 8), (some (28, true)), false⟩,
    ⟨(some 30), .mov (.t 10), (some (28, true)), false⟩,
    ⟨(some 31), .bin .none .eql (.t 29) (.t 30), (some (28, true)), false⟩,
    ⟨(some 32), .pick (.t 28) (.t 31) (.c (.bool false)), none, false⟩,
    ⟨(some 6), .mov (.t 32), none, false⟩] none [6])
  .ret))))
def law_FuzzyNears_r : List RRes := [.tmp 6]
def law_FuzzyNears_hi : Hi := ⟨[], [(0, "a"), (1, "b"), (2, "most"), (3, "a"), (4, "b"), (5, "most"), (7, "x"), (8, "e"), (9, "y"), (10, "f")]⟩
def law_FuzzyNears_an : An := .d
def law_FuzzyNears_fi : Fi := ⟨33, law_FuzzyNears_c, law_FuzzyNears_r, law_FuzzyNears_an, law_FuzzyNears_hi⟩
theorem law_FuzzyNears_ok : FiOk Try.prog f_law_FuzzyNears law_FuzzyNears_fi :=
  ⟨by kernel_rfl, fun h hlen => fun_sound (fn := Try.f5) (draw_sound _ _) Try.func5 rfl (by kernel_rfl : comp Try.prog 33 _ law_FuzzyNears_c = some law_FuzzyNears_c) (by kernel_rfl : cRes Try.prog Try.f5.results.toList = some law_FuzzyNears_r) hlen h⟩

/-- slices.ContainsFunc[[]string,string]: slots [0 s, 1 f, 2 s, 3 f] -/
def slices_ContainsFunc___string_string__c : SCode :=
  (.seq (.ops [⟨(some 4), .mov (.c (.bool false)), none, false⟩] none [0, 1])
  (.seq (.ops [⟨(some 5), .mov (.t 0), none, false⟩,
    ⟨(some 6), .mov (.t 1), none, false⟩,
    ⟨(some 7), .call f_slices_IndexFunc___string_string_ [(.t 5), (.t 6)], none, false⟩,
    ⟨(some 8), .bin .none .geq (.t 7) (.c (.int .i64 0)), none, false⟩,
    ⟨(some 4), .mov (.t 8), none, false⟩] none [4])
  .ret))
def slices_ContainsFunc___string_string__r : List RRes := [.tmp 4]
def slices_ContainsFunc___string_string__hi : Hi := ⟨[], [(0, "s"), (1, "f"), (2, "s"), (3, "f")]⟩
def slices_ContainsFunc___string_string__an : An := .d
def slices_ContainsFunc___string_string__fi : Fi := ⟨9, slices_ContainsFunc___string_string__c, slices_ContainsFunc___string_string__r, slices_ContainsFunc___string_string__an, slices_ContainsFunc___string_string__hi⟩
theorem slices_ContainsFunc___string_string__ok : FiOk Try.prog f_slices_ContainsFunc___string_string_ slices_ContainsFunc___string_string__fi :=
  ⟨by kernel_rfl, fun h hlen => fun_sound (fn := Try.f61) (draw_sound _ _) Try.func61 rfl (by kernel_rfl : comp Try.prog 9 _ slices_ContainsFunc___string_string__c = some slices_ContainsFunc___string_string__c) (by kernel_rfl : cRes Try.prog Try.f61.results.toList = some slices_ContainsFunc___string_string__r) hlen h⟩

/-- slices.IndexFunc[[]string,string]: slots [0 s, 1 f, 2 s, 3 f, 5 i] -/
def slices_IndexFunc___string_string__c : SCode :=
  (.seq (.ops [⟨(some 4), .mov (.c (.int .i64 0)), none, false⟩] none [0, 1])
  (.seq (.seq (.ops [⟨(some 6), .mov (.t 0), none, false⟩,
    ⟨(some 7), .len false (.t 6), none, false⟩,
    ⟨(some 8), .mov (.c (.int .i64 0)), none, false⟩] none [0, 1, 7, 8])
  (.block 0 (.loop [0, 1, 7] [8] 0
    (.seq (.ops [⟨(some 9), .bin .none .lss (.t 8) (.t 7), none, false⟩] none [0, 1, 7, 8, 9])
    (.seq (.cond (.t 9)
      .skip
      (.exit 0))
    (.seq (.block 1 (.seq (.ops [⟨(some 10), .mov (.t 8), none, false⟩,
      ⟨(some 5), .mov (.t 10), none, false⟩] none [0, 1, 5, 7, 8])
    (.seq (.ops [⟨(some 11), .mov (.t 1), none, false⟩,
      ⟨(some 12), .mov (.t 0), none, false⟩,
      ⟨(some 13), .mov (.t 5), none, false⟩,
      ⟨(some 14), .iaddr 1 none (.t 12) (.t 13), none, false⟩,
      ⟨(some 15), .load 1 false (.t 14), none, false⟩,
      ⟨(some 16), .callv (.t 11) [(.t 15)], none, false⟩] none [0, 1, 5, 7, 8, 16])
    (.cond (.t 16)
      (.seq (.ops [⟨(some 17), .mov (.t 5), none, false⟩,
        ⟨(some 4), .mov (.t 17), none, false⟩] none [4])
      .ret)
      .skip))))
    (.ops [⟨(some 18), .bin .none .add (.t 8) (.c (.int .i64 1)), none, false⟩,
      ⟨(some 8), .mov (.t 18), none, false⟩] none [0, 1, 7, 8])))))))
  (.seq (.ops [⟨(some 4), .mov (.c (.int .i64 (-1))), none, false⟩] none [4])
  .ret)))
def slices_IndexFunc___string_string__r : List RRes := [.tmp 4]
def slices_IndexFunc___string_string__hi : Hi := ⟨[], [(0, "s"), (1, "f"), (2, "s"), (3, "f"), (5, "i")]⟩
def slices_IndexFunc___string_string__an : An := (.seq .d (.seq (.seq .d (.loop [1] [] [] .d)) .d))
def slices_IndexFunc___string_string__fi : Fi := ⟨19, slices_IndexFunc___string_string__c, slices_IndexFunc___string_string__r, slices_IndexFunc___string_string__an, slices_IndexFunc___string_string__hi⟩
theorem slices_IndexFunc___string_string__ok : FiOk Try.prog f_slices_IndexFunc___string_string_ slices_IndexFunc___string_string__fi :=
  ⟨by kernel_rfl, fun h hlen => fun_sound (fn := Try.f93) (draw_sound _ _) Try.func93 rfl (by kernel_rfl : comp Try.prog 19 _ slices_IndexFunc___string_string__c = some slices_IndexFunc___string_string__c) (by kernel_rfl : cRes Try.prog Try.f93.results.toList = some slices_IndexFunc___string_string__r) hlen h⟩

/-- fustian/fuzzy.long$1: slots [0 s, 1 s] -/
def fuzzy_long_1_c : SCode :=
  (.seq (.ops [⟨(some 2), .mov (.c (.bool false)), none, false⟩] none [0])
  (.seq (.ops [⟨(some 3), .mov (.t 0), none, false⟩,
    ⟨(some 4), .len true (.t 3), none, false⟩,
    ⟨(some 5), .bin .none .gtr (.t 4) (.c (.int .i64 20)), none, false⟩,
    ⟨(some 2), .mov (.t 5), none, false⟩] none [2])
  .ret))
def fuzzy_long_1_r : List RRes := [.tmp 2]
def fuzzy_long_1_hi : Hi := ⟨[], [(0, "s"), (1, "s")]⟩
def fuzzy_long_1_an : An := .d
def fuzzy_long_1_fi : Fi := ⟨6, fuzzy_long_1_c, fuzzy_long_1_r, fuzzy_long_1_an, fuzzy_long_1_hi⟩
theorem fuzzy_long_1_ok : FiOk Try.prog f_fuzzy_long_1 fuzzy_long_1_fi :=
  ⟨by kernel_rfl, fun h hlen => fun_sound (fn := Try.f89) (draw_sound _ _) Try.func89 rfl (by kernel_rfl : comp Try.prog 6 _ fuzzy_long_1_c = some fuzzy_long_1_c) (by kernel_rfl : cRes Try.prog Try.f89.results.toList = some fuzzy_long_1_r) hlen h⟩

end Go.Proofs.Ytigcaalfadoiaaa
