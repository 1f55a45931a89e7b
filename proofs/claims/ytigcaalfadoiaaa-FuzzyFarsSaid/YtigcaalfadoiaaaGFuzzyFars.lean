/- The functions' simplified code, printed by a program of the claim's author; each is checked against the program's own code. Conditions: none. -/
import Derived.Test.YtigcaalfadoiaaaProg
import Derived.Test.YtigcaalfadoiaaaVyM
set_option linter.unusedVariables false
set_option maxRecDepth 100000
namespace Go.Proofs.Ytigcaalfadoiaaa
open Go.Vc
abbrev f_gosem_cut_init : Nat := 2
abbrev f_law_DiffCosts : Nat := 3
abbrev f_law_FuzzyFars : Nat := 4
abbrev f_law_FuzzyNears : Nat := 5
abbrev f_law_DiffSteps : Nat := 6
abbrev f_law_HistPlays : Nat := 7
abbrev f_law_HistCounts : Nat := 8
abbrev f_law_MergeMerges : Nat := 9
abbrev f_top_TopMerge : Nat := 10
abbrev f_law_LogSaves : Nat := 11
abbrev f_law_LogLoads : Nat := 12
abbrev f_law_WordsFinds : Nat := 13
abbrev f_law_MarksOrders : Nat := 14
abbrev f_diff_Cost : Nat := 15
abbrev f_ref_DiffCost : Nat := 16
abbrev f_fuzzy_Far : Nat := 17
abbrev f_ref_FuzzyFar : Nat := 18
abbrev f_fuzzy_Near : Nat := 19
abbrev f_ref_FuzzyNear : Nat := 20
abbrev f_diff_Steps : Nat := 21
abbrev f_ref_DiffSteps : Nat := 22
abbrev f_hist_Play : Nat := 23
abbrev f_ref_HistPlayed : Nat := 24
abbrev f_law_sameTexts : Nat := 25
abbrev f_law_sameCodes : Nat := 26
abbrev f_hist_Counts : Nat := 27
abbrev f_merge_Merge : Nat := 28
abbrev f_ref_Merged : Nat := 29
abbrev f_keep_TextOf : Nat := 30
abbrev f_keep_Picked : Nat := 31
abbrev f_edit_Apply : Nat := 32
abbrev f_keep_Few : Nat := 33
abbrev f_top_cutText : Nat := 34
abbrev f_top_sameTexts : Nat := 35
abbrev f_log_Save : Nat := 36
abbrev f_ref_LogSaved : Nat := 37
abbrev f_law_sameBytes : Nat := 38
abbrev f_log_Load : Nat := 39
abbrev f_ref_LogLoaded : Nat := 40
abbrev f_law_sameDeeds : Nat := 41
abbrev f_words_Find : Nat := 42
abbrev f_ref_WordsFind : Nat := 43
abbrev f_law_sameInts : Nat := 44
abbrev f_marks_Order : Nat := 45
abbrev f_ref_MarksOrder : Nat := 46
abbrev f_diff_fault : Nat := 47
abbrev f_diff_costs : Nat := 48
abbrev f_ref_LinesFault : Nat := 49
abbrev f_ref_common : Nat := 50
abbrev f_fuzzy_long : Nat := 51
abbrev f_fuzzy_far : Nat := 52
abbrev f_ref_farOf : Nat := 53
abbrev f_fuzzy_band : Nat := 54
abbrev f_diff_Way : Nat := 55
abbrev f_hist_play : Nat := 56
abbrev f_ref_EditFault : Nat := 57
abbrev f_ref_editMade : Nat := 58
abbrev f___hist_History__Counts : Nat := 59
abbrev f_merge_Merge_1 : Nat := 60
abbrev f_slices_ContainsFunc___string_string_ : Nat := 61
abbrev f_merge_hunks : Nat := 62
abbrev f_merge_part : Nat := 63
abbrev f_merge_made : Nat := 64
abbrev f_slices_Equal___string_string_ : Nat := 65
abbrev f_ref_touched : Nat := 66
abbrev f_ref_Merged_1 : Nat := 67
abbrev f_edit_run : Nat := 68
abbrev f_log_fault : Nat := 69
abbrev f_log_number : Nat := 70
abbrev f_log_text : Nat := 71
abbrev f_poly_Of : Nat := 72
abbrev f_ref_LogFault : Nat := 73
abbrev f_ref_twoBytes : Nat := 74
abbrev f_ref_PolyOf : Nat := 75
abbrev f___log_reader__text : Nat := 76
abbrev f___log_reader__number : Nat := 77
abbrev f___log_reader__deed : Nat := 78
abbrev f_ref_LogLoaded_1 : Nat := 79
abbrev f_ref_LogLoaded_2 : Nat := 80
abbrev f_words_Noted : Nat := 81
abbrev f_words_Of : Nat := 82
abbrev f_ref_wordAt : Nat := 83
abbrev f_slices_SortStableFunc___int_int_ : Nat := 84
abbrev f_marks_Order_1 : Nat := 85
abbrev f_cmp_Or_int_ : Nat := 86
abbrev f_cmp_Compare_int_ : Nat := 87
abbrev f_diff_fault_1 : Nat := 88
abbrev f_fuzzy_long_1 : Nat := 89
abbrev f_diff_add : Nat := 90
abbrev f_hist_New : Nat := 91
abbrev f___hist_History__Deed : Nat := 92
abbrev f_slices_IndexFunc___string_string_ : Nat := 93
abbrev f___merge_side__upTo : Nat := 94
abbrev f_edit_Check : Nat := 95
abbrev f_edit_Undo : Nat := 96
abbrev f_edit_Made : Nat := 97
abbrev f_log_fits : Nat := 98
abbrev f___log_reader__take : Nat := 99
abbrev f_words_part : Nat := 100
abbrev f_words_Each : Nat := 101
abbrev f_words_Of_1 : Nat := 102
abbrev f_ref_letter : Nat := 103
abbrev f_slices_stableCmpFunc_int_ : Nat := 104
abbrev f_cmp_isNaN_int_ : Nat := 105
abbrev f___hist_History__make : Nat := 106
abbrev f_hist_pop : Nat := 107
abbrev f___hist_History__change : Nat := 108
abbrev f_slices_insertionSortCmpFunc_int_ : Nat := 109
abbrev f_slices_symMergeCmpFunc_int_ : Nat := 110
abbrev f_slices_rotateCmpFunc_int_ : Nat := 111
abbrev f_slices_swapRangeCmpFunc_int_ : Nat := 112

/-- fustian/fuzzy.long: slots [0 words, 1 words] -/
def fuzzy_long_c : SCode :=
  (.seq (.ops [⟨(some 2), .mov (.c (.bool false)), none, false⟩] none [0])
  (.seq (.ops [⟨(some 3), .mov (.t 0), none, false⟩,
    ⟨(some 4), .call f_slices_ContainsFunc___string_string_ [(.t 3), (.c (.fn (.func f_fuzzy_long_1) [] []))], none, false⟩,
    ⟨(some 2), .mov (.t 4), none, false⟩] none [2])
  .ret))
def fuzzy_long_r : List RRes := [.tmp 2]
def fuzzy_long_hi : Hi := ⟨[], [(0, "words"), (1, "words")]⟩
def fuzzy_long_an : An := .d
def fuzzy_long_fi : Fi := ⟨5, fuzzy_long_c, fuzzy_long_r, fuzzy_long_an, fuzzy_long_hi⟩
theorem fuzzy_long_ok : FiOk Try.prog f_fuzzy_long fuzzy_long_fi :=
  ⟨by kernel_rfl, fun h hlen => fun_sound (fn := Try.f51) (draw_sound _ _) Try.func51 rfl (by kernel_rfl : comp Try.prog 5 _ fuzzy_long_c = some fuzzy_long_c) (by kernel_rfl : cRes Try.prog Try.f51.results.toList = some fuzzy_long_r) hlen h⟩

/-- fustian/fuzzy.far: slots [0 a, 1 b, 2 a, 3 b, 5 row, 6 k, 7 i, 8 corner, 9 k, 10 change] -/
def fuzzy_far_c : SCode :=
  (.seq (.ops [⟨(some 4), .mov (.c (.int .i64 0)), none, false⟩] none [0, 1])
  (.seq (.ops [⟨(some 11), .mov (.t 1), none, false⟩,
    ⟨(some 12), .len true (.t 11), none, false⟩,
    ⟨(some 13), .bin .none .add (.t 12) (.c (.int .i64 1)), none, false⟩,
    ⟨(some 14), .mkslice 1 8 [(.int .i64 0)] (.t 13) (.t 13), none, false⟩,
    ⟨(some 5), .mov (.t 14), none, false⟩] none [0, 1, 5])
  (.seq (.seq (.ops [⟨(some 15), .mov (.t 5), none, false⟩,
    ⟨(some 16), .len false (.t 15), none, false⟩,
    ⟨(some 17), .mov (.c (.int .i64 0)), none, false⟩] none [0, 1, 5, 16, 17])
  (.block 0 (.loop [0, 1, 5, 16] [17] 1
    (.seq (.ops [⟨(some 18), .bin .none .lss (.t 17) (.t 16), none, false⟩] none [0, 1, 5, 16, 17, 18])
    (.seq (.cond (.t 18)
      .skip
      (.exit 0))
    (.seq (.block 1 (.seq (.ops [⟨(some 19), .mov (.t 17), none, false⟩,
      ⟨(some 6), .mov (.t 19), none, false⟩] none [0, 1, 5, 6, 16, 17])
    (.ops [⟨(some 20), .mov (.t 5), none, false⟩,
      ⟨(some 21), .mov (.t 6), none, false⟩,
      ⟨(some 22), .mov (.t 6), none, false⟩,
      ⟨(some 23), .iaddr 1 none (.t 20) (.t 21), none, false⟩,
      ⟨none, .store 1 (.t 23) (.t 22), none, false⟩] none [0, 1, 5, 16, 17])))
    (.ops [⟨(some 24), .bin .none .add (.t 17) (.c (.int .i64 1)), none, false⟩,
      ⟨(some 17), .mov (.t 24), none, false⟩] none [0, 1, 5, 16, 17])))))))
  (.seq (.seq (.ops [⟨(some 25), .mov (.t 0), none, false⟩,
    ⟨(some 26), .len true (.t 25), none, false⟩,
    ⟨(some 27), .mov (.c (.int .i64 0)), none, false⟩] none [0, 1, 5, 26, 27])
  (.block 2 (.loop [0, 1, 5, 26] [27] 1
    (.seq (.ops [⟨(some 28), .bin .none .lss (.t 27) (.t 26), none, false⟩] none [0, 1, 5, 26, 27, 28])
    (.seq (.cond (.t 28)
      .skip
      (.exit 2))
    (.seq (.block 3 (.seq (.ops [⟨(some 29), .mov (.t 27), none, false⟩,
      ⟨(some 7), .mov (.t 29), none, false⟩] none [0, 1, 5, 7, 26, 27])
    (.seq (.ops [⟨(some 30), .mov (.t 5), none, false⟩,
      ⟨(some 31), .iaddr 1 none (.t 30) (.c (.int .i64 0)), none, false⟩,
      ⟨(some 32), .load 1 false (.t 31), none, false⟩,
      ⟨(some 8), .mov (.t 32), none, false⟩] none [0, 1, 5, 7, 8, 26, 27])
    (.seq (.ops [⟨(some 33), .mov (.t 5), none, false⟩,
      ⟨(some 34), .mov (.t 7), none, false⟩,
      ⟨(some 35), .bin .none .add (.t 34) (.c (.int .i64 1)), none, false⟩,
      ⟨(some 36), .iaddr 1 none (.t 33) (.c (.int .i64 0)), none, false⟩,
      ⟨none, .store 1 (.t 36) (.t 35), none, false⟩] none [0, 1, 5, 7, 8, 26, 27])
    (.seq (.ops [⟨(some 37), .mov (.t 1), none, false⟩,
      ⟨(some 38), .len true (.t 37), none, false⟩,
      ⟨(some 39), .mov (.c (.int .i64 0)), none, false⟩] none [0, 1, 5, 7, 8, 26, 27, 38, 39])
    (.block 4 (.loop [0, 1, 5, 7, 26, 27, 38] [8, 39] 1
      (.seq (.ops [⟨(some 40), .bin .none .lss (.t 39) (.t 38), none, false⟩] none [0, 1, 5, 7, 8, 26, 27, 38, 39, 40])
      (.seq (.cond (.t 40)
        .skip
        (.exit 4))
      (.seq (.block 5 (.seq (.ops [⟨(some 41), .mov (.t 39), none, false⟩,
        ⟨(some 9), .mov (.t 41), none, false⟩] none [0, 1, 5, 7, 8, 9, 26, 27, 38, 39])
      (.seq (.ops [⟨(some 42), .mov (.t 8), none, false⟩,
        ⟨(some 10), .mov (.t 42), none, false⟩] none [0, 1, 5, 7, 9, 10, 26, 27, 38, 39])
      (.join [0, 1, 5, 7, 9, 26, 27, 38, 39] [10] 1 (.seq (.ops [⟨(some 43), .mov (.t 0), none, false⟩,
          ⟨(some 44), .mov (.t 7), none, false⟩,
          ⟨(some 45), .index 1 none false (.t 43) (.t 44), none, false⟩,
          ⟨(some 46), .mov (.t 1), none, false⟩,
          ⟨(some 47), .mov (.t 9), none, false⟩,
          ⟨(some 48), .index 1 none false (.t 46) (.t 47), none, false⟩,
          ⟨(some 49), .bin .none .neq (.t 45) (.t 48), none, false⟩] (some (0, 0, [0, 1, 2, 3, 4, 5, 6])) [0, 1, 5, 7, 9, 10, 26, 27, 38, 39, 49])
        (.cond (.t 49)
          (.ops [⟨(some 50), .mov (.t 10), none, false⟩,
            ⟨(some 51), .bin .none .add (.t 50) (.c (.int .i64 1)), none, false⟩,
            ⟨(some 10), .mov (.t 51), none, false⟩] none [0, 1, 5, 7, 9, 10, 26, 27, 38, 39])
          .skip))
      (.seq (.ops [⟨(some 52), .mov (.t 5), none, false⟩,
        ⟨(some 53), .mov (.t 9), none, false⟩,
        ⟨(some 54), .bin .none .add (.t 53) (.c (.int .i64 1)), none, false⟩,
        ⟨(some 55), .iaddr 1 none (.t 52) (.t 54), none, false⟩,
        ⟨(some 56), .load 1 false (.t 55), none, false⟩,
        ⟨(some 8), .mov (.t 56), none, false⟩] none [0, 1, 5, 7, 8, 9, 10, 26, 27, 38, 39])
      (.ops [⟨(some 57), .mov (.t 5), none, false⟩,
        ⟨(some 58), .mov (.t 9), none, false⟩,
        ⟨(some 59), .bin .none .add (.t 58) (.c (.int .i64 1)), none, false⟩,
        ⟨(some 60), .mov (.t 10), none, false⟩,
        ⟨(some 61), .mov (.t 5), none, false⟩,
        ⟨(some 62), .mov (.t 9), none, false⟩,
        ⟨(some 63), .iaddr 1 none (.t 61) (.t 62), none, false⟩,
        ⟨(some 64), .load 1 false (.t 63), none, false⟩,
        ⟨(some 65), .bin .none .add (.t 64) (.c (.int .i64 1)), none, false⟩,
        ⟨(some 66), .mov (.t 5), none, false⟩,
        ⟨(some 67), .mov (.t 9), none, false⟩,
        ⟨(some 68), .bin .none .add (.t 67) (.c (.int .i64 1)), none, false⟩,
        ⟨(some 69), .iaddr 1 none (.t 66) (.t 68), none, false⟩,
        ⟨(some 70), .load 1 false (.t 69), none, false⟩,
        ⟨(some 71), .bin .none .add (.t 70) (.c (.int .i64 1)), none, false⟩,
        ⟨(some 72), .min [(.t 60), (.t 65), (.t 71)], none, false⟩,
        ⟨(some 73), .iaddr 1 none (.t 57) (.t 59), none, false⟩,
        ⟨none, .store 1 (.t 73) (.t 72), none, false⟩] (some (0, 0, [0, 1, 2, 3, 4, 5, 6, 7, 8, 9, 10, 11, 12, 13, 14, 15, 16, 17])) [0, 1, 5, 7, 8, 26, 27, 38, 39]))))))
      (.ops [⟨(some 74), .bin .none .add (.t 39) (.c (.int .i64 1)), none, false⟩,
        ⟨(some 39), .mov (.t 74), none, false⟩] none [0, 1, 5, 7, 8, 26, 27, 38, 39])))))))))))
    (.ops [⟨(some 75), .bin .none .add (.t 27) (.c (.int .i64 1)), none, false⟩,
      ⟨(some 27), .mov (.t 75), none, false⟩] none [0, 1, 5, 26, 27])))))))
  (.seq (.ops [⟨(some 76), .mov (.t 5), none, false⟩,
    ⟨(some 77), .mov (.t 1), none, false⟩,
    ⟨(some 78), .len true (.t 77), none, false⟩,
    ⟨(some 79), .iaddr 1 none (.t 76) (.t 78), none, false⟩,
    ⟨(some 80), .load 1 false (.t 79), none, false⟩,
    ⟨(some 4), .mov (.t 80), none, false⟩] none [4])
  .ret)))))
def fuzzy_far_r : List RRes := [.tmp 4]
def fuzzy_far_hi : Hi := ⟨[(14, (.int .i64))], [(0, "a"), (1, "b"), (2, "a"), (3, "b"), (5, "row"), (6, "k"), (7, "i"), (8, "corner"), (9, "k"), (10, "change")]⟩
def fuzzy_far_an : An := (.seq .d (.seq .d (.seq (.seq .d (.loop [5] [] [] .d)) (.seq (.seq .d (.loop [5] [] [] (.seq .d (.seq .d (.seq (.seq .d (.seq .d (.seq .d (.seq .d (.loop [5] [] [] .d))))) .d))))) .d))))
def fuzzy_far_fi : Fi := ⟨81, fuzzy_far_c, fuzzy_far_r, fuzzy_far_an, fuzzy_far_hi⟩
theorem fuzzy_far_ok : FiOk Try.prog f_fuzzy_far fuzzy_far_fi :=
  ⟨by kernel_rfl, fun h hlen => fun_sound (fn := Try.f52) (draw_sound _ _) Try.func52 rfl (by kernel_rfl : comp Try.prog 81 _ fuzzy_far_c = some fuzzy_far_c) (by kernel_rfl : cRes Try.prog Try.f52.results.toList = some fuzzy_far_r) hlen h⟩

/-- fustian/fuzzy.Far: slots [0 a, 1 b, 2 a, 3 b] -/
def fuzzy_Far_c : SCode :=
  (.seq (.ops [⟨(some 4), .mov (.c (.int .i64 0)), none, false⟩,
    ⟨(some 5), .mov (.c (.int .i64 0)), none, false⟩] none [0, 1])
  (.seq (.seq (.ops [⟨(some 6), .mov (.t 0), none, false⟩,
    ⟨(some 7), .mov (.t 1), none, false⟩,
    ⟨(some 8), .bslice true 2 1 [(.str []), (.str [])] [(0, 1, (.t 6)), (1, 1, (.t 7))], none, false⟩,
    ⟨(some 9), .call f_fuzzy_long [(.t 8)], none, false⟩] none [0, 1, 9])
  (.cond (.t 9)
    (.seq (.ops [⟨(some 4), .mov (.c (.int .i64 0)), none, false⟩,
      ⟨(some 5), .mov (.c (.int .i64 1)), none, false⟩] none [4, 5])
    .ret)
    .skip))
  (.seq (.ops [⟨(some 10), .mov (.t 0), none, false⟩,
    ⟨(some 11), .mov (.t 1), none, false⟩,
    ⟨(some 12), .call f_fuzzy_far [(.t 10), (.t 11)], none, false⟩,
    ⟨(some 4), .mov (.t 12), none, false⟩,
    ⟨(some 5), .mov (.c (.int .i64 0)), none, false⟩] none [4, 5])
  .ret)))
def fuzzy_Far_r : List RRes := [.tmp 4, .tmp 5]
def fuzzy_Far_hi : Hi := ⟨[(8, .str)], [(0, "a"), (1, "b"), (2, "a"), (3, "b")]⟩
def fuzzy_Far_an : An := .d
def fuzzy_Far_fi : Fi := ⟨13, fuzzy_Far_c, fuzzy_Far_r, fuzzy_Far_an, fuzzy_Far_hi⟩
theorem fuzzy_Far_ok : FiOk Try.prog f_fuzzy_Far fuzzy_Far_fi :=
  ⟨by kernel_rfl, fun h hlen => fun_sound (fn := Try.f17) (draw_sound _ _) Try.func17 rfl (by kernel_rfl : comp Try.prog 13 _ fuzzy_Far_c = some fuzzy_Far_c) (by kernel_rfl : cRes Try.prog Try.f17.results.toList = some fuzzy_Far_r) hlen h⟩

/-- fustian/fustianref.farOf: slots [0 a, 1 b, 2 a, 3 b, 5 t, 6 i, 7 k] -/
def ref_farOf_c : SCode :=
  (.seq (.ops [⟨(some 4), .mov (.c (.int .i64 0)), none, false⟩] none [0, 1])
  (.seq (.ops [⟨(some 8), .mov (.t 0), none, false⟩,
    ⟨(some 9), .len true (.t 8), none, false⟩,
    ⟨(some 10), .bin .none .add (.t 9) (.c (.int .i64 1)), none, false⟩,
    ⟨(some 11), .mkslice 1 24 [.nils] (.t 10) (.t 10), none, false⟩,
    ⟨(some 5), .mov (.t 11), none, false⟩] none [0, 1, 5])
  (.seq (.seq (.ops [⟨(some 12), .mov (.t 5), none, false⟩,
    ⟨(some 13), .len false (.t 12), none, false⟩,
    ⟨(some 14), .mov (.c (.int .i64 0)), none, false⟩] none [0, 1, 5, 13, 14])
  (.block 0 (.loop [0, 1, 5, 13] [14] 1
    (.seq (.ops [⟨(some 15), .bin .none .lss (.t 14) (.t 13), none, false⟩] none [0, 1, 5, 13, 14, 15])
    (.seq (.cond (.t 15)
      .skip
      (.exit 0))
    (.seq (.block 1 (.seq (.ops [⟨(some 16), .mov (.t 14), none, false⟩,
      ⟨(some 6), .mov (.t 16), none, false⟩] none [0, 1, 5, 6, 13, 14])
    (.seq (.ops [⟨(some 17), .mov (.t 5), none, false⟩,
      ⟨(some 18), .mov (.t 6), none, false⟩,
      ⟨(some 19), .mov (.t 1), none, false⟩,
      ⟨(some 20), .len true (.t 19), none, false⟩,
      ⟨(some 21), .bin .none .add (.t 20) (.c (.int .i64 1)), none, false⟩,
      ⟨(some 22), .mkslice 1 8 [(.int .i64 0)] (.t 21) (.t 21), none, false⟩,
      ⟨(some 23), .iaddr 1 none (.t 17) (.t 18), none, false⟩,
      ⟨none, .store 1 (.t 23) (.t 22), none, false⟩] none [0, 1, 5, 6, 13, 14])
    (.seq (.ops [⟨(some 24), .mov (.t 5), none, false⟩,
      ⟨(some 25), .mov (.t 6), none, false⟩,
      ⟨(some 26), .iaddr 1 none (.t 24) (.t 25), none, false⟩,
      ⟨(some 27), .load 1 false (.t 26), none, false⟩,
      ⟨(some 28), .len false (.t 27), none, false⟩,
      ⟨(some 29), .mov (.c (.int .i64 0)), none, false⟩] none [0, 1, 5, 6, 13, 14, 28, 29])
    (.block 2 (.loop [0, 1, 5, 6, 13, 14, 28] [29] 2
      (.seq (.ops [⟨(some 30), .bin .none .lss (.t 29) (.t 28), none, false⟩] none [0, 1, 5, 6, 13, 14, 28, 29, 30])
      (.seq (.cond (.t 30)
        .skip
        (.exit 2))
      (.join [0, 1, 5, 6, 13, 14, 28, 29] [] 2 (.block 3 (.seq (.ops [⟨(some 31), .mov (.t 29), none, false⟩,
          ⟨(some 7), .mov (.t 31), none, false⟩] none [0, 1, 5, 6, 7, 13, 14, 28, 29])
        (.block 4 (.seq (.ops [⟨(some 66), .mov (.t 6), none, false⟩,
          ⟨(some 67), .bin .none .eql (.t 66) (.c (.int .i64 0)), none, false⟩,
          ⟨(some 65), .mov (.t 67), none, false⟩] none [0, 1, 5, 6, 7, 13, 14, 28, 29, 65])
        (.cond (.t 65)
          (.ops [⟨(some 68), .mov (.t 5), none, false⟩,
            ⟨(some 69), .mov (.t 6), none, false⟩,
            ⟨(some 70), .iaddr 1 none (.t 68) (.t 69), none, false⟩,
            ⟨(some 71), .load 1 false (.t 70), none, false⟩,
            ⟨(some 72), .mov (.t 7), none, false⟩,
            ⟨(some 73), .mov (.t 7), none, false⟩,
            ⟨(some 74), .iaddr 1 none (.t 71) (.t 72), none, false⟩,
            ⟨none, .store 1 (.t 74) (.t 73), none, false⟩] none [0, 1, 5, 6, 13, 14, 28, 29])
          (.seq (.ops [⟨(some 76), .mov (.t 7), none, false⟩,
            ⟨(some 77), .bin .none .eql (.t 76) (.c (.int .i64 0)), none, false⟩,
            ⟨(some 75), .mov (.t 77), none, false⟩] none [0, 1, 5, 6, 7, 13, 14, 28, 29, 75])
          (.cond (.t 75)
            (.ops [⟨(some 78), .mov (.t 5), none, false⟩,
              ⟨(some 79), .mov (.t 6), none, false⟩,
              ⟨(some 80), .iaddr 1 none (.t 78) (.t 79), none, false⟩,
              ⟨(some 81), .load 1 false (.t 80), none, false⟩,
              ⟨(some 82), .mov (.t 7), none, false⟩,
              ⟨(some 83), .mov (.t 6), none, false⟩,
              ⟨(some 84), .iaddr 1 none (.t 81) (.t 82), none, false⟩,
              ⟨none, .store 1 (.t 84) (.t 83), none, false⟩] none [0, 1, 5, 6, 13, 14, 28, 29])
            (.seq (.ops [⟨(some 86), .mov (.t 0), none, false⟩,
              ⟨(some 87), .mov (.t 6), none, false⟩,
              ⟨(some 88), .bin .none .sub (.t 87) (.c (.int .i64 1)), none, false⟩,
              ⟨(some 89), .index 1 none false (.t 86) (.t 88), none, false⟩,
              ⟨(some 90), .mov (.t 1), none, false⟩,
              ⟨(some 91), .mov (.t 7), none, false⟩,
              ⟨(some 92), .bin .none .sub (.t 91) (.c (.int .i64 1)), none, false⟩,
              ⟨(some 93), .index 1 none false (.t 90) (.t 92), none, false⟩,
              ⟨(some 94), .bin .none .eql (.t 89) (.t 93), none, false⟩,
              ⟨(some 85), .mov (.t 94), none, false⟩] (some (0, 0, [0, 1, 2, 3, 4, 5, 6, 7, 8, 9])) [0, 1, 5, 6, 7, 13, 14, 28, 29, 85])
            (.cond (.t 85)
              (.ops [⟨(some 95), .mov (.t 5), none, false⟩,
                ⟨(some 96), .mov (.t 6), none, false⟩,
                ⟨(some 97), .iaddr 1 none (.t 95) (.t 96), none, false⟩,
                ⟨(some 98), .load 1 false (.t 97), none, false⟩,
                ⟨(some 99), .mov (.t 7), none, false⟩,
                ⟨(some 100), .mov (.t 5), none, false⟩,
                ⟨(some 101), .mov (.t 6), none, false⟩,
                ⟨(some 102), .bin .none .sub (.t 101) (.c (.int .i64 1)), none, false⟩,
                ⟨(some 103), .iaddr 1 none (.t 100) (.t 102), none, false⟩,
                ⟨(some 104), .load 1 false (.t 103), none, false⟩,
                ⟨(some 105), .mov (.t 7), none, false⟩,
                ⟨(some 106), .bin .none .sub (.t 105) (.c (.int .i64 1)), none, false⟩,
                ⟨(some 107), .iaddr 1 none (.t 104) (.t 106), none, false⟩,
                ⟨(some 108), .load 1 false (.t 107), none, false⟩,
                ⟨(some 109), .iaddr 1 none (.t 98) (.t 99), none, false⟩,
                ⟨none, .store 1 (.t 109) (.t 108), none, false⟩] (some (0, 0, [0, 1, 2, 3, 4, 5, 6, 7, 8, 9, 10, 11, 12, 13, 14, 15])) [0, 1, 5, 6, 13, 14, 28, 29])
              (.ops [⟨(some 32), .mov (.t 5), none, false⟩,
                ⟨(some 33), .mov (.t 6), none, false⟩,
                ⟨(some 34), .iaddr 1 none (.t 32) (.t 33), none, false⟩,
                ⟨(some 35), .load 1 false (.t 34), none, false⟩,
                ⟨(some 36), .mov (.t 7), none, false⟩,
                ⟨(some 37), .mov (.t 5), none, false⟩,
                ⟨(some 38), .mov (.t 6), none, false⟩,
                ⟨(some 39), .bin .none .sub (.t 38) (.c (.int .i64 1)), none, false⟩,
                ⟨(some 40), .iaddr 1 none (.t 37) (.t 39), none, false⟩,
                ⟨(some 41), .load 1 false (.t 40), none, false⟩,
                ⟨(some 42), .mov (.t 7), none, false⟩,
                ⟨(some 43), .bin .none .sub (.t 42) (.c (.int .i64 1)), none, false⟩,
                ⟨(some 44), .iaddr 1 none (.t 41) (.t 43), none, false⟩,
                ⟨(some 45), .load 1 false (.t 44), none, false⟩,
                ⟨(some 46), .mov (.t 5), none, false⟩,
                ⟨(some 47), .mov (.t 6), none, false⟩,
                ⟨(some 48), .bin .none .sub (.t 47) (.c (.int .i64 1)), none, false⟩,
                ⟨(some 49), .iaddr 1 none (.t 46) (.t 48), none, false⟩,
                ⟨(some 50), .load 1 false (.t 49), none, false⟩,
                ⟨(some 51), .mov (.t 7), none, false⟩,
                ⟨(some 52), .iaddr 1 none (.t 50) (.t 51), none, false⟩,
                ⟨(some 53), .load 1 false (.t 52), none, false⟩,
                ⟨(some 54), .mov (.t 5), none, false⟩,
                ⟨(some 55), .mov (.t 6), none, false⟩,
                ⟨(some 56), .iaddr 1 none (.t 54) (.t 55), none, false⟩,
                ⟨(some 57), .load 1 false (.t 56), none, false⟩,
                ⟨(some 58), .mov (.t 7), none, false⟩,
                ⟨(some 59), .bin .none .sub (.t 58) (.c (.int .i64 1)), none, false⟩,
                ⟨(some 60), .iaddr 1 none (.t 57) (.t 59), none, false⟩,
                ⟨(some 61), .load 1 false (.t 60), none, false⟩,
                ⟨(some 62), .min [(.t 45), (.t 53), (.t 61)], none, false⟩,
                ⟨(some 63), .bin .none .add (.c (.int .i64 1)) (.t 62), none, false⟩,
                ⟨(some 64), .iaddr 1 none (.t 35) (.t 36), none, false⟩,
                ⟨none, .store 1 (.t 64) (.t 63), none, false⟩] (some (0, 0, [0, 1, 2, 3, 4, 5, 6, 7, 8, 9, 10, 11, 12, 13, 14, 15, 16, 17, 18, 19, 20, 21, 22, 23, 24, 25, 26, 27, 28, 29, 30, 31, 32, 33])) [0, 1, 5, 6, 13, 14, 28, 29]))))))))))
      (.ops [⟨(some 110), .bin .none .add (.t 29) (.c (.int .i64 1)), none, false⟩,
        ⟨(some 29), .mov (.t 110), none, false⟩] none [0, 1, 5, 6, 13, 14, 28, 29]))))))))))
    (.ops [⟨(some 111), .bin .none .add (.t 14) (.c (.int .i64 1)), none, false⟩,
      ⟨(some 14), .mov (.t 111), none, false⟩] none [0, 1, 5, 13, 14])))))))
  (.seq (.ops [⟨(some 112), .mov (.t 5), none, false⟩,
    ⟨(some 113), .mov (.t 0), none, false⟩,
    ⟨(some 114), .len true (.t 113), none, false⟩,
    ⟨(some 115), .iaddr 1 none (.t 112) (.t 114), none, false⟩,
    ⟨(some 116), .load 1 false (.t 115), none, false⟩,
    ⟨(some 117), .mov (.t 1), none, false⟩,
    ⟨(some 118), .len true (.t 117), none, false⟩,
    ⟨(some 119), .iaddr 1 none (.t 116) (.t 118), none, false⟩,
    ⟨(some 120), .load 1 false (.t 119), none, false⟩,
    ⟨(some 4), .mov (.t 120), none, false⟩] none [4])
  .ret))))
def ref_farOf_r : List RRes := [.tmp 4]
def ref_farOf_hi : Hi := ⟨[(11, (.sl (.int .i64))), (22, (.int .i64))], [(0, "a"), (1, "b"), (2, "a"), (3, "b"), (5, "t"), (6, "i"), (7, "k")]⟩
def ref_farOf_an : An := (.seq .d (.seq .d (.seq (.seq .d (.loop [5] [] [] (.seq .d (.seq .d (.seq (.seq .d (.seq .d (.seq .d (.loop [5] [] [] .d)))) .d))))) .d)))
def ref_farOf_fi : Fi := ⟨121, ref_farOf_c, ref_farOf_r, ref_farOf_an, ref_farOf_hi⟩
theorem ref_farOf_ok : FiOk Try.prog f_ref_farOf ref_farOf_fi :=
  ⟨by kernel_rfl, fun h hlen => fun_sound (fn := Try.f53) (draw_sound _ _) Try.func53 rfl (by kernel_rfl : comp Try.prog 121 _ ref_farOf_c = some ref_farOf_c) (by kernel_rfl : cRes Try.prog Try.f53.results.toList = some ref_farOf_r) hlen h⟩

/-- fustian/fustianref.FuzzyFar: slots [0 a, 1 b, 2 a, 3 b] -/
def ref_FuzzyFar_c : SCode :=
  (.seq (.ops [⟨(some 4), .mov (.c (.int .i64 0)), none, false⟩,
    ⟨(some 5), .mov (.c (.int .i64 0)), none, false⟩] none [0, 1])
  (.seq (.seq (.ops [⟨(some 6), .mov (.t 0), none, false⟩,
    ⟨(some 7), .len true (.t 6), none, false⟩,
    ⟨(some 8), .bin .none .gtr (.t 7) (.c (.int .i64 20)), none, false⟩,
    ⟨(some 9), .mov (.t 8), none, true⟩,
    ⟨(some 10), .mov (.t 1), (some (9, false)), false⟩,
    ⟨(some 11), .len true (.t 10), (some (9, false)), false⟩,
    ⟨(some 12), .bin .none .gtr (.t 11) (.c (.int .i64 20)), (some (9, false)), false⟩,
    ⟨(some 13), .pick (.t 9) (.c (.bool true)) (.t 12), none, false⟩] none [0, 1, 13])
  (.cond (.t 13)
    (.seq (.ops [⟨(some 4), .mov (.c (.int .i64 0)), none, false⟩,
      ⟨(some 5), .mov (.c (.int .i64 1)), none, false⟩] none [4, 5])
    .ret)
    .skip))
  (.seq (.ops [⟨(some 14), .mov (.t 0), none, false⟩,
    ⟨(some 15), .mov (.t 1), none, false⟩,
    ⟨(some 16), .call f_ref_farOf [(.t 14), (.t 15)], none, false⟩,
    ⟨(some 4), .mov (.t 16), none, false⟩,
    ⟨(some 5), .mov (.c (.int .i64 0)), none, false⟩] none [4, 5])
  .ret)))
def ref_FuzzyFar_r : List RRes := [.tmp 4, .tmp 5]
def ref_FuzzyFar_hi : Hi := ⟨[], [(0, "a"), (1, "b"), (2, "a"), (3, "b")]⟩
def ref_FuzzyFar_an : An := .d
def ref_FuzzyFar_fi : Fi := ⟨17, ref_FuzzyFar_c, ref_FuzzyFar_r, ref_FuzzyFar_an, ref_FuzzyFar_hi⟩
theorem ref_FuzzyFar_ok : FiOk Try.prog f_ref_FuzzyFar ref_FuzzyFar_fi :=
  ⟨by kernel_rfl, fun h hlen => fun_sound (fn := Try.f18) (draw_sound _ _) Try.func18 rfl (by kernel_rfl : comp Try.prog 17 _ ref_FuzzyFar_c = some ref_FuzzyFar_c) (by kernel_rfl : cRes Try.prog Try.f18.results.toList = some ref_FuzzyFar_r) hlen h⟩

/-- fustian/fustianlaw.FuzzyFars: slots [0 a, 1 b, 2 a, 3 b, 5 x, 6 e, 7 y, 8 f] -/
def law_FuzzyFars_c : SCode :=
  (.seq (.ops [⟨(some 4), .mov (.c (.bool false)), none, false⟩] none [0, 1])
  (.seq (.ops [⟨(some 10), .mov (.t 0), none, false⟩,
    ⟨(some 11), .mov (.t 1), none, false⟩,
    ⟨(some 12), .call f_fuzzy_Far [(.t 10), (.t 11)], none, false⟩,
    ⟨(some 9), .mov (.t 12), none, false⟩,
    ⟨(some 13), .extract (.t 9) 0, none, false⟩,
    ⟨(some 14), .extract (.t 9) 1, none, false⟩,
    ⟨(some 5), .mov (.t 13), none, false⟩,
    ⟨(some 6), .mov (.t 14), none, false⟩] none [0, 1, 5, 6])
  (.seq (.ops [⟨(some 16), .mov (.t 0), none, false⟩,
    ⟨(some 17), .mov (.t 1), none, false⟩,
    ⟨(some 18), .call f_ref_FuzzyFar [(.t 16), (.t 17)], none, false⟩,
    ⟨(some 15), .mov (.t 18), none, false⟩,
    ⟨(some 19), .extract (.t 15) 0, none, false⟩,
    ⟨(some 20), .extract (.t 15) 1, none, false⟩,
    ⟨(some 7), .mov (.t 19), none, false⟩,
    ⟨(some 8), .mov (.t 20), none, false⟩] none [5, 6, 7, 8])
  (.seq (.ops [⟨(some 21), .mov (.t 5), none, false⟩,
    ⟨(some 22), .mov (.t 7), none, false⟩,
    ⟨(some 23), .bin .none .eql (.t 21) (.t 22), none, false⟩,
    ⟨(some 24), .mov (.t 23), none, true⟩,
    ⟨(some 25), .mov (.t 6), (some (24, true)), false⟩,
    ⟨(some 26), .mov (.t 8), (some (24, true)), false⟩,
    ⟨(some 27), .bin .none .eql (.t 25) (.t 26), (some (24, true)), false⟩,
    ⟨(some 28), .pick (.t 24) (.t 27) (.c (.bool false)), none, false⟩,
    ⟨(some 4), .mov (.t 28), none, false⟩] none [4])
  .ret))))
def law_FuzzyFars_r : List RRes := [.tmp 4]
def law_FuzzyFars_hi : Hi := ⟨[], [(0, "a"), (1, "b"), (2, "a"), (3, "b"), (5, "x"), (6, "e"), (7, "y"), (8, "f")]⟩
def law_FuzzyFars_an : An := .d
def law_FuzzyFars_fi : Fi := ⟨29, law_FuzzyFars_c, law_FuzzyFars_r, law_FuzzyFars_an, law_FuzzyFars_hi⟩
theorem law_FuzzyFars_ok : FiOk Try.prog f_law_FuzzyFars law_FuzzyFars_fi :=
  ⟨by kernel_rfl, fun h hlen => fun_sound (fn := Try.f4) (draw_sound _ _) Try.func4 rfl (by kernel_rfl : comp Try.prog 29 _ law_FuzzyFars_c = some law_FuzzyFars_c) (by kernel_rfl : cRes Try.prog Try.f4.results.toList = some law_FuzzyFars_r) hlen h⟩

/-- slices.ContainsFunc[[]string,string]: slots [0 s, 1 f, 2 s, 3 f] -/
def slices_ContainsFunc___string_string__c : SCode :=
  (.seq (.ops [⟨(some 4), .mov (.c (.bool false)), none, false⟩] none [0, 1])
  (.seq (.ops [⟨(some 5), .mov (.t 0), none, false⟩,
    ⟨(some 6), .mov (.t 1), none, false⟩,
    ⟨(some 7), .call f_slices_IndexFunc___string_string_ [(.t 5), (.t 6)], none, false⟩,
    ⟨(some 8), .bin .none .geq (.t 7) (.c (.int .i64 0)), none, false⟩,
    ⟨(some 4), .mov (.t 8), none, false⟩] none [4])
  .ret))
def slices_ContainsFunc___string_string__r : List RRes := [.tmp 4]
def slices_ContainsFunc___string_string__hi : Hi := ⟨[], [(0, "s"), (1, "f"), (2, "s"), (3, "f")]⟩
def slices_ContainsFunc___string_string__an : An := .d
def slices_ContainsFunc___string_string__fi : Fi := ⟨9, slices_ContainsFunc___string_string__c, slices_ContainsFunc___string_string__r, slices_ContainsFunc___string_string__an, slices_ContainsFunc___string_string__hi⟩
theorem slices_ContainsFunc___string_string__ok : FiOk Try.prog f_slices_ContainsFunc___string_string_ slices_ContainsFunc___string_string__fi :=
  ⟨by kernel_rfl, fun h hlen => fun_sound (fn := Try.f61) (draw_sound _ _) Try.func61 rfl (by kernel_rfl : comp Try.prog 9 _ slices_ContainsFunc___string_string__c = some slices_ContainsFunc___string_string__c) (by kernel_rfl : cRes Try.prog Try.f61.results.toList = some slices_ContainsFunc___string_string__r) hlen h⟩

/-- slices.IndexFunc[[]string,string]: slots [0 s, 1 f, 2 s, 3 f, 5 i] -/
def slices_IndexFunc___string_string__c : SCode :=
  (.seq (.ops [⟨(some 4), .mov (.c (.int .i64 0)), none, false⟩] none [0, 1])
  (.seq (.seq (.ops [⟨(some 6), .mov (.t 0), none, false⟩,
    ⟨(some 7), .len false (.t 6), none, false⟩,
    ⟨(some 8), .mov (.c (.int .i64 0)), none, false⟩] none [0, 1, 7, 8])
  (.block 0 (.loop [0, 1, 7] [8] 0
    (.seq (.ops [⟨(some 9), .bin .none .lss (.t 8) (.t 7), none, false⟩] none [0, 1, 7, 8, 9])
    (.seq (.cond (.t 9)
      .skip
      (.exit 0))
    (.seq (.block 1 (.seq (.ops [⟨(some 10), .mov (.t 8), none, false⟩,
      ⟨(some 5), .mov (.t 10), none, false⟩] none [0, 1, 5, 7, 8])
    (.seq (.ops [⟨(some 11), .mov (.t 1), none, false⟩,
      ⟨(some 12), .mov (.t 0), none, false⟩,
      ⟨(some 13), .mov (.t 5), none, false⟩,
      ⟨(some 14), .iaddr 1 none (.t 12) (.t 13), none, false⟩,
      ⟨(some 15), .load 1 false (.t 14), none, false⟩,
      ⟨(some 16), .callv (.t 11) [(.t 15)], none, false⟩] none [0, 1, 5, 7, 8, 16])
    (.cond (.t 16)
      (.seq (.ops [⟨(some 17), .mov (.t 5), none, false⟩,
        ⟨(some 4), .mov (.t 17), none, false⟩] none [4])
      .ret)
      .skip))))
    (.ops [⟨(some 18), .bin .none .add (.t 8) (.c (.int .i64 1)), none, false⟩,
      ⟨(some 8), .mov (.t 18), none, false⟩] none [0, 1, 7, 8])))))))
  (.seq (.ops [⟨(some 4), .mov (.c (.int .i64 (-1))), none, false⟩] none [4])
  .ret)))
def slices_IndexFunc___string_string__r : List RRes := [.tmp 4]
def slices_IndexFunc___string_string__hi : Hi := ⟨[], [(0, "s"), (1, "f"), (2, "s"), (3, "f"), (5, "i")]⟩
def slices_IndexFunc___string_string__an : An := (.seq .d (.seq (.seq .d (.loop [1] [] [] .d)) .d))
def slices_IndexFunc___string_string__fi : Fi := ⟨19, slices_IndexFunc___string_string__c, slices_IndexFunc___string_string__r, slices_IndexFunc___string_string__an, slices_IndexFunc___string_string__hi⟩
theorem slices_IndexFunc___string_string__ok : FiOk Try.prog f_slices_IndexFunc___string_string_ slices_IndexFunc___string_string__fi :=
  ⟨by kernel_rfl, fun h hlen => fun_sound (fn := Try.f93) (draw_sound _ _) Try.func93 rfl (by kernel_rfl : comp Try.prog 19 _ slices_IndexFunc___string_string__c = some slices_IndexFunc___string_string__c) (by kernel_rfl : cRes Try.prog Try.f93.results.toList = some slices_IndexFunc___string_string__r) hlen h⟩

/-- fustian/fuzzy.long$1: slots [0 s, 1 s] -/
def fuzzy_long_1_c : SCode :=
  (.seq (.ops [⟨(some 2), .mov (.c (.bool false)), none, false⟩] none [0])
  (.seq (.ops [⟨(some 3), .mov (.t 0), none, false⟩,
    ⟨(some 4), .len true (.t 3), none, false⟩,
    ⟨(some 5), .bin .none .gtr (.t 4) (.c (.int .i64 20)), none, false⟩,
    ⟨(some 2), .mov (.t 5), none, false⟩] none [2])
  .ret))
def fuzzy_long_1_r : List RRes := [.tmp 2]
def fuzzy_long_1_hi : Hi := ⟨[], [(0, "s"), (1, "s")]⟩
def fuzzy_long_1_an : An := .d
def fuzzy_long_1_fi : Fi := ⟨6, fuzzy_long_1_c, fuzzy_long_1_r, fuzzy_long_1_an, fuzzy_long_1_hi⟩
theorem fuzzy_long_1_ok : FiOk Try.prog f_fuzzy_long_1 fuzzy_long_1_fi :=
  ⟨by kernel_rfl, fun h hlen => fun_sound (fn := Try.f89) (draw_sound _ _) Try.func89 rfl (by kernel_rfl : comp Try.prog 6 _ fuzzy_long_1_c = some fuzzy_long_1_c) (by kernel_rfl : cRes Try.prog Try.f89.results.toList = some fuzzy_long_1_r) hlen h⟩

end Go.Proofs.Ytigcaalfadoiaaa
