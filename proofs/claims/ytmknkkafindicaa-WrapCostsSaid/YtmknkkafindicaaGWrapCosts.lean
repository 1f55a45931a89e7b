/- The functions' simplified code, printed by a program of the claim's author; each is checked against the program's own code. Conditions: none. -/
import Derived.Test.YtmknkkafindicaaProg
import Derived.Test.YtmknkkafindicaaVyM
set_option linter.unusedVariables false
set_option maxRecDepth 100000
namespace Go.Proofs.Ytmknkkafindicaa
open Go.Vc
abbrev f_gosem_cut_init : Nat := 2
abbrev f_law_WrapCosts : Nat := 3
abbrev f_law_LinesUpdates : Nat := 4
abbrev f_law_MarksMoves : Nat := 5
abbrev f_law_PosOfs : Nat := 6
abbrev f_law_PosAts : Nat := 7
abbrev f_law_SpansTakes : Nat := 8
abbrev f_law_SpansCuts : Nat := 9
abbrev f_law_SpansAdds : Nat := 10
abbrev f_law_SpansShifts : Nat := 11
abbrev f_law_FindReplaces : Nat := 12
abbrev f_wrap_Cost : Nat := 13
abbrev f_ref_WrapCost : Nat := 14
abbrev f_lines_Update : Nat := 15
abbrev f_ref_LinesUpdate : Nat := 16
abbrev f_law_sameInts : Nat := 17
abbrev f_marks_Move : Nat := 18
abbrev f_ref_MarksMoved : Nat := 19
abbrev f_pos_Of : Nat := 20
abbrev f_ref_PosOf : Nat := 21
abbrev f_pos_At : Nat := 22
abbrev f_ref_PosAt : Nat := 23
abbrev f_spans_Take : Nat := 24
abbrev f_ref_SpansTake : Nat := 25
abbrev f_law_sameSpans : Nat := 26
abbrev f_spans_Cut : Nat := 27
abbrev f_ref_SpansSet : Nat := 28
abbrev f_spans_Add : Nat := 29
abbrev f_spans_Shift : Nat := 30
abbrev f_ref_SpansShift : Nat := 31
abbrev f_find_Replace : Nat := 32
abbrev f_ref_FindReplace : Nat := 33
abbrev f_wrap_Check : Nat := 34
abbrev f_wrap_left : Nat := 35
abbrev f_ref_WrapFault : Nat := 36
abbrev f_ref_lineWide : Nat := 37
abbrev f_lines_may : Nat := 38
abbrev f_edit_Check : Nat := 39
abbrev f_lines_Updated : Nat := 40
abbrev f_ref_startsMay : Nat := 41
abbrev f_ref_EditFault : Nat := 42
abbrev f_ref_LinesStarts : Nat := 43
abbrev f_ref_editMade : Nat := 44
abbrev f_slices_ContainsFunc___api_Mark_api_Mark_ : Nat := 45
abbrev f_marks_Move_1 : Nat := 46
abbrev f_slices_Clone___api_Mark_api_Mark_ : Nat := 47
abbrev f_edit_Moved : Nat := 48
abbrev f_ref_editPlace : Nat := 49
abbrev f_strings_Count : Nat := 50
abbrev f_strings_LastIndexByte : Nat := 51
abbrev f_spans_May : Nat := 52
abbrev f_spans_Without : Nat := 53
abbrev f_ref_SpansMay : Nat := 54
abbrev f_ref_inSet : Nat := 55
abbrev f_ref_setOf : Nat := 56
abbrev f_spans_fault : Nat := 57
abbrev f_spans_full : Nat := 58
abbrev f_ref_spansFault : Nat := 59
abbrev f_spans_With : Nat := 60
abbrev f_spans_Shifted : Nat := 61
abbrev f_find_fault : Nat := 62
abbrev f_find_In : Nat := 63
abbrev f___strings_Builder__WriteString : Nat := 64
abbrev f___strings_Builder__Len : Nat := 65
abbrev f___strings_Builder__String : Nat := 66
abbrev f_ref_findFault : Nat := 67
abbrev f_ref_standsAt : Nat := 68
abbrev f_slices_ContainsFunc___int_int_ : Nat := 69
abbrev f_wrap_Check_1 : Nat := 70
abbrev f_sort_SearchInts : Nat := 71
abbrev f_ref_cutLines : Nat := 72
abbrev f_slices_IndexFunc___api_Mark_api_Mark_ : Nat := 73
abbrev f_unicode_utf8_RuneCountInString : Nat := 74
abbrev f_strings_Index : Nat := 76
abbrev f_internal_bytealg_LastIndexByteString : Nat := 77
abbrev f_slices_Clone___api_Span_api_Span_ : Nat := 78
abbrev f_slices_DeleteFunc___api_Span_api_Span_ : Nat := 79
abbrev f_spans_Without_1 : Nat := 80
abbrev f_slices_BinarySearchFunc___api_Span_api_Span_int_ : Nat := 81
abbrev f_spans_With_1 : Nat := 82
abbrev f_spans_Joined : Nat := 83
abbrev f_slices_Insert___api_Span_api_Span_ : Nat := 84
abbrev f_find_border : Nat := 85
abbrev f___strings_Builder__copyCheck : Nat := 86
abbrev f_slices_IndexFunc___int_int_ : Nat := 87
abbrev f_sort_Search : Nat := 88
abbrev f_sort_SearchInts_1 : Nat := 89
abbrev f_internal_stringslite_Index : Nat := 90
abbrev f_slices_IndexFunc___api_Span_api_Span_ : Nat := 91
abbrev f_slices_rotateRight_api_Span_ : Nat := 93
abbrev f_internal_stringslite_IndexByte : Nat := 95
abbrev f_internal_bytealg_Cutover : Nat := 97
abbrev f_internal_bytealg_IndexRabinKarp_string_ : Nat := 98
abbrev f_slices_rotateLeft_api_Span_ : Nat := 99
abbrev f_internal_bytealg_hashStr_string_ : Nat := 101
abbrev f_slices_Reverse___api_Span_api_Span_ : Nat := 102

/-- fustian/wrap.Check: slots [0 widths, 1 wide, 2 widths, 3 wide] -/
def wrap_Check_c : SCode :=
  (.seq (.ops [⟨(some 3), .box 0 (.t 1), none, false⟩,
    ⟨(some 4), .mov (.c (.int .i64 0)), none, false⟩] none [0, 3])
  (.seq (.block 0 (.seq (.ops [⟨(some 6), .mov (.t 0), none, false⟩,
    ⟨(some 7), .len false (.t 6), none, false⟩,
    ⟨(some 8), .bin .none .gtr (.t 7) (.c (.int .i64 80)), none, false⟩,
    ⟨(some 5), .mov (.t 8), none, false⟩] none [0, 3, 5])
  (.cond (.t 5)
    (.seq (.ops [⟨(some 4), .mov (.c (.int .i64 1)), none, false⟩] none [4])
    .ret)
    (.seq (.ops [⟨(some 10), .load 1 false (.t 3), none, false⟩,
      ⟨(some 11), .bin .none .lss (.t 10) (.c (.int .i64 1)), none, false⟩,
      ⟨(some 12), .mov (.t 11), none, true⟩,
      ⟨(some 13), .load 1 false (.t 3), (some (12, false)), false⟩,
      ⟨(some 14), .bin .none .gtr (.t 13) (.c (.int .i64 60)), (some (12, false)), false⟩,
      ⟨(some 15), .pick (.t 12) (.c (.bool true)) (.t 14), none, false⟩,
      ⟨(some 9), .mov (.t 15), none, false⟩] none [0, 3, 9])
    (.cond (.t 9)
      (.seq (.ops [⟨(some 4), .mov (.c (.int .i64 2)), none, false⟩] none [4])
      .ret)
      (.seq (.ops [⟨(some 17), .mov (.t 0), none, false⟩,
        ⟨(some 18), .mkfunc (.func f_wrap_Check_1) [] [(.t 3)], none, false⟩,
        ⟨(some 19), .call f_slices_ContainsFunc___int_int_ [(.t 17), (.t 18)], none, false⟩,
        ⟨(some 16), .mov (.t 19), none, false⟩] none [16])
      (.cond (.t 16)
        (.seq (.ops [⟨(some 4), .mov (.c (.int .i64 2)), none, false⟩] none [4])
        .ret)
        .skip)))))))
  (.seq (.ops [⟨(some 4), .mov (.c (.int .i64 0)), none, false⟩] none [4])
  .ret)))
def wrap_Check_r : List RRes := [.tmp 4]
def wrap_Check_hi : Hi := ⟨[], [(0, "widths"), (1, "wide"), (2, "widths"), (3, "wide")]⟩
def wrap_Check_an : An := .d
def wrap_Check_fi : Fi := ⟨20, wrap_Check_c, wrap_Check_r, wrap_Check_an, wrap_Check_hi⟩
theorem wrap_Check_ok : FiOk Try.prog f_wrap_Check wrap_Check_fi :=
  ⟨by kernel_rfl, fun h hlen => fun_sound (fn := Try.f34) (draw_sound _ _) Try.func34 rfl (by kernel_rfl : comp Try.prog 20 _ wrap_Check_c = some wrap_Check_c) (by kernel_rfl : cRes Try.prog Try.f34.results.toList = some wrap_Check_r) hlen h⟩

/-- fustian/wrap.left: slots [0 words, 1 wide, 2 words, 3 wide, 5 free, 6 _, 7 n] -/
def wrap_left_c : SCode :=
  (.seq (.ops [⟨(some 4), .mov (.c (.int .i64 0)), none, false⟩] none [0, 1])
  (.seq (.ops [⟨(some 8), .mov (.t 1), none, false⟩,
    ⟨(some 9), .bin .none .add (.t 8) (.c (.int .i64 1)), none, false⟩,
    ⟨(some 5), .mov (.t 9), none, false⟩] none [0, 5])
  (.seq (.seq (.ops [⟨(some 10), .mov (.t 0), none, false⟩,
    ⟨(some 11), .len false (.t 10), none, false⟩,
    ⟨(some 12), .mov (.c (.int .i64 0)), none, false⟩] none [5, 10, 11, 12])
  (.block 0 (.loop [10, 11] [5, 12] 0
    (.seq (.ops [⟨(some 13), .bin .none .lss (.t 12) (.t 11), none, false⟩] none [5, 10, 11, 12, 13])
    (.seq (.cond (.t 13)
      .skip
      (.exit 0))
    (.seq (.block 1 (.seq (.ops [⟨(some 14), .iaddr 1 none (.t 10) (.t 12), none, false⟩,
      ⟨(some 15), .load 1 false (.t 14), none, false⟩,
      ⟨(some 7), .mov (.t 15), none, false⟩] none [5, 7, 10, 11, 12])
    (.ops [⟨(some 16), .mov (.t 5), none, false⟩,
      ⟨(some 17), .mov (.t 7), none, false⟩,
      ⟨(some 18), .bin .none .add (.t 17) (.c (.int .i64 1)), none, false⟩,
      ⟨(some 19), .bin .none .sub (.t 16) (.t 18), none, false⟩,
      ⟨(some 5), .mov (.t 19), none, false⟩] none [5, 10, 11, 12])))
    (.ops [⟨(some 20), .bin .none .add (.t 12) (.c (.int .i64 1)), none, false⟩,
      ⟨(some 12), .mov (.t 20), none, false⟩] none [5, 10, 11, 12])))))))
  (.seq (.ops [⟨(some 21), .mov (.t 5), none, false⟩,
    ⟨(some 4), .mov (.t 21), none, false⟩] none [4])
  .ret))))
def wrap_left_r : List RRes := [.tmp 4]
def wrap_left_hi : Hi := ⟨[], [(0, "words"), (1, "wide"), (2, "words"), (3, "wide"), (5, "free"), (7, "n")]⟩
def wrap_left_an : An := (.seq .d (.seq .d (.seq (.seq .d (.loop [] [] [] .d)) .d)))
def wrap_left_fi : Fi := ⟨22, wrap_left_c, wrap_left_r, wrap_left_an, wrap_left_hi⟩
theorem wrap_left_ok : FiOk Try.prog f_wrap_left wrap_left_fi :=
  ⟨by kernel_rfl, fun h hlen => fun_sound (fn := Try.f35) (draw_sound _ _) Try.func35 rfl (by kernel_rfl : comp Try.prog 22 _ wrap_left_c = some wrap_left_c) (by kernel_rfl : cRes Try.prog Try.f35.results.toList = some wrap_left_r) hlen h⟩

/-- fustian/wrap.Cost: slots [0 widths, 1 wide, 2 starts, 3 widths, 4 wide, 5 starts, 8 e, 9 cost, 10 i, 11 from, 12 to, 13 free] -/
def wrap_Cost_c : SCode :=
  (.seq (.ops [⟨(some 6), .mov (.c (.int .i64 0)), none, false⟩,
    ⟨(some 7), .mov (.c (.int .i64 0)), none, false⟩] none [0, 1, 2])
  (.seq (.seq (.ops [⟨(some 14), .mov (.t 0), none, false⟩,
    ⟨(some 15), .mov (.t 1), none, false⟩,
    ⟨(some 16), .call f_wrap_Check [(.t 14), (.t 15)], none, false⟩,
    ⟨(some 8), .mov (.t 16), none, false⟩] none [0, 1, 2, 8])
  (.seq (.ops [⟨(some 17), .mov (.t 8), none, false⟩,
    ⟨(some 18), .bin .none .neq (.t 17) (.c (.int .i64 0)), none, false⟩] none [0, 1, 2, 8, 18])
  (.cond (.t 18)
    (.seq (.ops [⟨(some 19), .mov (.t 8), none, false⟩,
      ⟨(some 6), .mov (.c (.int .i64 0)), none, false⟩,
      ⟨(some 7), .mov (.t 19), none, false⟩] none [6, 7])
    .ret)
    .skip)))
  (.seq (.seq (.ops [⟨(some 20), .mov (.t 0), none, false⟩,
    ⟨(some 21), .len false (.t 20), none, false⟩,
    ⟨(some 22), .bin .none .eql (.t 21) (.c (.int .i64 0)), none, false⟩,
    ⟨(some 23), .mov (.t 2), none, false⟩,
    ⟨(some 24), .len false (.t 23), none, false⟩,
    ⟨(some 25), .bin .none .eql (.t 24) (.c (.int .i64 0)), none, false⟩,
    ⟨(some 26), .bin .bool .neq (.t 22) (.t 25), none, false⟩,
    ⟨(some 27), .mov (.t 26), none, true⟩,
    ⟨(some 28), .mov (.t 2), (some (27, false)), false⟩,
    ⟨(some 29), .len false (.t 28), (some (27, false)), false⟩,
    ⟨(some 30), .bin .none .gtr (.t 29) (.c (.int .i64 0)), (some (27, false)), false⟩,
    ⟨(some 31), .mov (.t 30), (some (27, false)), true⟩,
    ⟨(some 32), .mov (.t 2), (some (31, true)), false⟩,
    ⟨(some 33), .iaddr 1 none (.t 32) (.c (.int .i64 0)), (some (31, true)), false⟩,
    ⟨(some 34), .load 1 false (.t 33), (some (31, true)), false⟩,
    ⟨(some 35), .bin .none .neq (.t 34) (.c (.int .i64 0)), (some (31, true)), false⟩,
    ⟨(some 36), .pick (.t 31) (.t 35) (.c (.bool false)), (some (27, false)), false⟩,
    ⟨(some 37), .pick (.t 27) (.c (.bool true)) (.t 36), none, false⟩] none [0, 1, 2, 37])
  (.cond (.t 37)
    (.seq (.ops [⟨(some 6), .mov (.c (.int .i64 0)), none, false⟩,
      ⟨(some 7), .mov (.c (.int .i64 4)), none, false⟩] none [6, 7])
    .ret)
    .skip))
  (.seq (.ops [⟨(some 9), .mov (.c (.int .i64 0)), none, false⟩] none [0, 1, 2, 9])
  (.seq (.seq (.ops [⟨(some 38), .mov (.t 2), none, false⟩,
    ⟨(some 39), .len false (.t 38), none, false⟩,
    ⟨(some 40), .mov (.c (.int .i64 0)), none, false⟩] none [0, 1, 2, 9, 38, 39, 40])
  (.block 0 (.loop [0, 1, 2, 38, 39] [9, 40] 0
    (.seq (.ops [⟨(some 41), .bin .none .lss (.t 40) (.t 39), none, false⟩] none [0, 1, 2, 9, 38, 39, 40, 41])
    (.seq (.cond (.t 41)
      .skip
      (.exit 0))
    (.join [0, 1, 2, 38, 39, 40] [9] 0 (.block 1 (.seq (.ops [⟨(some 42), .mov (.t 40), none, false⟩,
        ⟨(some 43), .iaddr 1 none (.t 38) (.t 40), none, false⟩,
        ⟨(some 44), .load 1 false (.t 43), none, false⟩,
        ⟨(some 10), .mov (.t 42), none, false⟩,
        ⟨(some 11), .mov (.t 44), none, false⟩] none [0, 1, 2, 9, 10, 11, 38, 39, 40])
      (.seq (.ops [⟨(some 45), .mov (.t 0), none, false⟩,
        ⟨(some 46), .len false (.t 45), none, false⟩,
        ⟨(some 12), .mov (.t 46), none, false⟩] none [0, 1, 2, 9, 10, 11, 12, 38, 39, 40])
      (.join [0, 1, 2, 9, 10, 11, 38, 39, 40] [12] 0 (.seq (.ops [⟨(some 47), .mov (.t 10), none, false⟩,
          ⟨(some 48), .bin .none .add (.t 47) (.c (.int .i64 1)), none, false⟩,
          ⟨(some 49), .mov (.t 2), none, false⟩,
          ⟨(some 50), .len false (.t 49), none, false⟩,
          ⟨(some 51), .bin .none .lss (.t 48) (.t 50), none, false⟩] none [0, 1, 2, 9, 10, 11, 12, 38, 39, 40, 51])
        (.cond (.t 51)
          (.ops [⟨(some 52), .mov (.t 2), none, false⟩,
            ⟨(some 53), .mov (.t 10), none, false⟩,
            ⟨(some 54), .bin .none .add (.t 53) (.c (.int .i64 1)), none, false⟩,
            ⟨(some 55), .iaddr 1 none (.t 52) (.t 54), none, false⟩,
            ⟨(some 56), .load 1 false (.t 55), none, false⟩,
            ⟨(some 12), .mov (.t 56), none, false⟩] none [0, 1, 2, 9, 10, 11, 12, 38, 39, 40])
          .skip))
      (.seq (.seq (.ops [⟨(some 57), .mov (.t 12), none, false⟩,
        ⟨(some 58), .mov (.t 11), none, false⟩,
        ⟨(some 59), .bin .none .leq (.t 57) (.t 58), none, false⟩,
        ⟨(some 60), .mov (.t 59), none, true⟩,
        ⟨(some 61), .mov (.t 12), (some (60, false)), false⟩,
        ⟨(some 62), .mov (.t 0), (some (60, false)), false⟩,
        ⟨(some 63), .len false (.t 62), (some (60, false)), false⟩,
        ⟨(some 64), .bin .none .gtr (.t 61) (.t 63), (some (60, false)), false⟩,
        ⟨(some 65), .pick (.t 60) (.c (.bool true)) (.t 64), none, false⟩] none [0, 1, 2, 9, 10, 11, 12, 38, 39, 40, 65])
      (.cond (.t 65)
        (.seq (.ops [⟨(some 6), .mov (.c (.int .i64 0)), none, false⟩,
          ⟨(some 7), .mov (.c (.int .i64 4)), none, false⟩] none [6, 7])
        .ret)
        .skip))
      (.seq (.ops [⟨(some 66), .mov (.t 0), none, false⟩,
        ⟨(some 67), .mov (.t 11), none, false⟩,
        ⟨(some 68), .mov (.t 12), none, false⟩,
        ⟨(some 69), .slice 1 (.t 66) (some (.t 67)) (some (.t 68)), none, false⟩,
        ⟨(some 70), .mov (.t 1), none, false⟩,
        ⟨(some 71), .call f_wrap_left [(.t 69), (.t 70)], none, false⟩,
        ⟨(some 13), .mov (.t 71), none, false⟩] none [0, 1, 2, 9, 10, 13, 38, 39, 40])
      (.seq (.seq (.ops [⟨(some 72), .mov (.t 13), none, false⟩,
        ⟨(some 73), .bin .none .lss (.t 72) (.c (.int .i64 0)), none, false⟩] none [0, 1, 2, 9, 10, 13, 38, 39, 40, 73])
      (.cond (.t 73)
        (.seq (.ops [⟨(some 6), .mov (.c (.int .i64 0)), none, false⟩,
          ⟨(some 7), .mov (.c (.int .i64 4)), none, false⟩] none [6, 7])
        .ret)
        .skip))
      (.seq (.ops [⟨(some 74), .mov (.t 10), none, false⟩,
        ⟨(some 75), .bin .none .add (.t 74) (.c (.int .i64 1)), none, false⟩,
        ⟨(some 76), .mov (.t 2), none, false⟩,
        ⟨(some 77), .len false (.t 76), none, false⟩,
        ⟨(some 78), .bin .none .lss (.t 75) (.t 77), none, false⟩] none [0, 1, 2, 9, 13, 38, 39, 40, 78])
      (.cond (.t 78)
        (.ops [⟨(some 79), .mov (.t 9), none, false⟩,
          ⟨(some 80), .mov (.t 13), none, false⟩,
          ⟨(some 81), .mov (.t 13), none, false⟩,
          ⟨(some 82), .bin .none .mul (.t 80) (.t 81), none, false⟩,
          ⟨(some 83), .bin .none .add (.t 79) (.t 82), none, false⟩,
          ⟨(some 9), .mov (.t 83), none, false⟩] none [0, 1, 2, 9, 38, 39, 40])
        .skip)))))))))
    (.ops [⟨(some 84), .bin .none .add (.t 40) (.c (.int .i64 1)), none, false⟩,
      ⟨(some 40), .mov (.t 84), none, false⟩] none [0, 1, 2, 9, 38, 39, 40])))))))
  (.seq (.ops [⟨(some 85), .mov (.t 9), none, false⟩,
    ⟨(some 6), .mov (.t 85), none, false⟩,
    ⟨(some 7), .mov (.c (.int .i64 0)), none, false⟩] none [6, 7])
  .ret))))))
def wrap_Cost_r : List RRes := [.tmp 6, .tmp 7]
def wrap_Cost_hi : Hi := ⟨[], [(0, "widths"), (1, "wide"), (2, "starts"), (3, "widths"), (4, "wide"), (5, "starts"), (8, "e"), (9, "cost"), (10, "i"), (11, "from"), (12, "to"), (13, "free")]⟩
def wrap_Cost_an : An := (.seq .d (.seq .d (.seq .d (.seq .d (.seq (.seq .d (.loop [0] [] [] .d)) .d)))))
def wrap_Cost_fi : Fi := ⟨86, wrap_Cost_c, wrap_Cost_r, wrap_Cost_an, wrap_Cost_hi⟩
theorem wrap_Cost_ok : FiOk Try.prog f_wrap_Cost wrap_Cost_fi :=
  ⟨by kernel_rfl, fun h hlen => fun_sound (fn := Try.f13) (draw_sound _ _) Try.func13 rfl (by kernel_rfl : comp Try.prog 86 _ wrap_Cost_c = some wrap_Cost_c) (by kernel_rfl : cRes Try.prog Try.f13.results.toList = some wrap_Cost_r) hlen h⟩

/-- fustian/fustianref.WrapFault: slots [0 widths, 1 wide, 2 widths, 3 wide, 5 _, 6 n] -/
def ref_WrapFault_c : SCode :=
  (.seq (.ops [⟨(some 4), .mov (.c (.int .i64 0)), none, false⟩] none [0, 1])
  (.seq (.seq (.ops [⟨(some 7), .mov (.t 0), none, false⟩,
    ⟨(some 8), .len false (.t 7), none, false⟩,
    ⟨(some 9), .bin .none .gtr (.t 8) (.c (.int .i64 80)), none, false⟩] none [0, 1, 9])
  (.cond (.t 9)
    (.seq (.ops [⟨(some 4), .mov (.c (.int .i64 1)), none, false⟩] none [4])
    .ret)
    .skip))
  (.seq (.seq (.ops [⟨(some 10), .mov (.t 1), none, false⟩,
    ⟨(some 11), .bin .none .lss (.t 10) (.c (.int .i64 1)), none, false⟩,
    ⟨(some 12), .mov (.t 11), none, true⟩,
    ⟨(some 13), .mov (.t 1), (some (12, false)), false⟩,
    ⟨(some 14), .bin .none .gtr (.t 13) (.c (.int .i64 60)), (some (12, false)), false⟩,
    ⟨(some 15), .pick (.t 12) (.c (.bool true)) (.t 14), none, false⟩] none [0, 1, 15])
  (.cond (.t 15)
    (.seq (.ops [⟨(some 4), .mov (.c (.int .i64 2)), none, false⟩] none [4])
    .ret)
    .skip))
  (.seq (.seq (.ops [⟨(some 16), .mov (.t 0), none, false⟩,
    ⟨(some 17), .len false (.t 16), none, false⟩,
    ⟨(some 18), .mov (.c (.int .i64 0)), none, false⟩] none [1, 16, 17, 18])
  (.block 0 (.loop [1, 16, 17] [18] 0
    (.seq (.ops [⟨(some 19), .bin .none .lss (.t 18) (.t 17), none, false⟩] none [1, 16, 17, 18, 19])
    (.seq (.cond (.t 19)
      .skip
      (.exit 0))
    (.seq (.block 1 (.seq (.ops [⟨(some 20), .iaddr 1 none (.t 16) (.t 18), none, false⟩,
      ⟨(some 21), .load 1 false (.t 20), none, false⟩,
      ⟨(some 6), .mov (.t 21), none, false⟩] none [1, 6, 16, 17, 18])
    (.seq (.ops [⟨(some 22), .mov (.t 6), none, false⟩,
      ⟨(some 23), .bin .none .lss (.t 22) (.c (.int .i64 1)), none, false⟩,
      ⟨(some 24), .mov (.t 23), none, true⟩,
      ⟨(some 25), .mov (.t 6), (some (24, false)), false⟩,
      ⟨(some 26), .mov (.t 1), (some (24, false)), false⟩,
      ⟨(some 27), .bin .none .gtr (.t 25) (.t 26), (some (24, false)), false⟩,
      ⟨(some 28), .pick (.t 24) (.c (.bool true)) (.t 27), none, false⟩] none [1, 16, 17, 18, 28])
    (.cond (.t 28)
      (.seq (.ops [⟨(some 4), .mov (.c (.int .i64 2)), none, false⟩] none [4])
      .ret)
      .skip))))
    (.ops [⟨(some 29), .bin .none .add (.t 18) (.c (.int .i64 1)), none, false⟩,
      ⟨(some 18), .mov (.t 29), none, false⟩] none [1, 16, 17, 18])))))))
  (.seq (.ops [⟨(some 4), .mov (.c (.int .i64 0)), none, false⟩] none [4])
  .ret)))))
def ref_WrapFault_r : List RRes := [.tmp 4]
def ref_WrapFault_hi : Hi := ⟨[], [(0, "widths"), (1, "wide"), (2, "widths"), (3, "wide"), (6, "n")]⟩
def ref_WrapFault_an : An := (.seq .d (.seq .d (.seq .d (.seq (.seq .d (.loop [] [] [] .d)) .d))))
def ref_WrapFault_fi : Fi := ⟨30, ref_WrapFault_c, ref_WrapFault_r, ref_WrapFault_an, ref_WrapFault_hi⟩
theorem ref_WrapFault_ok : FiOk Try.prog f_ref_WrapFault ref_WrapFault_fi :=
  ⟨by kernel_rfl, fun h hlen => fun_sound (fn := Try.f36) (draw_sound _ _) Try.func36 rfl (by kernel_rfl : comp Try.prog 30 _ ref_WrapFault_c = some ref_WrapFault_c) (by kernel_rfl : cRes Try.prog Try.f36.results.toList = some ref_WrapFault_r) hlen h⟩

/-- fustian/fustianref.lineWide: slots [0 words, 1 words, 3 n, 4 _, 5 w] -/
def ref_lineWide_c : SCode :=
  (.seq (.ops [⟨(some 2), .mov (.c (.int .i64 0)), none, false⟩] none [0])
  (.seq (.ops [⟨(some 6), .mov (.t 0), none, false⟩,
    ⟨(some 7), .len false (.t 6), none, false⟩,
    ⟨(some 8), .bin .none .sub (.t 7) (.c (.int .i64 1)), none, false⟩,
    ⟨(some 3), .mov (.t 8), none, false⟩] none [0, 3])
  (.seq (.seq (.ops [⟨(some 9), .mov (.t 0), none, false⟩,
    ⟨(some 10), .len false (.t 9), none, false⟩,
    ⟨(some 11), .mov (.c (.int .i64 0)), none, false⟩] none [3, 9, 10, 11])
  (.block 0 (.loop [9, 10] [3, 11] 0
    (.seq (.ops [⟨(some 12), .bin .none .lss (.t 11) (.t 10), none, false⟩] none [3, 9, 10, 11, 12])
    (.seq (.cond (.t 12)
      .skip
      (.exit 0))
    (.seq (.block 1 (.seq (.ops [⟨(some 13), .iaddr 1 none (.t 9) (.t 11), none, false⟩,
      ⟨(some 14), .load 1 false (.t 13), none, false⟩,
      ⟨(some 5), .mov (.t 14), none, false⟩] none [3, 5, 9, 10, 11])
    (.ops [⟨(some 15), .mov (.t 3), none, false⟩,
      ⟨(some 16), .mov (.t 5), none, false⟩,
      ⟨(some 17), .bin .none .add (.t 15) (.t 16), none, false⟩,
      ⟨(some 3), .mov (.t 17), none, false⟩] none [3, 9, 10, 11])))
    (.ops [⟨(some 18), .bin .none .add (.t 11) (.c (.int .i64 1)), none, false⟩,
      ⟨(some 11), .mov (.t 18), none, false⟩] none [3, 9, 10, 11])))))))
  (.seq (.ops [⟨(some 19), .mov (.t 3), none, false⟩,
    ⟨(some 2), .mov (.t 19), none, false⟩] none [2])
  .ret))))
def ref_lineWide_r : List RRes := [.tmp 2]
def ref_lineWide_hi : Hi := ⟨[], [(0, "words"), (1, "words"), (3, "n"), (5, "w")]⟩
def ref_lineWide_an : An := (.seq .d (.seq .d (.seq (.seq .d (.loop [] [] [] .d)) .d)))
def ref_lineWide_fi : Fi := ⟨20, ref_lineWide_c, ref_lineWide_r, ref_lineWide_an, ref_lineWide_hi⟩
theorem ref_lineWide_ok : FiOk Try.prog f_ref_lineWide ref_lineWide_fi :=
  ⟨by kernel_rfl, fun h hlen => fun_sound (fn := Try.f37) (draw_sound _ _) Try.func37 rfl (by kernel_rfl : comp Try.prog 20 _ ref_lineWide_c = some ref_lineWide_c) (by kernel_rfl : cRes Try.prog Try.f37.results.toList = some ref_lineWide_r) hlen h⟩

/-- fustian/fustianref.WrapCost: slots [0 widths, 1 wide, 2 starts, 3 widths, 4 wide, 5 starts, 8 e, 9 i, 10 at, 11 cost, 12 i, 13 at, 14 n] -/
def ref_WrapCost_c : SCode :=
  (.seq (.ops [⟨(some 6), .mov (.c (.int .i64 0)), none, false⟩,
    ⟨(some 7), .mov (.c (.int .i64 0)), none, false⟩] none [0, 1, 2])
  (.seq (.seq (.ops [⟨(some 15), .mov (.t 0), none, false⟩,
    ⟨(some 16), .mov (.t 1), none, false⟩,
    ⟨(some 17), .call f_ref_WrapFault [(.t 15), (.t 16)], none, false⟩,
    ⟨(some 8), .mov (.t 17), none, false⟩] none [0, 1, 2, 8])
  (.seq (.ops [⟨(some 18), .mov (.t 8), none, false⟩,
    ⟨(some 19), .bin .none .neq (.t 18) (.c (.int .i64 0)), none, false⟩] none [0, 1, 2, 8, 19])
  (.cond (.t 19)
    (.seq (.ops [⟨(some 20), .mov (.t 8), none, false⟩,
      ⟨(some 6), .mov (.c (.int .i64 0)), none, false⟩,
      ⟨(some 7), .mov (.t 20), none, false⟩] none [6, 7])
    .ret)
    .skip)))
  (.seq (.seq (.ops [⟨(some 21), .mov (.t 0), none, false⟩,
    ⟨(some 22), .len false (.t 21), none, false⟩,
    ⟨(some 23), .bin .none .eql (.t 22) (.c (.int .i64 0)), none, false⟩] none [0, 1, 2, 23])
  (.cond (.t 23)
    (.seq (.seq (.ops [⟨(some 24), .mov (.t 2), none, false⟩,
      ⟨(some 25), .len false (.t 24), none, false⟩,
      ⟨(some 26), .bin .none .gtr (.t 25) (.c (.int .i64 0)), none, false⟩] none [26])
    (.cond (.t 26)
      (.seq (.ops [⟨(some 6), .mov (.c (.int .i64 0)), none, false⟩,
        ⟨(some 7), .mov (.c (.int .i64 4)), none, false⟩] none [6, 7])
      .ret)
      .skip))
    (.seq (.ops [⟨(some 6), .mov (.c (.int .i64 0)), none, false⟩,
      ⟨(some 7), .mov (.c (.int .i64 0)), none, false⟩] none [6, 7])
    .ret))
    .skip))
  (.seq (.seq (.ops [⟨(some 27), .mov (.t 2), none, false⟩,
    ⟨(some 28), .len false (.t 27), none, false⟩,
    ⟨(some 29), .bin .none .eql (.t 28) (.c (.int .i64 0)), none, false⟩,
    ⟨(some 30), .mov (.t 29), none, true⟩,
    ⟨(some 31), .mov (.t 2), (some (30, false)), false⟩,
    ⟨(some 32), .iaddr 1 none (.t 31) (.c (.int .i64 0)), (some (30, false)), false⟩,
    ⟨(some 33), .load 1 false (.t 32), (some (30, false)), false⟩,
    ⟨(some 34), .bin .none .neq (.t 33) (.c (.int .i64 0)), (some (30, false)), false⟩,
    ⟨(some 35), .pick (.t 30) (.c (.bool true)) (.t 34), none, false⟩] none [0, 1, 2, 35])
  (.cond (.t 35)
    (.seq (.ops [⟨(some 6), .mov (.c (.int .i64 0)), none, false⟩,
      ⟨(some 7), .mov (.c (.int .i64 4)), none, false⟩] none [6, 7])
    .ret)
    .skip))
  (.seq (.seq (.ops [⟨(some 36), .mov (.t 2), none, false⟩,
    ⟨(some 37), .len false (.t 36), none, false⟩,
    ⟨(some 38), .mov (.c (.int .i64 0)), none, false⟩] none [0, 1, 2, 36, 37, 38])
  (.block 0 (.loop [0, 1, 2, 36, 37] [38] 0
    (.seq (.ops [⟨(some 39), .bin .none .lss (.t 38) (.t 37), none, false⟩] none [0, 1, 2, 36, 37, 38, 39])
    (.seq (.cond (.t 39)
      .skip
      (.exit 0))
    (.seq (.block 1 (.seq (.ops [⟨(some 40), .mov (.t 38), none, false⟩,
      ⟨(some 41), .iaddr 1 none (.t 36) (.t 38), none, false⟩,
      ⟨(some 42), .load 1 false (.t 41), none, false⟩,
      ⟨(some 9), .mov (.t 40), none, false⟩,
      ⟨(some 10), .mov (.t 42), none, false⟩] none [0, 1, 2, 9, 10, 36, 37, 38])
    (.seq (.ops [⟨(some 43), .mov (.t 10), none, false⟩,
      ⟨(some 44), .bin .none .lss (.t 43) (.c (.int .i64 0)), none, false⟩,
      ⟨(some 45), .mov (.t 44), none, true⟩,
      ⟨(some 46), .mov (.t 10), (some (45, false)), false⟩,
      ⟨(some 47), .mov (.t 0), (some (45, false)), false⟩,
      ⟨(some 48), .len false (.t 47), (some (45, false)), false⟩,
      ⟨(some 49), .bin .none .geq (.t 46) (.t 48), (some (45, false)), false⟩,
      ⟨(some 50), .pick (.t 45) (.c (.bool true)) (.t 49), none, false⟩,
      ⟨(some 51), .mov (.t 50), none, true⟩,
      ⟨(some 52), .mov (.t 9), (some (51, false)), false⟩,
      ⟨(some 53), .bin .none .gtr (.t 52) (.c (.int .i64 0)), (some (51, false)), false⟩,
      ⟨(some 54), .mov (.t 53), (some (51, false)), true⟩,
      ⟨(some 55), .mov (.t 10), (some (54, true)), false⟩,
      ⟨(some 56), .mov (.t 2), (some (54, true)), false⟩,
      ⟨(some 57), .mov (.t 9), (some (54, true)), false⟩,
      ⟨(some 58), .bin .none .sub (.t 57) (.c (.int .i64 1)), (some (54, true)), false⟩,
      ⟨(some 59), .iaddr 1 none (.t 56) (.t 58), (some (54, true)), false⟩,
      ⟨(some 60), .load 1 false (.t 59), (some (54, true)), false⟩,
      ⟨(some 61), .bin .none .leq (.t 55) (.t 60), (some (54, true)), false⟩,
      ⟨(some 62), .pick (.t 54) (.t 61) (.c (.bool false)), (some (51, false)), false⟩,
      ⟨(some 63), .pick (.t 51) (.c (.bool true)) (.t 62), none, false⟩] none [0, 1, 2, 36, 37, 38, 63])
    (.cond (.t 63)
      (.seq (.ops [⟨(some 6), .mov (.c (.int .i64 0)), none, false⟩,
        ⟨(some 7), .mov (.c (.int .i64 4)), none, false⟩] none [6, 7])
      .ret)
      .skip))))
    (.ops [⟨(some 64), .bin .none .add (.t 38) (.c (.int .i64 1)), none, false⟩,
      ⟨(some 38), .mov (.t 64), none, false⟩] none [0, 1, 2, 36, 37, 38])))))))
  (.seq (.ops [⟨(some 11), .mov (.c (.int .i64 0)), none, false⟩] none [0, 1, 2, 11])
  (.join [] [11] 0 (.seq (.ops [⟨(some 65), .mov (.t 2), none, false⟩,
      ⟨(some 66), .len false (.t 65), none, false⟩,
      ⟨(some 67), .mov (.c (.int .i64 0)), none, false⟩] none [0, 1, 2, 11, 65, 66, 67])
    (.block 2 (.loop [0, 1, 2, 65, 66] [11, 67] 0
      (.seq (.ops [⟨(some 68), .bin .none .lss (.t 67) (.t 66), none, false⟩] none [0, 1, 2, 11, 65, 66, 67, 68])
      (.seq (.cond (.t 68)
        .skip
        (.exit 2))
      (.seq (.block 3 (.seq (.ops [⟨(some 69), .mov (.t 67), none, false⟩,
        ⟨(some 70), .iaddr 1 none (.t 65) (.t 67), none, false⟩,
        ⟨(some 71), .load 1 false (.t 70), none, false⟩,
        ⟨(some 12), .mov (.t 69), none, false⟩,
        ⟨(some 13), .mov (.t 71), none, false⟩] none [0, 1, 2, 11, 12, 13, 65, 66, 67])
      (.seq (.seq (.ops [⟨(some 72), .mov (.t 12), none, false⟩,
        ⟨(some 73), .bin .none .add (.t 72) (.c (.int .i64 1)), none, false⟩,
        ⟨(some 74), .mov (.t 2), none, false⟩,
        ⟨(some 75), .len false (.t 74), none, false⟩,
        ⟨(some 76), .bin .none .eql (.t 73) (.t 75), none, false⟩] none [0, 1, 2, 11, 12, 13, 65, 66, 67, 76])
      (.cond (.t 76)
        (.seq (.seq (.ops [⟨(some 77), .mov (.t 0), none, false⟩,
          ⟨(some 78), .mov (.t 13), none, false⟩,
          ⟨(some 79), .slice 1 (.t 77) (some (.t 78)) none, none, false⟩,
          ⟨(some 80), .call f_ref_lineWide [(.t 79)], none, false⟩,
          ⟨(some 81), .mov (.t 1), none, false⟩,
          ⟨(some 82), .bin .none .gtr (.t 80) (.t 81), none, false⟩] none [11, 82])
        (.cond (.t 82)
          (.seq (.ops [⟨(some 6), .mov (.c (.int .i64 0)), none, false⟩,
            ⟨(some 7), .mov (.c (.int .i64 4)), none, false⟩] none [6, 7])
          .ret)
          .skip))
        (.exit 2))
        .skip))
      (.seq (.ops [⟨(some 83), .mov (.t 0), none, false⟩,
        ⟨(some 84), .mov (.t 13), none, false⟩,
        ⟨(some 85), .mov (.t 2), none, false⟩,
        ⟨(some 86), .mov (.t 12), none, false⟩,
        ⟨(some 87), .bin .none .add (.t 86) (.c (.int .i64 1)), none, false⟩,
        ⟨(some 88), .iaddr 1 none (.t 85) (.t 87), none, false⟩,
        ⟨(some 89), .load 1 false (.t 88), none, false⟩,
        ⟨(some 90), .slice 1 (.t 83) (some (.t 84)) (some (.t 89)), none, false⟩,
        ⟨(some 91), .call f_ref_lineWide [(.t 90)], none, false⟩,
        ⟨(some 14), .mov (.t 91), none, false⟩] none [0, 1, 2, 11, 14, 65, 66, 67])
      (.seq (.seq (.ops [⟨(some 92), .mov (.t 14), none, false⟩,
        ⟨(some 93), .mov (.t 1), none, false⟩,
        ⟨(some 94), .bin .none .gtr (.t 92) (.t 93), none, false⟩] none [0, 1, 2, 11, 14, 65, 66, 67, 94])
      (.cond (.t 94)
        (.seq (.ops [⟨(some 6), .mov (.c (.int .i64 0)), none, false⟩,
          ⟨(some 7), .mov (.c (.int .i64 4)), none, false⟩] none [6, 7])
        .ret)
        .skip))
      (.ops [⟨(some 95), .mov (.t 11), none, false⟩,
        ⟨(some 96), .mov (.t 1), none, false⟩,
        ⟨(some 97), .mov (.t 14), none, false⟩,
        ⟨(some 98), .bin .none .sub (.t 96) (.t 97), none, false⟩,
        ⟨(some 99), .mov (.t 1), none, false⟩,
        ⟨(some 100), .mov (.t 14), none, false⟩,
        ⟨(some 101), .bin .none .sub (.t 99) (.t 100), none, false⟩,
        ⟨(some 102), .bin .none .mul (.t 98) (.t 101), none, false⟩,
        ⟨(some 103), .bin .none .add (.t 95) (.t 102), none, false⟩,
        ⟨(some 11), .mov (.t 103), none, false⟩] none [0, 1, 2, 11, 65, 66, 67]))))))
      (.ops [⟨(some 104), .bin .none .add (.t 67) (.c (.int .i64 1)), none, false⟩,
        ⟨(some 67), .mov (.t 104), none, false⟩] none [0, 1, 2, 11, 65, 66, 67])))))))
  (.seq (.ops [⟨(some 105), .mov (.t 11), none, false⟩,
    ⟨(some 6), .mov (.t 105), none, false⟩,
    ⟨(some 7), .mov (.c (.int .i64 0)), none, false⟩] none [6, 7])
  .ret))))))))
def ref_WrapCost_r : List RRes := [.tmp 6, .tmp 7]
def ref_WrapCost_hi : Hi := ⟨[], [(0, "widths"), (1, "wide"), (2, "starts"), (3, "widths"), (4, "wide"), (5, "starts"), (8, "e"), (9, "i"), (10, "at"), (11, "cost"), (12, "i"), (13, "at"), (14, "n")]⟩
def ref_WrapCost_an : An := (.seq .d (.seq .d (.seq .d (.seq .d (.seq (.seq .d (.loop [] [] [] .d)) (.seq .d (.seq (.seq .d (.loop [0] [] [] .d)) .d)))))))
def ref_WrapCost_fi : Fi := ⟨106, ref_WrapCost_c, ref_WrapCost_r, ref_WrapCost_an, ref_WrapCost_hi⟩
theorem ref_WrapCost_ok : FiOk Try.prog f_ref_WrapCost ref_WrapCost_fi :=
  ⟨by kernel_rfl, fun h hlen => fun_sound (fn := Try.f14) (draw_sound _ _) Try.func14 rfl (by kernel_rfl : comp Try.prog 106 _ ref_WrapCost_c = some ref_WrapCost_c) (by kernel_rfl : cRes Try.prog Try.f14.results.toList = some ref_WrapCost_r) hlen h⟩

/-- fustian/fustianlaw.WrapCosts: slots [0 widths, 1 wide, 2 starts, 3 widths, 4 wide, 5 starts, 7 x, 8 e, 9 y, 10 f] -/
def law_WrapCosts_c : SCode :=
  (.seq (.ops [⟨(some 6), .mov (.c (.bool false)), none, false⟩] none [0, 1, 2])
  (.seq (.ops [⟨(some 12), .mov (.t 0), none, false⟩,
    ⟨(some 13), .mov (.t 1), none, false⟩,
    ⟨(some 14), .mov (.t 2), none, false⟩,
    ⟨(some 15), .call f_wrap_Cost [(.t 12), (.t 13), (.t 14)], none, false⟩,
    ⟨(some 11), .mov (.t 15), none, false⟩,
    ⟨(some 16), .extract (.t 11) 0, none, false⟩,
    ⟨(some 17), .extract (.t 11) 1, none, false⟩,
    ⟨(some 7), .mov (.t 16), none, false⟩,
    ⟨(some 8), .mov (.t 17), none, false⟩] none [0, 1, 2, 7, 8])
  (.seq (.ops [⟨(some 19), .mov (.t 0), none, false⟩,
    ⟨(some 20), .mov (.t 1), none, false⟩,
    ⟨(some 21), .mov (.t 2), none, false⟩,
    ⟨(some 22), .call f_ref_WrapCost [(.t 19), (.t 20), (.t 21)], none, false⟩,
    ⟨(some 18), .mov (.t 22), none, false⟩,
    ⟨(some 23), .extract (.t 18) 0, none, false⟩,
    ⟨(some 24), .extract (.t 18) 1, none, false⟩,
    ⟨(some 9), .mov (.t 23), none, false⟩,
    ⟨(some 10), .mov (.t 24), none, false⟩] none [7, 8, 9, 10])
  (.seq (.ops [⟨(some 25), .mov (.t 7), none, false⟩,
    ⟨(some 26), .mov (.t 9), none, false⟩,
    ⟨(some 27), .bin .none .eql (.t 25) (.t 26), none, false⟩,
    ⟨(some 28), .mov (.t 27), none, true⟩,
    ⟨(some 29), .mov (.t 8), (some (28, true)), false⟩,
    ⟨(some 30), .mov (.t 10), (some (28, true)), false⟩,
    ⟨(some 31), .bin .none .eql (.t 29) (.t 30), (some (28, true)), false⟩,
    ⟨(some 32), .pick (.t 28) (.t 31) (.c (.bool false)), none, false⟩,
    ⟨(some 6), .mov (.t 32), none, false⟩] none [6])
  .ret))))
def law_WrapCosts_r : List RRes := [.tmp 6]
def law_WrapCosts_hi : Hi := ⟨[], [(0, "widths"), (1, "wide"), (2, "starts"), (3, "widths"), (4, "wide"), (5, "starts"), (7, "x"), (8, "e"), (9, "y"), (10, "f")]⟩
def law_WrapCosts_an : An := .d
def law_WrapCosts_fi : Fi := ⟨33, law_WrapCosts_c, law_WrapCosts_r, law_WrapCosts_an, law_WrapCosts_hi⟩
theorem law_WrapCosts_ok : FiOk Try.prog f_law_WrapCosts law_WrapCosts_fi :=
  ⟨by kernel_rfl, fun h hlen => fun_sound (fn := Try.f3) (draw_sound _ _) Try.func3 rfl (by kernel_rfl : comp Try.prog 33 _ law_WrapCosts_c = some law_WrapCosts_c) (by kernel_rfl : cRes Try.prog Try.f3.results.toList = some law_WrapCosts_r) hlen h⟩

/-- slices.ContainsFunc[[]int,int]: slots [0 s, 1 f, 2 s, 3 f] -/
def slices_ContainsFunc___int_int__c : SCode :=
  (.seq (.ops [⟨(some 4), .mov (.c (.bool false)), none, false⟩] none [0, 1])
  (.seq (.ops [⟨(some 5), .mov (.t 0), none, false⟩,
    ⟨(some 6), .mov (.t 1), none, false⟩,
    ⟨(some 7), .call f_slices_IndexFunc___int_int_ [(.t 5), (.t 6)], none, false⟩,
    ⟨(some 8), .bin .none .geq (.t 7) (.c (.int .i64 0)), none, false⟩,
    ⟨(some 4), .mov (.t 8), none, false⟩] none [4])
  .ret))
def slices_ContainsFunc___int_int__r : List RRes := [.tmp 4]
def slices_ContainsFunc___int_int__hi : Hi := ⟨[], [(0, "s"), (1, "f"), (2, "s"), (3, "f")]⟩
def slices_ContainsFunc___int_int__an : An := .d
def slices_ContainsFunc___int_int__fi : Fi := ⟨9, slices_ContainsFunc___int_int__c, slices_ContainsFunc___int_int__r, slices_ContainsFunc___int_int__an, slices_ContainsFunc___int_int__hi⟩
theorem slices_ContainsFunc___int_int__ok : FiOk Try.prog f_slices_ContainsFunc___int_int_ slices_ContainsFunc___int_int__fi :=
  ⟨by kernel_rfl, fun h hlen => fun_sound (fn := Try.f69) (draw_sound _ _) Try.func69 rfl (by kernel_rfl : comp Try.prog 9 _ slices_ContainsFunc___int_int__c = some slices_ContainsFunc___int_int__c) (by kernel_rfl : cRes Try.prog Try.f69.results.toList = some slices_ContainsFunc___int_int__r) hlen h⟩

/-- slices.IndexFunc[[]int,int]: slots [0 s, 1 f, 2 s, 3 f, 5 i] -/
def slices_IndexFunc___int_int__c : SCode :=
  (.seq (.ops [⟨(some 4), .mov (.c (.int .i64 0)), none, false⟩] none [0, 1])
  (.seq (.seq (.ops [⟨(some 6), .mov (.t 0), none, false⟩,
    ⟨(some 7), .len false (.t 6), none, false⟩,
    ⟨(some 8), .mov (.c (.int .i64 0)), none, false⟩] none [0, 1, 7, 8])
  (.block 0 (.loop [0, 1, 7] [8] 0
    (.seq (.ops [⟨(some 9), .bin .none .lss (.t 8) (.t 7), none, false⟩] none [0, 1, 7, 8, 9])
    (.seq (.cond (.t 9)
      .skip
      (.exit 0))
    (.seq (.block 1 (.seq (.ops [⟨(some 10), .mov (.t 8), none, false⟩,
      ⟨(some 5), .mov (.t 10), none, false⟩] none [0, 1, 5, 7, 8])
    (.seq (.ops [⟨(some 11), .mov (.t 1), none, false⟩,
      ⟨(some 12), .mov (.t 0), none, false⟩,
      ⟨(some 13), .mov (.t 5), none, false⟩,
      ⟨(some 14), .iaddr 1 none (.t 12) (.t 13), none, false⟩,
      ⟨(some 15), .load 1 false (.t 14), none, false⟩,
      ⟨(some 16), .callv (.t 11) [(.t 15)], none, false⟩] none [0, 1, 5, 7, 8, 16])
    (.cond (.t 16)
      (.seq (.ops [⟨(some 17), .mov (.t 5), none, false⟩,
        ⟨(some 4), .mov (.t 17), none, false⟩] none [4])
      .ret)
      .skip))))
    (.ops [⟨(some 18), .bin .none .add (.t 8) (.c (.int .i64 1)), none, false⟩,
      ⟨(some 8), .mov (.t 18), none, false⟩] none [0, 1, 7, 8])))))))
  (.seq (.ops [⟨(some 4), .mov (.c (.int .i64 (-1))), none, false⟩] none [4])
  .ret)))
def slices_IndexFunc___int_int__r : List RRes := [.tmp 4]
def slices_IndexFunc___int_int__hi : Hi := ⟨[], [(0, "s"), (1, "f"), (2, "s"), (3, "f"), (5, "i")]⟩
def slices_IndexFunc___int_int__an : An := (.seq .d (.seq (.seq .d (.loop [1] [] [] .d)) .d))
def slices_IndexFunc___int_int__fi : Fi := ⟨19, slices_IndexFunc___int_int__c, slices_IndexFunc___int_int__r, slices_IndexFunc___int_int__an, slices_IndexFunc___int_int__hi⟩
theorem slices_IndexFunc___int_int__ok : FiOk Try.prog f_slices_IndexFunc___int_int_ slices_IndexFunc___int_int__fi :=
  ⟨by kernel_rfl, fun h hlen => fun_sound (fn := Try.f87) (draw_sound _ _) Try.func87 rfl (by kernel_rfl : comp Try.prog 19 _ slices_IndexFunc___int_int__c = some slices_IndexFunc___int_int__c) (by kernel_rfl : cRes Try.prog Try.f87.results.toList = some slices_IndexFunc___int_int__r) hlen h⟩

/-- fustian/wrap.Check$1: slots [0 n, 2 n] -/
def wrap_Check_1_c : SCode :=
  (.seq (.ops [⟨(some 3), .mov (.c (.bool false)), none, false⟩] none [0, 1])
  (.seq (.ops [⟨(some 4), .mov (.t 0), none, false⟩,
    ⟨(some 5), .bin .none .lss (.t 4) (.c (.int .i64 1)), none, false⟩,
    ⟨(some 6), .mov (.t 5), none, true⟩,
    ⟨(some 7), .mov (.t 0), (some (6, false)), false⟩,
    ⟨(some 8), .load 1 false (.t 1), (some (6, false)), false⟩,
    ⟨(some 9), .bin .none .gtr (.t 7) (.t 8), (some (6, false)), false⟩,
    ⟨(some 10), .pick (.t 6) (.c (.bool true)) (.t 9), none, false⟩,
    ⟨(some 3), .mov (.t 10), none, false⟩] none [3])
  .ret))
def wrap_Check_1_r : List RRes := [.tmp 3]
def wrap_Check_1_hi : Hi := ⟨[], [(0, "n"), (2, "n")]⟩
def wrap_Check_1_an : An := .d
def wrap_Check_1_fi : Fi := ⟨11, wrap_Check_1_c, wrap_Check_1_r, wrap_Check_1_an, wrap_Check_1_hi⟩
theorem wrap_Check_1_ok : FiOk Try.prog f_wrap_Check_1 wrap_Check_1_fi :=
  ⟨by kernel_rfl, fun h hlen => fun_sound (fn := Try.f70) (draw_sound _ _) Try.func70 rfl (by kernel_rfl : comp Try.prog 11 _ wrap_Check_1_c = some wrap_Check_1_c) (by kernel_rfl : cRes Try.prog Try.f70.results.toList = some wrap_Check_1_r) hlen h⟩

end Go.Proofs.Ytmknkkafindicaa
