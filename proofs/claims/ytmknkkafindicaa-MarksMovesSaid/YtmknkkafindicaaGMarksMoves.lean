/- The functions' simplified code, printed by a program of the claim's author; each is checked against the program's own code. Conditions: none. -/
import Derived.Test.YtmknkkafindicaaProg
import Derived.Test.YtmknkkafindicaaVyM
set_option linter.unusedVariables false
set_option maxRecDepth 100000
namespace Go.Proofs.Ytmknkkafindicaa
open Go.Vc
abbrev f_gosem_cut_init : Nat := 2
abbrev f_law_WrapCosts : Nat := 3
abbrev f_law_LinesUpdates : Nat := 4
abbrev f_law_MarksMoves : Nat := 5
abbrev f_law_PosOfs : Nat := 6
abbrev f_law_PosAts : Nat := 7
abbrev f_law_SpansTakes : Nat := 8
abbrev f_law_SpansCuts : Nat := 9
abbrev f_law_SpansAdds : Nat := 10
abbrev f_law_SpansShifts : Nat := 11
abbrev f_law_FindReplaces : Nat := 12
abbrev f_wrap_Cost : Nat := 13
abbrev f_ref_WrapCost : Nat := 14
abbrev f_lines_Update : Nat := 15
abbrev f_ref_LinesUpdate : Nat := 16
abbrev f_law_sameInts : Nat := 17
abbrev f_marks_Move : Nat := 18
abbrev f_ref_MarksMoved : Nat := 19
abbrev f_pos_Of : Nat := 20
abbrev f_ref_PosOf : Nat := 21
abbrev f_pos_At : Nat := 22
abbrev f_ref_PosAt : Nat := 23
abbrev f_spans_Take : Nat := 24
abbrev f_ref_SpansTake : Nat := 25
abbrev f_law_sameSpans : Nat := 26
abbrev f_spans_Cut : Nat := 27
abbrev f_ref_SpansSet : Nat := 28
abbrev f_spans_Add : Nat := 29
abbrev f_spans_Shift : Nat := 30
abbrev f_ref_SpansShift : Nat := 31
abbrev f_find_Replace : Nat := 32
abbrev f_ref_FindReplace : Nat := 33
abbrev f_wrap_Check : Nat := 34
abbrev f_wrap_left : Nat := 35
abbrev f_ref_WrapFault : Nat := 36
abbrev f_ref_lineWide : Nat := 37
abbrev f_lines_may : Nat := 38
abbrev f_edit_Check : Nat := 39
abbrev f_lines_Updated : Nat := 40
abbrev f_ref_startsMay : Nat := 41
abbrev f_ref_EditFault : Nat := 42
abbrev f_ref_LinesStarts : Nat := 43
abbrev f_ref_editMade : Nat := 44
abbrev f_slices_ContainsFunc___api_Mark_api_Mark_ : Nat := 45
abbrev f_marks_Move_1 : Nat := 46
abbrev f_slices_Clone___api_Mark_api_Mark_ : Nat := 47
abbrev f_edit_Moved : Nat := 48
abbrev f_ref_editPlace : Nat := 49
abbrev f_strings_Count : Nat := 50
abbrev f_strings_LastIndexByte : Nat := 51
abbrev f_spans_May : Nat := 52
abbrev f_spans_Without : Nat := 53
abbrev f_ref_SpansMay : Nat := 54
abbrev f_ref_inSet : Nat := 55
abbrev f_ref_setOf : Nat := 56
abbrev f_spans_fault : Nat := 57
abbrev f_spans_full : Nat := 58
abbrev f_ref_spansFault : Nat := 59
abbrev f_spans_With : Nat := 60
abbrev f_spans_Shifted : Nat := 61
abbrev f_find_fault : Nat := 62
abbrev f_find_In : Nat := 63
abbrev f___strings_Builder__WriteString : Nat := 64
abbrev f___strings_Builder__Len : Nat := 65
abbrev f___strings_Builder__String : Nat := 66
abbrev f_ref_findFault : Nat := 67
abbrev f_ref_standsAt : Nat := 68
abbrev f_slices_ContainsFunc___int_int_ : Nat := 69
abbrev f_wrap_Check_1 : Nat := 70
abbrev f_sort_SearchInts : Nat := 71
abbrev f_ref_cutLines : Nat := 72
abbrev f_slices_IndexFunc___api_Mark_api_Mark_ : Nat := 73
abbrev f_unicode_utf8_RuneCountInString : Nat := 74
abbrev f_strings_Index : Nat := 76
abbrev f_internal_bytealg_LastIndexByteString : Nat := 77
abbrev f_slices_Clone___api_Span_api_Span_ : Nat := 78
abbrev f_slices_DeleteFunc___api_Span_api_Span_ : Nat := 79
abbrev f_spans_Without_1 : Nat := 80
abbrev f_slices_BinarySearchFunc___api_Span_api_Span_int_ : Nat := 81
abbrev f_spans_With_1 : Nat := 82
abbrev f_spans_Joined : Nat := 83
abbrev f_slices_Insert___api_Span_api_Span_ : Nat := 84
abbrev f_find_border : Nat := 85
abbrev f___strings_Builder__copyCheck : Nat := 86
abbrev f_slices_IndexFunc___int_int_ : Nat := 87
abbrev f_sort_Search : Nat := 88
abbrev f_sort_SearchInts_1 : Nat := 89
abbrev f_internal_stringslite_Index : Nat := 90
abbrev f_slices_IndexFunc___api_Span_api_Span_ : Nat := 91
abbrev f_slices_rotateRight_api_Span_ : Nat := 93
abbrev f_internal_stringslite_IndexByte : Nat := 95
abbrev f_internal_bytealg_Cutover : Nat := 97
abbrev f_internal_bytealg_IndexRabinKarp_string_ : Nat := 98
abbrev f_slices_rotateLeft_api_Span_ : Nat := 99
abbrev f_internal_bytealg_hashStr_string_ : Nat := 101
abbrev f_slices_Reverse___api_Span_api_Span_ : Nat := 102

/-- fustian/edit.Check: slots [0 size, 1 e, 2 size, 3 e] -/
def edit_Check_c : SCode :=
  (.seq (.ops [⟨(some 3), .box 0 (.t 1), none, false⟩,
    ⟨(some 4), .mov (.c (.int .i64 0)), none, false⟩] none [0, 3])
  (.seq (.block 0 (.seq (.ops [⟨(some 6), .mov (.t 0), none, false⟩,
    ⟨(some 7), .bin .none .lss (.t 6) (.c (.int .i64 0)), none, false⟩,
    ⟨(some 8), .mov (.t 7), none, true⟩,
    ⟨(some 9), .mov (.t 0), (some (8, false)), false⟩,
    ⟨(some 10), .bin .none .gtr (.t 9) (.c (.int .i64 600)), (some (8, false)), false⟩,
    ⟨(some 11), .pick (.t 8) (.c (.bool true)) (.t 10), none, false⟩,
    ⟨(some 12), .mov (.t 11), none, true⟩,
    ⟨(some 13), .faddr 0 (.t 3), (some (12, false)), false⟩,
    ⟨(some 14), .load 1 false (.t 13), (some (12, false)), false⟩,
    ⟨(some 15), .bin .none .lss (.t 14) (.c (.int .i64 0)), (some (12, false)), false⟩,
    ⟨(some 16), .pick (.t 12) (.c (.bool true)) (.t 15), none, false⟩,
    ⟨(some 17), .mov (.t 16), none, true⟩,
    ⟨(some 18), .faddr 0 (.t 3), (some (17, false)), false⟩,
    ⟨(some 19), .load 1 false (.t 18), (some (17, false)), false⟩,
    ⟨(some 20), .mov (.t 0), (some (17, false)), false⟩,
    ⟨(some 21), .bin .none .gtr (.t 19) (.t 20), (some (17, false)), false⟩,
    ⟨(some 22), .pick (.t 17) (.c (.bool true)) (.t 21), none, false⟩,
    ⟨(some 23), .mov (.t 22), none, true⟩,
    ⟨(some 24), .faddr 1 (.t 3), (some (23, false)), false⟩,
    ⟨(some 25), .load 1 false (.t 24), (some (23, false)), false⟩,
    ⟨(some 26), .bin .none .lss (.t 25) (.c (.int .i64 0)), (some (23, false)), false⟩,
    ⟨(some 27), .pick (.t 23) (.c (.bool true)) (.t 26), none, false⟩,
    ⟨(some 28), .mov (.t 27), none, true⟩,
    ⟨(some 29), .faddr 1 (.t 3), (some (28, false)), false⟩,
    ⟨(some 30), .load 1 false (.t 29), (some (28, false)), false⟩,
    ⟨(some 31), .mov (.t 0), (some (28, false)), false⟩,
    ⟨(some 32), .faddr 0 (.t 3), (some (28, false)), false⟩,
    ⟨(some 33), .load 1 false (.t 32), (some (28, false)), false⟩,
    ⟨(some 34), .bin .none .sub (.t 31) (.t 33), (some (28, false)), false⟩,
    ⟨(some 35), .bin .none .gtr (.t 30) (.t 34), (some (28, false)), false⟩,
    ⟨(some 36), .pick (.t 28) (.c (.bool true)) (.t 35), none, false⟩,
    ⟨(some 5), .mov (.t 36), none, false⟩] none [0, 3, 5])
  (.cond (.t 5)
    (.seq (.ops [⟨(some 4), .mov (.c (.int .i64 2)), none, false⟩] none [4])
    .ret)
    (.seq (.ops [⟨(some 38), .mov (.t 0), none, false⟩,
      ⟨(some 39), .faddr 1 (.t 3), none, false⟩,
      ⟨(some 40), .load 1 false (.t 39), none, false⟩,
      ⟨(some 41), .bin .none .sub (.t 38) (.t 40), none, false⟩,
      ⟨(some 42), .faddr 2 (.t 3), none, false⟩,
      ⟨(some 43), .load 1 false (.t 42), none, false⟩,
      ⟨(some 44), .len true (.t 43), none, false⟩,
      ⟨(some 45), .bin .none .add (.t 41) (.t 44), none, false⟩,
      ⟨(some 46), .bin .none .gtr (.t 45) (.c (.int .i64 600)), none, false⟩,
      ⟨(some 37), .mov (.t 46), none, false⟩] none [37])
    (.cond (.t 37)
      (.seq (.ops [⟨(some 4), .mov (.c (.int .i64 1)), none, false⟩] none [4])
      .ret)
      .skip)))))
  (.seq (.ops [⟨(some 4), .mov (.c (.int .i64 0)), none, false⟩] none [4])
  .ret)))
def edit_Check_r : List RRes := [.tmp 4]
def edit_Check_hi : Hi := ⟨[(3, (.st (.cons (.int .i64) (.cons (.int .i64) (.cons .str .nil)))))], [(0, "size"), (1, "e"), (2, "size"), (3, "e")]⟩
def edit_Check_an : An := .d
def edit_Check_fi : Fi := ⟨47, edit_Check_c, edit_Check_r, edit_Check_an, edit_Check_hi⟩
theorem edit_Check_ok : FiOk Try.prog f_edit_Check edit_Check_fi :=
  ⟨by kernel_rfl, fun h hlen => fun_sound (fn := Try.f39) (draw_sound _ _) Try.func39 rfl (by kernel_rfl : comp Try.prog 47 _ edit_Check_c = some edit_Check_c) (by kernel_rfl : cRes Try.prog Try.f39.results.toList = some edit_Check_r) hlen h⟩

/-- fustian/edit.Moved: slots [0 e, 1 at, 2 right, 3 e, 4 at, 5 right] -/
def edit_Moved_c : SCode :=
  (.seq (.ops [⟨(some 3), .box 0 (.t 0), none, false⟩,
    ⟨(some 6), .mov (.c (.int .i64 0)), none, false⟩] none [1, 2, 3])
  (.seq (.block 0 (.seq (.ops [⟨(some 8), .mov (.t 1), none, false⟩,
    ⟨(some 9), .faddr 0 (.t 3), none, false⟩,
    ⟨(some 10), .load 1 false (.t 9), none, false⟩,
    ⟨(some 11), .bin .none .lss (.t 8) (.t 10), none, false⟩,
    ⟨(some 7), .mov (.t 11), none, false⟩] none [1, 2, 3, 7])
  (.cond (.t 7)
    (.seq (.ops [⟨(some 12), .mov (.t 1), none, false⟩,
      ⟨(some 6), .mov (.t 12), none, false⟩] none [6])
    .ret)
    (.join [1, 2, 3] [13] 1 (.seq (.ops [⟨(some 14), .faddr 1 (.t 3), none, false⟩,
        ⟨(some 15), .load 1 false (.t 14), none, false⟩,
        ⟨(some 16), .bin .none .eql (.t 15) (.c (.int .i64 0)), none, false⟩,
        ⟨(some 17), .mov (.t 16), none, true⟩,
        ⟨(some 18), .mov (.t 1), (some (17, true)), false⟩,
        ⟨(some 19), .faddr 0 (.t 3), (some (17, true)), false⟩,
        ⟨(some 20), .load 1 false (.t 19), (some (17, true)), false⟩,
        ⟨(some 21), .bin .none .gtr (.t 18) (.t 20), (some (17, true)), false⟩,
        ⟨(some 22), .pick (.t 17) (.t 21) (.c (.bool false)), none, false⟩,
        ⟨(some 13), .mov (.t 22), none, false⟩] none [1, 2, 3, 13])
      (.cond (.t 13)
        .skip
        (.ops [⟨(some 23), .faddr 1 (.t 3), none, false⟩,
          ⟨(some 24), .load 1 false (.t 23), none, false⟩,
          ⟨(some 25), .bin .none .gtr (.t 24) (.c (.int .i64 0)), none, false⟩,
          ⟨(some 26), .mov (.t 25), none, true⟩,
          ⟨(some 27), .mov (.t 1), (some (26, true)), false⟩,
          ⟨(some 28), .faddr 0 (.t 3), (some (26, true)), false⟩,
          ⟨(some 29), .load 1 false (.t 28), (some (26, true)), false⟩,
          ⟨(some 30), .faddr 1 (.t 3), (some (26, true)), false⟩,
          ⟨(some 31), .load 1 false (.t 30), (some (26, true)), false⟩,
          ⟨(some 32), .bin .none .add (.t 29) (.t 31), (some (26, true)), false⟩,
          ⟨(some 33), .bin .none .geq (.t 27) (.t 32), (some (26, true)), false⟩,
          ⟨(some 34), .pick (.t 26) (.t 33) (.c (.bool false)), none, false⟩,
          ⟨(some 13), .mov (.t 34), none, false⟩] none [1, 2, 3, 13])))
    (.cond (.t 13)
      (.seq (.ops [⟨(some 35), .mov (.t 1), none, false⟩,
        ⟨(some 36), .faddr 2 (.t 3), none, false⟩,
        ⟨(some 37), .load 1 false (.t 36), none, false⟩,
        ⟨(some 38), .len true (.t 37), none, false⟩,
        ⟨(some 39), .bin .none .add (.t 35) (.t 38), none, false⟩,
        ⟨(some 40), .faddr 1 (.t 3), none, false⟩,
        ⟨(some 41), .load 1 false (.t 40), none, false⟩,
        ⟨(some 42), .bin .none .sub (.t 39) (.t 41), none, false⟩,
        ⟨(some 6), .mov (.t 42), none, false⟩] none [6])
      .ret)
      (.seq (.ops [⟨(some 44), .mov (.t 2), none, false⟩,
        ⟨(some 43), .mov (.t 44), none, false⟩] none [3, 43])
      (.cond (.t 43)
        (.seq (.ops [⟨(some 45), .faddr 0 (.t 3), none, false⟩,
          ⟨(some 46), .load 1 false (.t 45), none, false⟩,
          ⟨(some 47), .faddr 2 (.t 3), none, false⟩,
          ⟨(some 48), .load 1 false (.t 47), none, false⟩,
          ⟨(some 49), .len true (.t 48), none, false⟩,
          ⟨(some 50), .bin .none .add (.t 46) (.t 49), none, false⟩,
          ⟨(some 6), .mov (.t 50), none, false⟩] none [6])
        .ret)
        .skip)))))))
  (.seq (.ops [⟨(some 51), .faddr 0 (.t 3), none, false⟩,
    ⟨(some 52), .load 1 false (.t 51), none, false⟩,
    ⟨(some 6), .mov (.t 52), none, false⟩] none [6])
  .ret)))
def edit_Moved_r : List RRes := [.tmp 6]
def edit_Moved_hi : Hi := ⟨[(3, (.st (.cons (.int .i64) (.cons (.int .i64) (.cons .str .nil)))))], [(0, "e"), (1, "at"), (2, "right"), (3, "e"), (4, "at"), (5, "right")]⟩
def edit_Moved_an : An := .d
def edit_Moved_fi : Fi := ⟨53, edit_Moved_c, edit_Moved_r, edit_Moved_an, edit_Moved_hi⟩
theorem edit_Moved_ok : FiOk Try.prog f_edit_Moved edit_Moved_fi :=
  ⟨by kernel_rfl, fun h hlen => fun_sound (fn := Try.f48) (draw_sound _ _) Try.func48 rfl (by kernel_rfl : comp Try.prog 53 _ edit_Moved_c = some edit_Moved_c) (by kernel_rfl : cRes Try.prog Try.f48.results.toList = some edit_Moved_r) hlen h⟩

/-- slices.Clone[[]fustian/api.Mark,fustian/api.Mark]: slots [0 s, 1 s] -/
def slices_Clone___api_Mark_api_Mark__c : SCode :=
  (.seq (.ops [⟨(some 2), .mov (.c .nils), none, false⟩] none [0])
  (.seq (.seq (.ops [⟨(some 3), .mov (.t 0), none, false⟩,
    ⟨(some 4), .isnil false (.t 3), none, false⟩] none [0, 4])
  (.cond (.t 4)
    (.seq (.ops [⟨(some 2), .mov (.c .nils), none, false⟩] none [2])
    .ret)
    .skip))
  (.seq (.ops [⟨(some 5), .bslice false 0 2 [] [], none, false⟩,
    ⟨(some 6), .mov (.t 0), none, false⟩,
    ⟨(some 7), .append 2 16 (.t 5) (.t 6), none, false⟩,
    ⟨(some 2), .mov (.t 7), none, false⟩] none [2])
  .ret)))
def slices_Clone___api_Mark_api_Mark__r : List RRes := [.tmp 2]
def slices_Clone___api_Mark_api_Mark__hi : Hi := ⟨[(5, (.st (.cons (.int .i64) (.cons .bool .nil)))), (7, (.st (.cons (.int .i64) (.cons .bool .nil))))], [(0, "s"), (1, "s")]⟩
def slices_Clone___api_Mark_api_Mark__an : An := .d
def slices_Clone___api_Mark_api_Mark__fi : Fi := ⟨8, slices_Clone___api_Mark_api_Mark__c, slices_Clone___api_Mark_api_Mark__r, slices_Clone___api_Mark_api_Mark__an, slices_Clone___api_Mark_api_Mark__hi⟩
theorem slices_Clone___api_Mark_api_Mark__ok : FiOk Try.prog f_slices_Clone___api_Mark_api_Mark_ slices_Clone___api_Mark_api_Mark__fi :=
  ⟨by kernel_rfl, fun h hlen => fun_sound (fn := Try.f47) (draw_sound _ _) Try.func47 rfl (by kernel_rfl : comp Try.prog 8 _ slices_Clone___api_Mark_api_Mark__c = some slices_Clone___api_Mark_api_Mark__c) (by kernel_rfl : cRes Try.prog Try.f47.results.toList = some slices_Clone___api_Mark_api_Mark__r) hlen h⟩

/-- fustian/marks.Move: slots [0 size, 1 ms, 2 l, 3 size, 4 ms, 5 l, 8 e, 9 out, 10 _, 11 x, 12 e, 13 i] -/
def marks_Move_c : SCode :=
  (.seq (.ops [⟨(some 3), .box 0 (.t 0), none, false⟩,
    ⟨(some 6), .mov (.c .nils), none, false⟩,
    ⟨(some 7), .mov (.c (.int .i64 0)), none, false⟩] none [1, 2, 3])
  (.seq (.block 0 (.seq (.ops [⟨(some 15), .mov (.t 1), none, false⟩,
    ⟨(some 16), .len false (.t 15), none, false⟩,
    ⟨(some 17), .bin .none .gtr (.t 16) (.c (.int .i64 60)), none, false⟩,
    ⟨(some 18), .mov (.t 17), none, true⟩,
    ⟨(some 19), .mov (.t 2), (some (18, false)), false⟩,
    ⟨(some 20), .len false (.t 19), (some (18, false)), false⟩,
    ⟨(some 21), .bin .none .gtr (.t 20) (.c (.int .i64 60)), (some (18, false)), false⟩,
    ⟨(some 22), .pick (.t 18) (.c (.bool true)) (.t 21), none, false⟩,
    ⟨(some 14), .mov (.t 22), none, false⟩] none [1, 2, 3, 14])
  (.cond (.t 14)
    (.seq (.ops [⟨(some 6), .mov (.c .nils), none, false⟩,
      ⟨(some 7), .mov (.c (.int .i64 1)), none, false⟩] none [6, 7])
    .ret)
    (.seq (.ops [⟨(some 24), .mov (.t 1), none, false⟩,
      ⟨(some 25), .mkfunc (.func f_marks_Move_1) [] [(.t 3)], none, false⟩,
      ⟨(some 26), .call f_slices_ContainsFunc___api_Mark_api_Mark_ [(.t 24), (.t 25)], none, false⟩,
      ⟨(some 23), .mov (.t 26), none, false⟩] none [1, 2, 3, 23])
    (.cond (.t 23)
      (.seq (.ops [⟨(some 6), .mov (.c .nils), none, false⟩,
        ⟨(some 7), .mov (.c (.int .i64 2)), none, false⟩] none [6, 7])
      .ret)
      .skip)))))
  (.seq (.seq (.ops [⟨(some 27), .load 1 false (.t 3), none, false⟩,
    ⟨(some 28), .build [(.int .i64 0), (.int .i64 0), (.str [])] [], none, false⟩,
    ⟨(some 29), .call f_edit_Check [(.t 27), (.t 28)], none, false⟩,
    ⟨(some 8), .mov (.t 29), none, false⟩] none [1, 2, 3, 8])
  (.seq (.ops [⟨(some 30), .mov (.t 8), none, false⟩,
    ⟨(some 31), .bin .none .neq (.t 30) (.c (.int .i64 0)), none, false⟩] none [1, 2, 3, 8, 31])
  (.cond (.t 31)
    (.seq (.ops [⟨(some 32), .mov (.t 8), none, false⟩,
      ⟨(some 6), .mov (.c .nils), none, false⟩,
      ⟨(some 7), .mov (.t 32), none, false⟩] none [6, 7])
    .ret)
    .skip)))
  (.seq (.ops [⟨(some 33), .mov (.t 1), none, false⟩,
    ⟨(some 34), .call f_slices_Clone___api_Mark_api_Mark_ [(.t 33)], none, false⟩,
    ⟨(some 9), .mov (.t 34), none, false⟩] none [2, 3, 9])
  (.seq (.seq (.ops [⟨(some 35), .mov (.t 2), none, false⟩,
    ⟨(some 36), .len false (.t 35), none, false⟩,
    ⟨(some 37), .mov (.c (.int .i64 0)), none, false⟩] none [3, 9, 35, 36, 37])
  (.block 1 (.loop [3, 9, 35, 36] [37] 1
    (.seq (.ops [⟨(some 38), .bin .none .lss (.t 37) (.t 36), none, false⟩] none [3, 9, 35, 36, 37, 38])
    (.seq (.cond (.t 38)
      .skip
      (.exit 1))
    (.seq (.block 2 (.seq (.ops [⟨(some 39), .iaddr 3 none (.t 35) (.t 37), none, false⟩,
      ⟨(some 40), .load 3 true (.t 39), none, false⟩,
      ⟨(some 11), .alloc 0 [(.int .i64 0), (.int .i64 0), (.str [])], none, false⟩,
      ⟨none, .store 3 (.t 11) (.t 40), none, false⟩] none [3, 9, 11, 35, 36, 37])
    (.seq (.seq (.ops [⟨(some 41), .load 1 false (.t 3), none, false⟩,
      ⟨(some 42), .load 3 true (.t 11), none, false⟩,
      ⟨(some 43), .call f_edit_Check [(.t 41), (.t 42)], none, false⟩,
      ⟨(some 12), .mov (.t 43), none, false⟩] none [3, 9, 11, 12, 35, 36, 37])
    (.seq (.ops [⟨(some 44), .mov (.t 12), none, false⟩,
      ⟨(some 45), .bin .none .neq (.t 44) (.c (.int .i64 0)), none, false⟩] none [3, 9, 11, 12, 35, 36, 37, 45])
    (.cond (.t 45)
      (.seq (.ops [⟨(some 46), .mov (.t 12), none, false⟩,
        ⟨(some 6), .mov (.c .nils), none, false⟩,
        ⟨(some 7), .mov (.t 46), none, false⟩] none [6, 7])
      .ret)
      .skip)))
    (.seq (.ops [⟨(some 47), .load 1 false (.t 3), none, false⟩,
      ⟨(some 48), .faddr 2 (.t 11), none, false⟩,
      ⟨(some 49), .load 1 false (.t 48), none, false⟩,
      ⟨(some 50), .len true (.t 49), none, false⟩,
      ⟨(some 51), .faddr 1 (.t 11), none, false⟩,
      ⟨(some 52), .load 1 false (.t 51), none, false⟩,
      ⟨(some 53), .bin .none .sub (.t 50) (.t 52), none, false⟩,
      ⟨(some 54), .bin .none .add (.t 47) (.t 53), none, false⟩,
      ⟨none, .store 1 (.t 3) (.t 54), none, false⟩] none [3, 9, 11, 35, 36, 37])
    (.seq (.ops [⟨(some 55), .mov (.t 9), none, false⟩,
      ⟨(some 56), .len false (.t 55), none, false⟩,
      ⟨(some 57), .mov (.c (.int .i64 0)), none, false⟩] none [3, 9, 11, 35, 36, 37, 56, 57])
    (.block 3 (.loop [3, 9, 11, 35, 36, 37, 56] [57] 2
      (.seq (.ops [⟨(some 58), .bin .none .lss (.t 57) (.t 56), none, false⟩] none [3, 9, 11, 35, 36, 37, 56, 57, 58])
      (.seq (.cond (.t 58)
        .skip
        (.exit 3))
      (.seq (.block 4 (.seq (.ops [⟨(some 59), .mov (.t 57), none, false⟩,
        ⟨(some 13), .mov (.t 59), none, false⟩] none [3, 9, 11, 13, 35, 36, 37, 56, 57])
      (.ops [⟨(some 60), .mov (.t 9), none, false⟩,
        ⟨(some 61), .mov (.t 13), none, false⟩,
        ⟨(some 62), .load 3 true (.t 11), none, false⟩,
        ⟨(some 63), .mov (.t 9), none, false⟩,
        ⟨(some 64), .mov (.t 13), none, false⟩,
        ⟨(some 65), .iaddr 2 none (.t 63) (.t 64), none, false⟩,
        ⟨(some 66), .faddr 0 (.t 65), none, false⟩,
        ⟨(some 67), .load 1 false (.t 66), none, false⟩,
        ⟨(some 68), .mov (.t 9), none, false⟩,
        ⟨(some 69), .mov (.t 13), none, false⟩,
        ⟨(some 70), .iaddr 2 none (.t 68) (.t 69), none, false⟩,
        ⟨(some 71), .faddr 1 (.t 70), none, false⟩,
        ⟨(some 72), .load 1 false (.t 71), none, false⟩,
        ⟨(some 73), .call f_edit_Moved [(.t 62), (.t 67), (.t 72)], none, false⟩,
        ⟨(some 74), .iaddr 2 none (.t 60) (.t 61), none, false⟩,
        ⟨(some 75), .faddr 0 (.t 74), none, false⟩,
        ⟨none, .store 1 (.t 75) (.t 73), none, false⟩] (some (0, 0, [0, 1, 2, 3, 4, 5, 6, 7, 8, 9, 10, 11, 12, 13, 14, 15, 16])) [3, 9, 11, 35, 36, 37, 56, 57])))
      (.ops [⟨(some 76), .bin .none .add (.t 57) (.c (.int .i64 1)), none, false⟩,
        ⟨(some 57), .mov (.t 76), none, false⟩] none [3, 9, 11, 35, 36, 37, 56, 57])))))))))))
    (.ops [⟨(some 77), .bin .none .add (.t 37) (.c (.int .i64 1)), none, false⟩,
      ⟨(some 37), .mov (.t 77), none, false⟩] none [3, 9, 35, 36, 37])))))))
  (.seq (.ops [⟨(some 78), .mov (.t 9), none, false⟩,
    ⟨(some 6), .mov (.t 78), none, false⟩,
    ⟨(some 7), .mov (.c (.int .i64 0)), none, false⟩] none [6, 7])
  .ret))))))
def marks_Move_r : List RRes := [.tmp 6, .tmp 7]
def marks_Move_hi : Hi := ⟨[(11, (.st (.cons (.int .i64) (.cons (.int .i64) (.cons .str .nil)))))], [(0, "size"), (1, "ms"), (2, "l"), (3, "size"), (4, "ms"), (5, "l"), (8, "e"), (9, "out"), (11, "x"), (12, "e"), (13, "i")]⟩
def marks_Move_an : An := (.seq .d (.seq .d (.seq .d (.seq .d (.seq (.seq .d (.loop [3, 9] [] [] (.seq .d (.seq .d (.seq (.seq .d (.seq .d (.seq .d (.seq .d (.loop [9] [] [] .d))))) .d))))) .d)))))
def marks_Move_fi : Fi := ⟨79, marks_Move_c, marks_Move_r, marks_Move_an, marks_Move_hi⟩
theorem marks_Move_ok : FiOk Try.prog f_marks_Move marks_Move_fi :=
  ⟨by kernel_rfl, fun h hlen => fun_sound (fn := Try.f18) (draw_sound _ _) Try.func18 rfl (by kernel_rfl : comp Try.prog 79 _ marks_Move_c = some marks_Move_c) (by kernel_rfl : cRes Try.prog Try.f18.results.toList = some marks_Move_r) hlen h⟩

/-- fustian/fustianref.EditFault: slots [0 size, 1 e, 2 size, 3 e] -/
def ref_EditFault_c : SCode :=
  (.seq (.ops [⟨(some 3), .box 0 (.t 1), none, false⟩,
    ⟨(some 4), .mov (.c (.int .i64 0)), none, false⟩] none [0, 3])
  (.seq (.seq (.ops [⟨(some 5), .mov (.t 0), none, false⟩,
    ⟨(some 6), .bin .none .lss (.t 5) (.c (.int .i64 0)), none, false⟩,
    ⟨(some 7), .mov (.t 6), none, true⟩,
    ⟨(some 8), .mov (.t 0), (some (7, false)), false⟩,
    ⟨(some 9), .bin .none .gtr (.t 8) (.c (.int .i64 600)), (some (7, false)), false⟩,
    ⟨(some 10), .pick (.t 7) (.c (.bool true)) (.t 9), none, false⟩,
    ⟨(some 11), .mov (.t 10), none, true⟩,
    ⟨(some 12), .faddr 0 (.t 3), (some (11, false)), false⟩,
    ⟨(some 13), .load 1 false (.t 12), (some (11, false)), false⟩,
    ⟨(some 14), .bin .none .lss (.t 13) (.c (.int .i64 0)), (some (11, false)), false⟩,
    ⟨(some 15), .pick (.t 11) (.c (.bool true)) (.t 14), none, false⟩,
    ⟨(some 16), .mov (.t 15), none, true⟩,
    ⟨(some 17), .faddr 1 (.t 3), (some (16, false)), false⟩,
    ⟨(some 18), .load 1 false (.t 17), (some (16, false)), false⟩,
    ⟨(some 19), .bin .none .lss (.t 18) (.c (.int .i64 0)), (some (16, false)), false⟩,
    ⟨(some 20), .pick (.t 16) (.c (.bool true)) (.t 19), none, false⟩,
    ⟨(some 21), .mov (.t 20), none, true⟩,
    ⟨(some 22), .faddr 0 (.t 3), (some (21, false)), false⟩,
    ⟨(some 23), .load 1 false (.t 22), (some (21, false)), false⟩,
    ⟨(some 24), .mov (.t 0), (some (21, false)), false⟩,
    ⟨(some 25), .bin .none .gtr (.t 23) (.t 24), (some (21, false)), false⟩,
    ⟨(some 26), .pick (.t 21) (.c (.bool true)) (.t 25), none, false⟩,
    ⟨(some 27), .mov (.t 26), none, true⟩,
    ⟨(some 28), .faddr 1 (.t 3), (some (27, false)), false⟩,
    ⟨(some 29), .load 1 false (.t 28), (some (27, false)), false⟩,
    ⟨(some 30), .mov (.t 0), (some (27, false)), false⟩,
    ⟨(some 31), .bin .none .gtr (.t 29) (.t 30), (some (27, false)), false⟩,
    ⟨(some 32), .pick (.t 27) (.c (.bool true)) (.t 31), none, false⟩,
    ⟨(some 33), .mov (.t 32), none, true⟩,
    ⟨(some 34), .faddr 0 (.t 3), (some (33, false)), false⟩,
    ⟨(some 35), .load 1 false (.t 34), (some (33, false)), false⟩,
    ⟨(some 36), .faddr 1 (.t 3), (some (33, false)), false⟩,
    ⟨(some 37), .load 1 false (.t 36), (some (33, false)), false⟩,
    ⟨(some 38), .bin .none .add (.t 35) (.t 37), (some (33, false)), false⟩,
    ⟨(some 39), .mov (.t 0), (some (33, false)), false⟩,
    ⟨(some 40), .bin .none .gtr (.t 38) (.t 39), (some (33, false)), false⟩,
    ⟨(some 41), .pick (.t 33) (.c (.bool true)) (.t 40), none, false⟩] none [0, 3, 41])
  (.cond (.t 41)
    (.seq (.ops [⟨(some 4), .mov (.c (.int .i64 2)), none, false⟩] none [4])
    .ret)
    .skip))
  (.seq (.seq (.ops [⟨(some 42), .mov (.t 0), none, false⟩,
    ⟨(some 43), .faddr 2 (.t 3), none, false⟩,
    ⟨(some 44), .load 1 false (.t 43), none, false⟩,
    ⟨(some 45), .len true (.t 44), none, false⟩,
    ⟨(some 46), .bin .none .add (.t 42) (.t 45), none, false⟩,
    ⟨(some 47), .faddr 1 (.t 3), none, false⟩,
    ⟨(some 48), .load 1 false (.t 47), none, false⟩,
    ⟨(some 49), .bin .none .sub (.t 46) (.t 48), none, false⟩,
    ⟨(some 50), .bin .none .gtr (.t 49) (.c (.int .i64 600)), none, false⟩] none [50])
  (.cond (.t 50)
    (.seq (.ops [⟨(some 4), .mov (.c (.int .i64 1)), none, false⟩] none [4])
    .ret)
    .skip))
  (.seq (.ops [⟨(some 4), .mov (.c (.int .i64 0)), none, false⟩] none [4])
  .ret))))
def ref_EditFault_r : List RRes := [.tmp 4]
def ref_EditFault_hi : Hi := ⟨[(3, (.st (.cons (.int .i64) (.cons (.int .i64) (.cons .str .nil)))))], [(0, "size"), (1, "e"), (2, "size"), (3, "e")]⟩
def ref_EditFault_an : An := .d
def ref_EditFault_fi : Fi := ⟨51, ref_EditFault_c, ref_EditFault_r, ref_EditFault_an, ref_EditFault_hi⟩
theorem ref_EditFault_ok : FiOk Try.prog f_ref_EditFault ref_EditFault_fi :=
  ⟨by kernel_rfl, fun h hlen => fun_sound (fn := Try.f42) (draw_sound _ _) Try.func42 rfl (by kernel_rfl : comp Try.prog 51 _ ref_EditFault_c = some ref_EditFault_c) (by kernel_rfl : cRes Try.prog Try.f42.results.toList = some ref_EditFault_r) hlen h⟩

/-- fustian/fustianref.editPlace: slots [0 e, 1 at, 2 right, 3 e, 4 at, 5 right] -/
def ref_editPlace_c : SCode :=
  (.seq (.ops [⟨(some 3), .box 0 (.t 0), none, false⟩,
    ⟨(some 6), .mov (.c (.int .i64 0)), none, false⟩] none [1, 2, 3])
  (.seq (.seq (.ops [⟨(some 7), .mov (.t 1), none, false⟩,
    ⟨(some 8), .faddr 0 (.t 3), none, false⟩,
    ⟨(some 9), .load 1 false (.t 8), none, false⟩,
    ⟨(some 10), .bin .none .lss (.t 7) (.t 9), none, false⟩] none [1, 2, 3, 10])
  (.cond (.t 10)
    (.seq (.ops [⟨(some 11), .mov (.t 1), none, false⟩,
      ⟨(some 6), .mov (.t 11), none, false⟩] none [6])
    .ret)
    .skip))
  (.seq (.seq (.ops [⟨(some 12), .mov (.t 1), none, false⟩,
    ⟨(some 13), .faddr 0 (.t 3), none, false⟩,
    ⟨(some 14), .load 1 false (.t 13), none, false⟩,
    ⟨(some 15), .faddr 1 (.t 3), none, false⟩,
    ⟨(some 16), .load 1 false (.t 15), none, false⟩,
    ⟨(some 17), .bin .none .add (.t 14) (.t 16), none, false⟩,
    ⟨(some 18), .bin .none .geq (.t 12) (.t 17), none, false⟩,
    ⟨(some 19), .mov (.t 18), none, true⟩,
    ⟨(some 20), .faddr 1 (.t 3), (some (19, true)), false⟩,
    ⟨(some 21), .load 1 false (.t 20), (some (19, true)), false⟩,
    ⟨(some 22), .bin .none .eql (.t 21) (.c (.int .i64 0)), (some (19, true)), false⟩,
    ⟨(some 23), .mov (.t 22), (some (19, true)), true⟩,
    ⟨(some 24), .mov (.t 1), (some (23, true)), false⟩,
    ⟨(some 25), .faddr 0 (.t 3), (some (23, true)), false⟩,
    ⟨(some 26), .load 1 false (.t 25), (some (23, true)), false⟩,
    ⟨(some 27), .bin .none .eql (.t 24) (.t 26), (some (23, true)), false⟩,
    ⟨(some 28), .pick (.t 23) (.t 27) (.c (.bool false)), (some (19, true)), false⟩,
    ⟨(some 29), .not (.t 28), (some (19, true)), false⟩,
    ⟨(some 30), .pick (.t 19) (.t 29) (.c (.bool false)), none, false⟩] none [1, 2, 3, 30])
  (.cond (.t 30)
    (.seq (.ops [⟨(some 31), .mov (.t 1), none, false⟩,
      ⟨(some 32), .faddr 1 (.t 3), none, false⟩,
      ⟨(some 33), .load 1 false (.t 32), none, false⟩,
      ⟨(some 34), .bin .none .sub (.t 31) (.t 33), none, false⟩,
      ⟨(some 35), .faddr 2 (.t 3), none, false⟩,
      ⟨(some 36), .load 1 false (.t 35), none, false⟩,
      ⟨(some 37), .len true (.t 36), none, false⟩,
      ⟨(some 38), .bin .none .add (.t 34) (.t 37), none, false⟩,
      ⟨(some 6), .mov (.t 38), none, false⟩] none [6])
    .ret)
    .skip))
  (.seq (.seq (.ops [⟨(some 39), .mov (.t 2), none, false⟩] none [3, 39])
  (.cond (.t 39)
    (.seq (.ops [⟨(some 40), .faddr 0 (.t 3), none, false⟩,
      ⟨(some 41), .load 1 false (.t 40), none, false⟩,
      ⟨(some 42), .faddr 2 (.t 3), none, false⟩,
      ⟨(some 43), .load 1 false (.t 42), none, false⟩,
      ⟨(some 44), .len true (.t 43), none, false⟩,
      ⟨(some 45), .bin .none .add (.t 41) (.t 44), none, false⟩,
      ⟨(some 6), .mov (.t 45), none, false⟩] none [6])
    .ret)
    .skip))
  (.seq (.ops [⟨(some 46), .faddr 0 (.t 3), none, false⟩,
    ⟨(some 47), .load 1 false (.t 46), none, false⟩,
    ⟨(some 6), .mov (.t 47), none, false⟩] none [6])
  .ret)))))
def ref_editPlace_r : List RRes := [.tmp 6]
def ref_editPlace_hi : Hi := ⟨[(3, (.st (.cons (.int .i64) (.cons (.int .i64) (.cons .str .nil)))))], [(0, "e"), (1, "at"), (2, "right"), (3, "e"), (4, "at"), (5, "right")]⟩
def ref_editPlace_an : An := .d
def ref_editPlace_fi : Fi := ⟨48, ref_editPlace_c, ref_editPlace_r, ref_editPlace_an, ref_editPlace_hi⟩
theorem ref_editPlace_ok : FiOk Try.prog f_ref_editPlace ref_editPlace_fi :=
  ⟨by kernel_rfl, fun h hlen => fun_sound (fn := Try.f49) (draw_sound _ _) Try.func49 rfl (by kernel_rfl : comp Try.prog 48 _ ref_editPlace_c = some ref_editPlace_c) (by kernel_rfl : cRes Try.prog Try.f49.results.toList = some ref_editPlace_r) hlen h⟩

/-- fustian/fustianref.MarksMoved: slots [0 size, 1 ms, 2 l, 3 size, 4 ms, 5 l, 8 _, 9 m, 10 _, 11 x, 12 e, 13 out, 14 _, 15 m, 16 _, 17 x] -/
def ref_MarksMoved_c : SCode :=
  (.seq (.ops [⟨(some 6), .mov (.c .nils), none, false⟩,
    ⟨(some 7), .mov (.c (.int .i64 0)), none, false⟩] none [0, 1, 2])
  (.seq (.seq (.ops [⟨(some 18), .mov (.t 1), none, false⟩,
    ⟨(some 19), .len false (.t 18), none, false⟩,
    ⟨(some 20), .bin .none .gtr (.t 19) (.c (.int .i64 60)), none, false⟩,
    ⟨(some 21), .mov (.t 20), none, true⟩,
    ⟨(some 22), .mov (.t 2), (some (21, false)), false⟩,
    ⟨(some 23), .len false (.t 22), (some (21, false)), false⟩,
    ⟨(some 24), .bin .none .gtr (.t 23) (.c (.int .i64 60)), (some (21, false)), false⟩,
    ⟨(some 25), .pick (.t 21) (.c (.bool true)) (.t 24), none, false⟩] none [0, 1, 2, 25])
  (.cond (.t 25)
    (.seq (.ops [⟨(some 6), .mov (.c .nils), none, false⟩,
      ⟨(some 7), .mov (.c (.int .i64 1)), none, false⟩] none [6, 7])
    .ret)
    .skip))
  (.seq (.seq (.ops [⟨(some 26), .mov (.t 1), none, false⟩,
    ⟨(some 27), .len false (.t 26), none, false⟩,
    ⟨(some 28), .mov (.c (.int .i64 0)), none, false⟩] none [0, 1, 2, 26, 27, 28])
  (.block 0 (.loop [0, 1, 2, 26, 27] [28] 0
    (.seq (.ops [⟨(some 29), .bin .none .lss (.t 28) (.t 27), none, false⟩] none [0, 1, 2, 26, 27, 28, 29])
    (.seq (.cond (.t 29)
      .skip
      (.exit 0))
    (.seq (.block 1 (.seq (.ops [⟨(some 30), .iaddr 2 none (.t 26) (.t 28), none, false⟩,
      ⟨(some 31), .load 2 true (.t 30), none, false⟩,
      ⟨(some 9), .alloc 0 [(.int .i64 0), (.bool false)], none, false⟩,
      ⟨none, .store 2 (.t 9) (.t 31), none, false⟩] none [0, 1, 2, 9, 26, 27, 28])
    (.seq (.ops [⟨(some 32), .faddr 0 (.t 9), none, false⟩,
      ⟨(some 33), .load 1 false (.t 32), none, false⟩,
      ⟨(some 34), .bin .none .lss (.t 33) (.c (.int .i64 0)), none, false⟩,
      ⟨(some 35), .mov (.t 34), none, true⟩,
      ⟨(some 36), .faddr 0 (.t 9), (some (35, false)), false⟩,
      ⟨(some 37), .load 1 false (.t 36), (some (35, false)), false⟩,
      ⟨(some 38), .mov (.t 0), (some (35, false)), false⟩,
      ⟨(some 39), .bin .none .gtr (.t 37) (.t 38), (some (35, false)), false⟩,
      ⟨(some 40), .pick (.t 35) (.c (.bool true)) (.t 39), none, false⟩] none [0, 1, 2, 26, 27, 28, 40])
    (.cond (.t 40)
      (.seq (.ops [⟨(some 6), .mov (.c .nils), none, false⟩,
        ⟨(some 7), .mov (.c (.int .i64 2)), none, false⟩] none [6, 7])
      .ret)
      .skip))))
    (.ops [⟨(some 41), .bin .none .add (.t 28) (.c (.int .i64 1)), none, false⟩,
      ⟨(some 28), .mov (.t 41), none, false⟩] none [0, 1, 2, 26, 27, 28])))))))
  (.seq (.seq (.ops [⟨(some 42), .mov (.t 0), none, false⟩,
    ⟨(some 43), .bin .none .lss (.t 42) (.c (.int .i64 0)), none, false⟩,
    ⟨(some 44), .mov (.t 43), none, true⟩,
    ⟨(some 45), .mov (.t 0), (some (44, false)), false⟩,
    ⟨(some 46), .bin .none .gtr (.t 45) (.c (.int .i64 600)), (some (44, false)), false⟩,
    ⟨(some 47), .pick (.t 44) (.c (.bool true)) (.t 46), none, false⟩] none [0, 1, 2, 47])
  (.cond (.t 47)
    (.seq (.ops [⟨(some 6), .mov (.c .nils), none, false⟩,
      ⟨(some 7), .mov (.c (.int .i64 2)), none, false⟩] none [6, 7])
    .ret)
    .skip))
  (.seq (.seq (.ops [⟨(some 48), .mov (.t 2), none, false⟩,
    ⟨(some 49), .len false (.t 48), none, false⟩,
    ⟨(some 50), .mov (.c (.int .i64 0)), none, false⟩] none [0, 1, 2, 48, 49, 50])
  (.block 2 (.loop [1, 2, 48, 49] [0, 50] 1
    (.seq (.ops [⟨(some 51), .bin .none .lss (.t 50) (.t 49), none, false⟩] none [0, 1, 2, 48, 49, 50, 51])
    (.seq (.cond (.t 51)
      .skip
      (.exit 2))
    (.seq (.block 3 (.seq (.ops [⟨(some 52), .iaddr 3 none (.t 48) (.t 50), none, false⟩,
      ⟨(some 53), .load 3 true (.t 52), none, false⟩,
      ⟨(some 11), .alloc 0 [(.int .i64 0), (.int .i64 0), (.str [])], none, false⟩,
      ⟨none, .store 3 (.t 11) (.t 53), none, false⟩] none [0, 1, 2, 11, 48, 49, 50])
    (.seq (.seq (.ops [⟨(some 54), .mov (.t 0), none, false⟩,
      ⟨(some 55), .load 3 true (.t 11), none, false⟩,
      ⟨(some 56), .call f_ref_EditFault [(.t 54), (.t 55)], none, false⟩,
      ⟨(some 12), .mov (.t 56), none, false⟩] none [0, 1, 2, 11, 12, 48, 49, 50])
    (.seq (.ops [⟨(some 57), .mov (.t 12), none, false⟩,
      ⟨(some 58), .bin .none .neq (.t 57) (.c (.int .i64 0)), none, false⟩] none [0, 1, 2, 11, 12, 48, 49, 50, 58])
    (.cond (.t 58)
      (.seq (.ops [⟨(some 59), .mov (.t 12), none, false⟩,
        ⟨(some 6), .mov (.c .nils), none, false⟩,
        ⟨(some 7), .mov (.t 59), none, false⟩] none [6, 7])
      .ret)
      .skip)))
    (.ops [⟨(some 60), .mov (.t 0), none, false⟩,
      ⟨(some 61), .faddr 1 (.t 11), none, false⟩,
      ⟨(some 62), .load 1 false (.t 61), none, false⟩,
      ⟨(some 63), .bin .none .sub (.t 60) (.t 62), none, false⟩,
      ⟨(some 64), .faddr 2 (.t 11), none, false⟩,
      ⟨(some 65), .load 1 false (.t 64), none, false⟩,
      ⟨(some 66), .len true (.t 65), none, false⟩,
      ⟨(some 67), .bin .none .add (.t 63) (.t 66), none, false⟩,
      ⟨(some 0), .mov (.t 67), none, false⟩] none [0, 1, 2, 48, 49, 50]))))
    (.ops [⟨(some 68), .bin .none .add (.t 50) (.c (.int .i64 1)), none, false⟩,
      ⟨(some 50), .mov (.t 68), none, false⟩] none [0, 1, 2, 48, 49, 50])))))))
  (.seq (.ops [⟨(some 13), .newnil 2, none, false⟩] none [1, 2, 13])
  (.seq (.seq (.ops [⟨(some 69), .mov (.t 1), none, false⟩,
    ⟨(some 70), .len false (.t 69), none, false⟩,
    ⟨(some 71), .mov (.c (.int .i64 0)), none, false⟩] none [2, 13, 69, 70, 71])
  (.block 4 (.loop [2, 69, 70] [13, 71] 3
    (.seq (.ops [⟨(some 72), .bin .none .lss (.t 71) (.t 70), none, false⟩] none [2, 13, 69, 70, 71, 72])
    (.seq (.cond (.t 72)
      .skip
      (.exit 4))
    (.seq (.block 5 (.seq (.ops [⟨(some 73), .iaddr 2 none (.t 69) (.t 71), none, false⟩,
      ⟨(some 74), .load 2 true (.t 73), none, false⟩,
      ⟨(some 15), .alloc 0 [(.int .i64 0), (.bool false)], none, false⟩,
      ⟨none, .store 2 (.t 15) (.t 74), none, false⟩] none [2, 13, 15, 69, 70, 71])
    (.seq (.seq (.ops [⟨(some 75), .mov (.t 2), none, false⟩,
      ⟨(some 76), .len false (.t 75), none, false⟩,
      ⟨(some 77), .mov (.c (.int .i64 0)), none, false⟩] none [2, 13, 15, 69, 70, 71, 75, 76, 77])
    (.block 6 (.loop [2, 13, 15, 69, 70, 71, 75, 76] [77] 4
      (.seq (.ops [⟨(some 78), .bin .none .lss (.t 77) (.t 76), none, false⟩] none [2, 13, 15, 69, 70, 71, 75, 76, 77, 78])
      (.seq (.cond (.t 78)
        .skip
        (.exit 6))
      (.seq (.block 7 (.seq (.ops [⟨(some 79), .iaddr 3 none (.t 75) (.t 77), none, false⟩,
        ⟨(some 80), .load 3 true (.t 79), none, false⟩,
        ⟨(some 17), .alloc 0 [(.int .i64 0), (.int .i64 0), (.str [])], none, false⟩,
        ⟨none, .store 3 (.t 17) (.t 80), none, false⟩] none [2, 13, 15, 17, 69, 70, 71, 75, 76, 77])
      (.ops [⟨(some 81), .load 3 true (.t 17), none, false⟩,
        ⟨(some 82), .faddr 0 (.t 15), none, false⟩,
        ⟨(some 83), .load 1 false (.t 82), none, false⟩,
        ⟨(some 84), .faddr 1 (.t 15), none, false⟩,
        ⟨(some 85), .load 1 false (.t 84), none, false⟩,
        ⟨(some 86), .call f_ref_editPlace [(.t 81), (.t 83), (.t 85)], none, false⟩,
        ⟨(some 87), .faddr 0 (.t 15), none, false⟩,
        ⟨none, .store 1 (.t 87) (.t 86), none, false⟩] none [2, 13, 15, 69, 70, 71, 75, 76, 77])))
      (.ops [⟨(some 88), .bin .none .add (.t 77) (.c (.int .i64 1)), none, false⟩,
        ⟨(some 77), .mov (.t 88), none, false⟩] none [2, 13, 15, 69, 70, 71, 75, 76, 77])))))))
    (.ops [⟨(some 89), .mov (.t 13), none, false⟩,
      ⟨(some 90), .load 2 true (.t 15), none, false⟩,
      ⟨(some 91), .bslice true 1 2 [(.int .i64 0), (.bool false)] [(0, 2, (.t 90))], none, false⟩,
      ⟨(some 92), .append 2 16 (.t 89) (.t 91), none, false⟩,
      ⟨(some 13), .mov (.t 92), none, false⟩] none [2, 13, 69, 70, 71]))))
    (.ops [⟨(some 93), .bin .none .add (.t 71) (.c (.int .i64 1)), none, false⟩,
      ⟨(some 71), .mov (.t 93), none, false⟩] none [2, 13, 69, 70, 71])))))))
  (.seq (.ops [⟨(some 94), .mov (.t 13), none, false⟩,
    ⟨(some 6), .mov (.t 94), none, false⟩,
    ⟨(some 7), .mov (.c (.int .i64 0)), none, false⟩] none [6, 7])
  .ret))))))))
def ref_MarksMoved_r : List RRes := [.tmp 6, .tmp 7]
def ref_MarksMoved_hi : Hi := ⟨[(13, (.st (.cons (.int .i64) (.cons .bool .nil)))), (91, (.st (.cons (.int .i64) (.cons .bool .nil)))), (92, (.st (.cons (.int .i64) (.cons .bool .nil)))), (9, (.st (.cons (.int .i64) (.cons .bool .nil)))), (11, (.st (.cons (.int .i64) (.cons (.int .i64) (.cons .str .nil))))), (15, (.st (.cons (.int .i64) (.cons .bool .nil)))), (17, (.st (.cons (.int .i64) (.cons (.int .i64) (.cons .str .nil)))))], [(0, "size"), (1, "ms"), (2, "l"), (3, "size"), (4, "ms"), (5, "l"), (9, "m"), (11, "x"), (12, "e"), (13, "out"), (15, "m"), (17, "x")]⟩
def ref_MarksMoved_an : An := (.seq .d (.seq .d (.seq (.seq .d (.loop [] [] [] .d)) (.seq .d (.seq (.seq .d (.loop [] [] [] .d)) (.seq .d (.seq (.seq .d (.loop [13] [] [] (.seq .d (.seq .d (.seq (.seq .d (.seq (.seq .d (.loop [15] [] [] .d)) .d)) .d))))) .d)))))))
def ref_MarksMoved_fi : Fi := ⟨95, ref_MarksMoved_c, ref_MarksMoved_r, ref_MarksMoved_an, ref_MarksMoved_hi⟩
theorem ref_MarksMoved_ok : FiOk Try.prog f_ref_MarksMoved ref_MarksMoved_fi :=
  ⟨by kernel_rfl, fun h hlen => fun_sound (fn := Try.f19) (draw_sound _ _) Try.func19 rfl (by kernel_rfl : comp Try.prog 95 _ ref_MarksMoved_c = some ref_MarksMoved_c) (by kernel_rfl : cRes Try.prog Try.f19.results.toList = some ref_MarksMoved_r) hlen h⟩

/-- fustian/fustianlaw.MarksMoves: slots [0 size, 1 ms, 2 l, 3 size, 4 ms, 5 l, 7 x, 8 e, 9 y, 10 f, 11 i] -/
def law_MarksMoves_c : SCode :=
  (.seq (.ops [⟨(some 6), .mov (.c (.bool false)), none, false⟩] none [0, 1, 2])
  (.seq (.ops [⟨(some 13), .mov (.t 0), none, false⟩,
    ⟨(some 14), .mov (.t 1), none, false⟩,
    ⟨(some 15), .mov (.t 2), none, false⟩,
    ⟨(some 16), .call f_marks_Move [(.t 13), (.t 14), (.t 15)], none, false⟩,
    ⟨(some 12), .mov (.t 16), none, false⟩,
    ⟨(some 17), .extract (.t 12) 0, none, false⟩,
    ⟨(some 18), .extract (.t 12) 1, none, false⟩,
    ⟨(some 7), .mov (.t 17), none, false⟩,
    ⟨(some 8), .mov (.t 18), none, false⟩] none [0, 1, 2, 7, 8])
  (.seq (.ops [⟨(some 20), .mov (.t 0), none, false⟩,
    ⟨(some 21), .mov (.t 1), none, false⟩,
    ⟨(some 22), .mov (.t 2), none, false⟩,
    ⟨(some 23), .call f_ref_MarksMoved [(.t 20), (.t 21), (.t 22)], none, false⟩,
    ⟨(some 19), .mov (.t 23), none, false⟩,
    ⟨(some 24), .extract (.t 19) 0, none, false⟩,
    ⟨(some 25), .extract (.t 19) 1, none, false⟩,
    ⟨(some 9), .mov (.t 24), none, false⟩,
    ⟨(some 10), .mov (.t 25), none, false⟩] none [7, 8, 9, 10])
  (.seq (.seq (.ops [⟨(some 26), .mov (.t 7), none, false⟩,
    ⟨(some 27), .len false (.t 26), none, false⟩,
    ⟨(some 28), .mov (.t 9), none, false⟩,
    ⟨(some 29), .len false (.t 28), none, false⟩,
    ⟨(some 30), .bin .none .neq (.t 27) (.t 29), none, false⟩,
    ⟨(some 31), .mov (.t 30), none, true⟩,
    ⟨(some 32), .mov (.t 8), (some (31, false)), false⟩,
    ⟨(some 33), .mov (.t 10), (some (31, false)), false⟩,
    ⟨(some 34), .bin .none .neq (.t 32) (.t 33), (some (31, false)), false⟩,
    ⟨(some 35), .pick (.t 31) (.c (.bool true)) (.t 34), none, false⟩] none [7, 9, 35])
  (.cond (.t 35)
    (.seq (.ops [⟨(some 6), .mov (.c (.bool false)), none, false⟩] none [6])
    .ret)
    .skip))
  (.seq (.seq (.ops [⟨(some 11), .mov (.c (.int .i64 0)), none, false⟩] none [7, 9, 11])
  (.block 0 (.loop [7, 9] [11] 0
    (.seq (.seq (.ops [⟨(some 36), .mov (.t 11), none, false⟩,
      ⟨(some 37), .mov (.t 7), none, false⟩,
      ⟨(some 38), .len false (.t 37), none, false⟩,
      ⟨(some 39), .bin .none .lss (.t 36) (.t 38), none, false⟩] none [7, 9, 11, 39])
    (.cond (.t 39)
      .skip
      (.exit 0)))
    (.seq (.block 1 (.seq (.ops [⟨(some 42), .mov (.t 7), none, false⟩,
      ⟨(some 43), .mov (.t 11), none, false⟩,
      ⟨(some 44), .iaddr 2 none (.t 42) (.t 43), none, false⟩,
      ⟨(some 45), .load 2 true (.t 44), none, false⟩,
      ⟨(some 46), .mov (.t 9), none, false⟩,
      ⟨(some 47), .mov (.t 11), none, false⟩,
      ⟨(some 48), .iaddr 2 none (.t 46) (.t 47), none, false⟩,
      ⟨(some 49), .load 2 true (.t 48), none, false⟩,
      ⟨(some 50), .bin (.agg [.int, .bool]) .neq (.t 45) (.t 49), none, false⟩] (some (0, 0, [0, 1, 2, 3, 4, 5, 6, 7, 8])) [7, 9, 11, 50])
    (.cond (.t 50)
      (.seq (.ops [⟨(some 6), .mov (.c (.bool false)), none, false⟩] none [6])
      .ret)
      .skip)))
    (.ops [⟨(some 40), .mov (.t 11), none, false⟩,
      ⟨(some 41), .bin .none .add (.t 40) (.c (.int .i64 1)), none, false⟩,
      ⟨(some 11), .mov (.t 41), none, false⟩] none [7, 9, 11]))))))
  (.seq (.ops [⟨(some 6), .mov (.c (.bool true)), none, false⟩] none [6])
  .ret))))))
def law_MarksMoves_r : List RRes := [.tmp 6]
def law_MarksMoves_hi : Hi := ⟨[], [(0, "size"), (1, "ms"), (2, "l"), (3, "size"), (4, "ms"), (5, "l"), (7, "x"), (8, "e"), (9, "y"), (10, "f"), (11, "i")]⟩
def law_MarksMoves_an : An := (.seq .d (.seq .d (.seq .d (.seq .d (.seq (.seq .d (.loop [] [] [] .d)) .d)))))
def law_MarksMoves_fi : Fi := ⟨51, law_MarksMoves_c, law_MarksMoves_r, law_MarksMoves_an, law_MarksMoves_hi⟩
theorem law_MarksMoves_ok : FiOk Try.prog f_law_MarksMoves law_MarksMoves_fi :=
  ⟨by kernel_rfl, fun h hlen => fun_sound (fn := Try.f5) (draw_sound _ _) Try.func5 rfl (by kernel_rfl : comp Try.prog 51 _ law_MarksMoves_c = some law_MarksMoves_c) (by kernel_rfl : cRes Try.prog Try.f5.results.toList = some law_MarksMoves_r) hlen h⟩

/-- slices.ContainsFunc[[]fustian/api.Mark,fustian/api.Mark]: slots [0 s, 1 f, 2 s, 3 f] -/
def slices_ContainsFunc___api_Mark_api_Mark__c : SCode :=
  (.seq (.ops [⟨(some 4), .mov (.c (.bool false)), none, false⟩] none [0, 1])
  (.seq (.ops [⟨(some 5), .mov (.t 0), none, false⟩,
    ⟨(some 6), .mov (.t 1), none, false⟩,
    ⟨(some 7), .call f_slices_IndexFunc___api_Mark_api_Mark_ [(.t 5), (.t 6)], none, false⟩,
    ⟨(some 8), .bin .none .geq (.t 7) (.c (.int .i64 0)), none, false⟩,
    ⟨(some 4), .mov (.t 8), none, false⟩] none [4])
  .ret))
def slices_ContainsFunc___api_Mark_api_Mark__r : List RRes := [.tmp 4]
def slices_ContainsFunc___api_Mark_api_Mark__hi : Hi := ⟨[], [(0, "s"), (1, "f"), (2, "s"), (3, "f")]⟩
def slices_ContainsFunc___api_Mark_api_Mark__an : An := .d
def slices_ContainsFunc___api_Mark_api_Mark__fi : Fi := ⟨9, slices_ContainsFunc___api_Mark_api_Mark__c, slices_ContainsFunc___api_Mark_api_Mark__r, slices_ContainsFunc___api_Mark_api_Mark__an, slices_ContainsFunc___api_Mark_api_Mark__hi⟩
theorem slices_ContainsFunc___api_Mark_api_Mark__ok : FiOk Try.prog f_slices_ContainsFunc___api_Mark_api_Mark_ slices_ContainsFunc___api_Mark_api_Mark__fi :=
  ⟨by kernel_rfl, fun h hlen => fun_sound (fn := Try.f45) (draw_sound _ _) Try.func45 rfl (by kernel_rfl : comp Try.prog 9 _ slices_ContainsFunc___api_Mark_api_Mark__c = some slices_ContainsFunc___api_Mark_api_Mark__c) (by kernel_rfl : cRes Try.prog Try.f45.results.toList = some slices_ContainsFunc___api_Mark_api_Mark__r) hlen h⟩

/-- slices.IndexFunc[[]fustian/api.Mark,fustian/api.Mark]: slots [0 s, 1 f, 2 s, 3 f, 5 i] -/
def slices_IndexFunc___api_Mark_api_Mark__c : SCode :=
  (.seq (.ops [⟨(some 4), .mov (.c (.int .i64 0)), none, false⟩] none [0, 1])
  (.seq (.seq (.ops [⟨(some 6), .mov (.t 0), none, false⟩,
    ⟨(some 7), .len false (.t 6), none, false⟩,
    ⟨(some 8), .mov (.c (.int .i64 0)), none, false⟩] none [0, 1, 7, 8])
  (.block 0 (.loop [0, 1, 7] [8] 0
    (.seq (.ops [⟨(some 9), .bin .none .lss (.t 8) (.t 7), none, false⟩] none [0, 1, 7, 8, 9])
    (.seq (.cond (.t 9)
      .skip
      (.exit 0))
    (.seq (.block 1 (.seq (.ops [⟨(some 10), .mov (.t 8), none, false⟩,
      ⟨(some 5), .mov (.t 10), none, false⟩] none [0, 1, 5, 7, 8])
    (.seq (.ops [⟨(some 11), .mov (.t 1), none, false⟩,
      ⟨(some 12), .mov (.t 0), none, false⟩,
      ⟨(some 13), .mov (.t 5), none, false⟩,
      ⟨(some 14), .iaddr 2 none (.t 12) (.t 13), none, false⟩,
      ⟨(some 15), .load 2 true (.t 14), none, false⟩,
      ⟨(some 16), .callv (.t 11) [(.t 15)], none, false⟩] none [0, 1, 5, 7, 8, 16])
    (.cond (.t 16)
      (.seq (.ops [⟨(some 17), .mov (.t 5), none, false⟩,
        ⟨(some 4), .mov (.t 17), none, false⟩] none [4])
      .ret)
      .skip))))
    (.ops [⟨(some 18), .bin .none .add (.t 8) (.c (.int .i64 1)), none, false⟩,
      ⟨(some 8), .mov (.t 18), none, false⟩] none [0, 1, 7, 8])))))))
  (.seq (.ops [⟨(some 4), .mov (.c (.int .i64 (-1))), none, false⟩] none [4])
  .ret)))
def slices_IndexFunc___api_Mark_api_Mark__r : List RRes := [.tmp 4]
def slices_IndexFunc___api_Mark_api_Mark__hi : Hi := ⟨[], [(0, "s"), (1, "f"), (2, "s"), (3, "f"), (5, "i")]⟩
def slices_IndexFunc___api_Mark_api_Mark__an : An := (.seq .d (.seq (.seq .d (.loop [1] [] [] .d)) .d))
def slices_IndexFunc___api_Mark_api_Mark__fi : Fi := ⟨19, slices_IndexFunc___api_Mark_api_Mark__c, slices_IndexFunc___api_Mark_api_Mark__r, slices_IndexFunc___api_Mark_api_Mark__an, slices_IndexFunc___api_Mark_api_Mark__hi⟩
theorem slices_IndexFunc___api_Mark_api_Mark__ok : FiOk Try.prog f_slices_IndexFunc___api_Mark_api_Mark_ slices_IndexFunc___api_Mark_api_Mark__fi :=
  ⟨by kernel_rfl, fun h hlen => fun_sound (fn := Try.f73) (draw_sound _ _) Try.func73 rfl (by kernel_rfl : comp Try.prog 19 _ slices_IndexFunc___api_Mark_api_Mark__c = some slices_IndexFunc___api_Mark_api_Mark__c) (by kernel_rfl : cRes Try.prog Try.f73.results.toList = some slices_IndexFunc___api_Mark_api_Mark__r) hlen h⟩

/-- fustian/marks.Move$1: slots [0 m, 2 m] -/
def marks_Move_1_c : SCode :=
  (.seq (.ops [⟨(some 2), .box 0 (.t 0), none, false⟩,
    ⟨(some 3), .mov (.c (.bool false)), none, false⟩] none [1, 2])
  (.seq (.ops [⟨(some 4), .faddr 0 (.t 2), none, false⟩,
    ⟨(some 5), .load 1 false (.t 4), none, false⟩,
    ⟨(some 6), .bin .none .lss (.t 5) (.c (.int .i64 0)), none, false⟩,
    ⟨(some 7), .mov (.t 6), none, true⟩,
    ⟨(some 8), .faddr 0 (.t 2), (some (7, false)), false⟩,
    ⟨(some 9), .load 1 false (.t 8), (some (7, false)), false⟩,
    ⟨(some 10), .load 1 false (.t 1), (some (7, false)), false⟩,
    ⟨(some 11), .bin .none .gtr (.t 9) (.t 10), (some (7, false)), false⟩,
    ⟨(some 12), .pick (.t 7) (.c (.bool true)) (.t 11), none, false⟩,
    ⟨(some 3), .mov (.t 12), none, false⟩] none [3])
  .ret))
def marks_Move_1_r : List RRes := [.tmp 3]
def marks_Move_1_hi : Hi := ⟨[(2, (.st (.cons (.int .i64) (.cons .bool .nil))))], [(0, "m"), (2, "m")]⟩
def marks_Move_1_an : An := .d
def marks_Move_1_fi : Fi := ⟨13, marks_Move_1_c, marks_Move_1_r, marks_Move_1_an, marks_Move_1_hi⟩
theorem marks_Move_1_ok : FiOk Try.prog f_marks_Move_1 marks_Move_1_fi :=
  ⟨by kernel_rfl, fun h hlen => fun_sound (fn := Try.f46) (draw_sound _ _) Try.func46 rfl (by kernel_rfl : comp Try.prog 13 _ marks_Move_1_c = some marks_Move_1_c) (by kernel_rfl : cRes Try.prog Try.f46.results.toList = some marks_Move_1_r) hlen h⟩

end Go.Proofs.Ytmknkkafindicaa
