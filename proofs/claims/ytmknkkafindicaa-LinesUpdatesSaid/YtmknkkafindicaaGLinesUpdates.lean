/- The functions' simplified code, printed by a program of the claim's author; each is checked against the program's own code. Conditions: none. -/
import Derived.Test.YtmknkkafindicaaProg
import Derived.Test.YtmknkkafindicaaVyM
set_option linter.unusedVariables false
set_option maxRecDepth 100000
namespace Go.Proofs.Ytmknkkafindicaa
open Go.Vc
abbrev f_gosem_cut_init : Nat := 2
abbrev f_law_WrapCosts : Nat := 3
abbrev f_law_LinesUpdates : Nat := 4
abbrev f_law_MarksMoves : Nat := 5
abbrev f_law_PosOfs : Nat := 6
abbrev f_law_PosAts : Nat := 7
abbrev f_law_SpansTakes : Nat := 8
abbrev f_law_SpansCuts : Nat := 9
abbrev f_law_SpansAdds : Nat := 10
abbrev f_law_SpansShifts : Nat := 11
abbrev f_law_FindReplaces : Nat := 12
abbrev f_wrap_Cost : Nat := 13
abbrev f_ref_WrapCost : Nat := 14
abbrev f_lines_Update : Nat := 15
abbrev f_ref_LinesUpdate : Nat := 16
abbrev f_law_sameInts : Nat := 17
abbrev f_marks_Move : Nat := 18
abbrev f_ref_MarksMoved : Nat := 19
abbrev f_pos_Of : Nat := 20
abbrev f_ref_PosOf : Nat := 21
abbrev f_pos_At : Nat := 22
abbrev f_ref_PosAt : Nat := 23
abbrev f_spans_Take : Nat := 24
abbrev f_ref_SpansTake : Nat := 25
abbrev f_law_sameSpans : Nat := 26
abbrev f_spans_Cut : Nat := 27
abbrev f_ref_SpansSet : Nat := 28
abbrev f_spans_Add : Nat := 29
abbrev f_spans_Shift : Nat := 30
abbrev f_ref_SpansShift : Nat := 31
abbrev f_find_Replace : Nat := 32
abbrev f_ref_FindReplace : Nat := 33
abbrev f_wrap_Check : Nat := 34
abbrev f_wrap_left : Nat := 35
abbrev f_ref_WrapFault : Nat := 36
abbrev f_ref_lineWide : Nat := 37
abbrev f_lines_may : Nat := 38
abbrev f_edit_Check : Nat := 39
abbrev f_lines_Updated : Nat := 40
abbrev f_ref_startsMay : Nat := 41
abbrev f_ref_EditFault : Nat := 42
abbrev f_ref_LinesStarts : Nat := 43
abbrev f_ref_editMade : Nat := 44
abbrev f_slices_ContainsFunc___api_Mark_api_Mark_ : Nat := 45
abbrev f_marks_Move_1 : Nat := 46
abbrev f_slices_Clone___api_Mark_api_Mark_ : Nat := 47
abbrev f_edit_Moved : Nat := 48
abbrev f_ref_editPlace : Nat := 49
abbrev f_strings_Count : Nat := 50
abbrev f_strings_LastIndexByte : Nat := 51
abbrev f_spans_May : Nat := 52
abbrev f_spans_Without : Nat := 53
abbrev f_ref_SpansMay : Nat := 54
abbrev f_ref_inSet : Nat := 55
abbrev f_ref_setOf : Nat := 56
abbrev f_spans_fault : Nat := 57
abbrev f_spans_full : Nat := 58
abbrev f_ref_spansFault : Nat := 59
abbrev f_spans_With : Nat := 60
abbrev f_spans_Shifted : Nat := 61
abbrev f_find_fault : Nat := 62
abbrev f_find_In : Nat := 63
abbrev f___strings_Builder__WriteString : Nat := 64
abbrev f___strings_Builder__Len : Nat := 65
abbrev f___strings_Builder__String : Nat := 66
abbrev f_ref_findFault : Nat := 67
abbrev f_ref_standsAt : Nat := 68
abbrev f_slices_ContainsFunc___int_int_ : Nat := 69
abbrev f_wrap_Check_1 : Nat := 70
abbrev f_sort_SearchInts : Nat := 71
abbrev f_ref_cutLines : Nat := 72
abbrev f_slices_IndexFunc___api_Mark_api_Mark_ : Nat := 73
abbrev f_unicode_utf8_RuneCountInString : Nat := 74
abbrev f_strings_Index : Nat := 76
abbrev f_internal_bytealg_LastIndexByteString : Nat := 77
abbrev f_slices_Clone___api_Span_api_Span_ : Nat := 78
abbrev f_slices_DeleteFunc___api_Span_api_Span_ : Nat := 79
abbrev f_spans_Without_1 : Nat := 80
abbrev f_slices_BinarySearchFunc___api_Span_api_Span_int_ : Nat := 81
abbrev f_spans_With_1 : Nat := 82
abbrev f_spans_Joined : Nat := 83
abbrev f_slices_Insert___api_Span_api_Span_ : Nat := 84
abbrev f_find_border : Nat := 85
abbrev f___strings_Builder__copyCheck : Nat := 86
abbrev f_slices_IndexFunc___int_int_ : Nat := 87
abbrev f_sort_Search : Nat := 88
abbrev f_sort_SearchInts_1 : Nat := 89
abbrev f_internal_stringslite_Index : Nat := 90
abbrev f_slices_IndexFunc___api_Span_api_Span_ : Nat := 91
abbrev f_slices_rotateRight_api_Span_ : Nat := 93
abbrev f_internal_stringslite_IndexByte : Nat := 95
abbrev f_internal_bytealg_Cutover : Nat := 97
abbrev f_internal_bytealg_IndexRabinKarp_string_ : Nat := 98
abbrev f_slices_rotateLeft_api_Span_ : Nat := 99
abbrev f_internal_bytealg_hashStr_string_ : Nat := 101
abbrev f_slices_Reverse___api_Span_api_Span_ : Nat := 102

/-- fustian/lines.may: slots [0 l, 1 l, 3 i, 4 n] -/
def lines_may_c : SCode :=
  (.seq (.ops [⟨(some 2), .mov (.c (.bool false)), none, false⟩] none [0])
  (.seq (.seq (.ops [⟨(some 5), .mov (.t 0), none, false⟩,
    ⟨(some 6), .len false (.t 5), none, false⟩,
    ⟨(some 7), .mov (.c (.int .i64 0)), none, false⟩] none [0, 5, 6, 7])
  (.block 0 (.loop [0, 5, 6] [7] 0
    (.seq (.ops [⟨(some 8), .bin .none .lss (.t 7) (.t 6), none, false⟩] none [0, 5, 6, 7, 8])
    (.seq (.cond (.t 8)
      .skip
      (.exit 0))
    (.seq (.block 1 (.seq (.ops [⟨(some 9), .mov (.t 7), none, false⟩,
      ⟨(some 10), .iaddr 1 none (.t 5) (.t 7), none, false⟩,
      ⟨(some 11), .load 1 false (.t 10), none, false⟩,
      ⟨(some 3), .mov (.t 9), none, false⟩,
      ⟨(some 4), .mov (.t 11), none, false⟩] none [0, 3, 4, 5, 6, 7])
    (.seq (.ops [⟨(some 12), .mov (.t 3), none, false⟩,
      ⟨(some 13), .bin .none .gtr (.t 12) (.c (.int .i64 0)), none, false⟩,
      ⟨(some 14), .mov (.t 13), none, true⟩,
      ⟨(some 15), .mov (.t 4), (some (14, true)), false⟩,
      ⟨(some 16), .mov (.t 0), (some (14, true)), false⟩,
      ⟨(some 17), .mov (.t 3), (some (14, true)), false⟩,
      ⟨(some 18), .bin .none .sub (.t 17) (.c (.int .i64 1)), (some (14, true)), false⟩,
      ⟨(some 19), .iaddr 1 none (.t 16) (.t 18), (some (14, true)), false⟩,
      ⟨(some 20), .load 1 false (.t 19), (some (14, true)), false⟩,
      ⟨(some 21), .bin .none .leq (.t 15) (.t 20), (some (14, true)), false⟩,
      ⟨(some 22), .pick (.t 14) (.t 21) (.c (.bool false)), none, false⟩] none [0, 5, 6, 7, 22])
    (.cond (.t 22)
      (.seq (.ops [⟨(some 2), .mov (.c (.bool false)), none, false⟩] none [2])
      .ret)
      .skip))))
    (.ops [⟨(some 23), .bin .none .add (.t 7) (.c (.int .i64 1)), none, false⟩,
      ⟨(some 7), .mov (.t 23), none, false⟩] none [0, 5, 6, 7])))))))
  (.seq (.ops [⟨(some 24), .mov (.t 0), none, false⟩,
    ⟨(some 25), .len false (.t 24), none, false⟩,
    ⟨(some 26), .bin .none .gtr (.t 25) (.c (.int .i64 0)), none, false⟩,
    ⟨(some 27), .mov (.t 26), none, true⟩,
    ⟨(some 28), .mov (.t 0), (some (27, true)), false⟩,
    ⟨(some 29), .iaddr 1 none (.t 28) (.c (.int .i64 0)), (some (27, true)), false⟩,
    ⟨(some 30), .load 1 false (.t 29), (some (27, true)), false⟩,
    ⟨(some 31), .bin .none .eql (.t 30) (.c (.int .i64 0)), (some (27, true)), false⟩,
    ⟨(some 32), .pick (.t 27) (.t 31) (.c (.bool false)), none, false⟩,
    ⟨(some 33), .mov (.t 32), none, true⟩,
    ⟨(some 34), .mov (.t 0), (some (33, true)), false⟩,
    ⟨(some 35), .mov (.t 0), (some (33, true)), false⟩,
    ⟨(some 36), .len false (.t 35), (some (33, true)), false⟩,
    ⟨(some 37), .bin .none .sub (.t 36) (.c (.int .i64 1)), (some (33, true)), false⟩,
    ⟨(some 38), .iaddr 1 none (.t 34) (.t 37), (some (33, true)), false⟩,
    ⟨(some 39), .load 1 false (.t 38), (some (33, true)), false⟩,
    ⟨(some 40), .bin .none .leq (.t 39) (.c (.int .i64 600)), (some (33, true)), false⟩,
    ⟨(some 41), .pick (.t 33) (.t 40) (.c (.bool false)), none, false⟩,
    ⟨(some 2), .mov (.t 41), none, false⟩] none [2])
  .ret)))
def lines_may_r : List RRes := [.tmp 2]
def lines_may_hi : Hi := ⟨[], [(0, "l"), (1, "l"), (3, "i"), (4, "n")]⟩
def lines_may_an : An := (.seq .d (.seq (.seq .d (.loop [] [] [] .d)) .d))
def lines_may_fi : Fi := ⟨42, lines_may_c, lines_may_r, lines_may_an, lines_may_hi⟩
theorem lines_may_ok : FiOk Try.prog f_lines_may lines_may_fi :=
  ⟨by kernel_rfl, fun h hlen => fun_sound (fn := Try.f38) (draw_sound _ _) Try.func38 rfl (by kernel_rfl : comp Try.prog 42 _ lines_may_c = some lines_may_c) (by kernel_rfl : cRes Try.prog Try.f38.results.toList = some lines_may_r) hlen h⟩

/-- fustian/edit.Check: slots [0 size, 1 e, 2 size, 3 e] -/
def edit_Check_c : SCode :=
  (.seq (.ops [⟨(some 3), .box 0 (.t 1), none, false⟩,
    ⟨(some 4), .mov (.c (.int .i64 0)), none, false⟩] none [0, 3])
  (.seq (.block 0 (.seq (.ops [⟨(some 6), .mov (.t 0), none, false⟩,
    ⟨(some 7), .bin .none .lss (.t 6) (.c (.int .i64 0)), none, false⟩,
    ⟨(some 8), .mov (.t 7), none, true⟩,
    ⟨(some 9), .mov (.t 0), (some (8, false)), false⟩,
    ⟨(some 10), .bin .none .gtr (.t 9) (.c (.int .i64 600)), (some (8, false)), false⟩,
    ⟨(some 11), .pick (.t 8) (.c (.bool true)) (.t 10), none, false⟩,
    ⟨(some 12), .mov (.t 11), none, true⟩,
    ⟨(some 13), .faddr 0 (.t 3), (some (12, false)), false⟩,
    ⟨(some 14), .load 1 false (.t 13), (some (12, false)), false⟩,
    ⟨(some 15), .bin .none .lss (.t 14) (.c (.int .i64 0)), (some (12, false)), false⟩,
    ⟨(some 16), .pick (.t 12) (.c (.bool true)) (.t 15), none, false⟩,
    ⟨(some 17), .mov (.t 16), none, true⟩,
    ⟨(some 18), .faddr 0 (.t 3), (some (17, false)), false⟩,
    ⟨(some 19), .load 1 false (.t 18), (some (17, false)), false⟩,
    ⟨(some 20), .mov (.t 0), (some (17, false)), false⟩,
    ⟨(some 21), .bin .none .gtr (.t 19) (.t 20), (some (17, false)), false⟩,
    ⟨(some 22), .pick (.t 17) (.c (.bool true)) (.t 21), none, false⟩,
    ⟨(some 23), .mov (.t 22), none, true⟩,
    ⟨(some 24), .faddr 1 (.t 3), (some (23, false)), false⟩,
    ⟨(some 25), .load 1 false (.t 24), (some (23, false)), false⟩,
    ⟨(some 26), .bin .none .lss (.t 25) (.c (.int .i64 0)), (some (23, false)), false⟩,
    ⟨(some 27), .pick (.t 23) (.c (.bool true)) (.t 26), none, false⟩,
    ⟨(some 28), .mov (.t 27), none, true⟩,
    ⟨(some 29), .faddr 1 (.t 3), (some (28, false)), false⟩,
    ⟨(some 30), .load 1 false (.t 29), (some (28, false)), false⟩,
    ⟨(some 31), .mov (.t 0), (some (28, false)), false⟩,
    ⟨(some 32), .faddr 0 (.t 3), (some (28, false)), false⟩,
    ⟨(some 33), .load 1 false (.t 32), (some (28, false)), false⟩,
    ⟨(some 34), .bin .none .sub (.t 31) (.t 33), (some (28, false)), false⟩,
    ⟨(some 35), .bin .none .gtr (.t 30) (.t 34), (some (28, false)), false⟩,
    ⟨(some 36), .pick (.t 28) (.c (.bool true)) (.t 35), none, false⟩,
    ⟨(some 5), .mov (.t 36), none, false⟩] none [0, 3, 5])
  (.cond (.t 5)
    (.seq (.ops [⟨(some 4), .mov (.c (.int .i64 2)), none, false⟩] none [4])
    .ret)
    (.seq (.ops [⟨(some 38), .mov (.t 0), none, false⟩,
      ⟨(some 39), .faddr 1 (.t 3), none, false⟩,
      ⟨(some 40), .load 1 false (.t 39), none, false⟩,
      ⟨(some 41), .bin .none .sub (.t 38) (.t 40), none, false⟩,
      ⟨(some 42), .faddr 2 (.t 3), none, false⟩,
      ⟨(some 43), .load 1 false (.t 42), none, false⟩,
      ⟨(some 44), .len true (.t 43), none, false⟩,
      ⟨(some 45), .bin .none .add (.t 41) (.t 44), none, false⟩,
      ⟨(some 46), .bin .none .gtr (.t 45) (.c (.int .i64 600)), none, false⟩,
      ⟨(some 37), .mov (.t 46), none, false⟩] none [37])
    (.cond (.t 37)
      (.seq (.ops [⟨(some 4), .mov (.c (.int .i64 1)), none, false⟩] none [4])
      .ret)
      .skip)))))
  (.seq (.ops [⟨(some 4), .mov (.c (.int .i64 0)), none, false⟩] none [4])
  .ret)))
def edit_Check_r : List RRes := [.tmp 4]
def edit_Check_hi : Hi := ⟨[(3, (.st (.cons (.int .i64) (.cons (.int .i64) (.cons .str .nil)))))], [(0, "size"), (1, "e"), (2, "size"), (3, "e")]⟩
def edit_Check_an : An := .d
def edit_Check_fi : Fi := ⟨47, edit_Check_c, edit_Check_r, edit_Check_an, edit_Check_hi⟩
theorem edit_Check_ok : FiOk Try.prog f_edit_Check edit_Check_fi :=
  ⟨by kernel_rfl, fun h hlen => fun_sound (fn := Try.f39) (draw_sound _ _) Try.func39 rfl (by kernel_rfl : comp Try.prog 47 _ edit_Check_c = some edit_Check_c) (by kernel_rfl : cRes Try.prog Try.f39.results.toList = some edit_Check_r) hlen h⟩

/-- sort.SearchInts: slots [0 a, 1 x, 2 a, 3 x] -/
def sort_SearchInts_c : SCode :=
  (.seq (.ops [⟨(some 2), .box 0 (.t 0), none, false⟩,
    ⟨(some 3), .box 0 (.t 1), none, false⟩,
    ⟨(some 4), .mov (.c (.int .i64 0)), none, false⟩] none [2, 3])
  (.seq (.ops [⟨(some 5), .load 1 false (.t 2), none, false⟩,
    ⟨(some 6), .len false (.t 5), none, false⟩,
    ⟨(some 7), .mkfunc (.func f_sort_SearchInts_1) [] [(.t 2), (.t 3)], none, false⟩,
    ⟨(some 8), .call f_sort_Search [(.t 6), (.t 7)], none, false⟩,
    ⟨(some 4), .mov (.t 8), none, false⟩] none [4])
  .ret))
def sort_SearchInts_r : List RRes := [.tmp 4]
def sort_SearchInts_hi : Hi := ⟨[(2, (.sl (.int .i64)))], [(0, "a"), (1, "x"), (2, "a"), (3, "x")]⟩
def sort_SearchInts_an : An := .d
def sort_SearchInts_fi : Fi := ⟨9, sort_SearchInts_c, sort_SearchInts_r, sort_SearchInts_an, sort_SearchInts_hi⟩
theorem sort_SearchInts_ok : FiOk Try.prog f_sort_SearchInts sort_SearchInts_fi :=
  ⟨by kernel_rfl, fun h hlen => fun_sound (fn := Try.f71) (draw_sound _ _) Try.func71 rfl (by kernel_rfl : comp Try.prog 9 _ sort_SearchInts_c = some sort_SearchInts_c) (by kernel_rfl : cRes Try.prog Try.f71.results.toList = some sort_SearchInts_r) hlen h⟩

/-- fustian/lines.Updated: slots [0 l, 1 e, 2 l, 3 e, 5 keep, 6 rest, 7 out, 8 i, 9 _, 10 n] -/
def lines_Updated_c : SCode :=
  (.seq (.ops [⟨(some 3), .box 0 (.t 1), none, false⟩,
    ⟨(some 4), .mov (.c .nils), none, false⟩] none [0, 3])
  (.seq (.ops [⟨(some 11), .mov (.t 0), none, false⟩,
    ⟨(some 12), .faddr 0 (.t 3), none, false⟩,
    ⟨(some 13), .load 1 false (.t 12), none, false⟩,
    ⟨(some 14), .bin .none .add (.t 13) (.c (.int .i64 1)), none, false⟩,
    ⟨(some 15), .call f_sort_SearchInts [(.t 11), (.t 14)], none, false⟩,
    ⟨(some 5), .mov (.t 15), none, false⟩] none [0, 3, 5])
  (.seq (.ops [⟨(some 16), .mov (.t 0), none, false⟩,
    ⟨(some 17), .faddr 0 (.t 3), none, false⟩,
    ⟨(some 18), .load 1 false (.t 17), none, false⟩,
    ⟨(some 19), .faddr 1 (.t 3), none, false⟩,
    ⟨(some 20), .load 1 false (.t 19), none, false⟩,
    ⟨(some 21), .bin .none .add (.t 18) (.t 20), none, false⟩,
    ⟨(some 22), .bin .none .add (.t 21) (.c (.int .i64 1)), none, false⟩,
    ⟨(some 23), .call f_sort_SearchInts [(.t 16), (.t 22)], none, false⟩,
    ⟨(some 6), .mov (.t 23), none, false⟩] none [0, 3, 5, 6])
  (.seq (.ops [⟨(some 24), .mov (.t 0), none, false⟩,
    ⟨(some 25), .mov (.t 5), none, false⟩,
    ⟨(some 26), .slice 1 (.t 24) none (some (.t 25)), none, false⟩,
    ⟨(some 27), .append 1 8 (.c .nils) (.t 26), none, false⟩,
    ⟨(some 7), .mov (.t 27), none, false⟩] none [0, 3, 6, 7])
  (.seq (.seq (.ops [⟨(some 28), .faddr 2 (.t 3), none, false⟩,
    ⟨(some 29), .load 1 false (.t 28), none, false⟩,
    ⟨(some 30), .len true (.t 29), none, false⟩,
    ⟨(some 31), .mov (.c (.int .i64 0)), none, false⟩] none [0, 3, 6, 7, 30, 31])
  (.block 0 (.loop [0, 3, 6, 30] [7, 31] 2
    (.seq (.ops [⟨(some 32), .bin .none .lss (.t 31) (.t 30), none, false⟩] none [0, 3, 6, 7, 30, 31, 32])
    (.seq (.cond (.t 32)
      .skip
      (.exit 0))
    (.join [0, 3, 6, 30, 31] [7] 2 (.block 1 (.seq (.ops [⟨(some 33), .mov (.t 31), none, false⟩,
        ⟨(some 8), .mov (.t 33), none, false⟩] none [0, 3, 6, 7, 8, 30, 31])
      (.seq (.ops [⟨(some 34), .faddr 2 (.t 3), none, false⟩,
        ⟨(some 35), .load 1 false (.t 34), none, false⟩,
        ⟨(some 36), .mov (.t 8), none, false⟩,
        ⟨(some 37), .index 1 none false (.t 35) (.t 36), none, false⟩,
        ⟨(some 38), .bin .none .eql (.t 37) (.c (.int .u8 10)), none, false⟩] none [0, 3, 6, 7, 8, 30, 31, 38])
      (.cond (.t 38)
        (.ops [⟨(some 39), .mov (.t 7), none, false⟩,
          ⟨(some 40), .faddr 0 (.t 3), none, false⟩,
          ⟨(some 41), .load 1 false (.t 40), none, false⟩,
          ⟨(some 42), .mov (.t 8), none, false⟩,
          ⟨(some 43), .bin .none .add (.t 41) (.t 42), none, false⟩,
          ⟨(some 44), .bin .none .add (.t 43) (.c (.int .i64 1)), none, false⟩,
          ⟨(some 45), .bslice true 1 1 [(.int .i64 0)] [(0, 1, (.t 44))], none, false⟩,
          ⟨(some 46), .append 1 8 (.t 39) (.t 45), none, false⟩,
          ⟨(some 7), .mov (.t 46), none, false⟩] none [0, 3, 6, 7, 30, 31])
        .skip))))
    (.ops [⟨(some 47), .bin .none .add (.t 31) (.c (.int .i64 1)), none, false⟩,
      ⟨(some 31), .mov (.t 47), none, false⟩] none [0, 3, 6, 7, 30, 31])))))))
  (.seq (.seq (.ops [⟨(some 48), .mov (.t 0), none, false⟩,
    ⟨(some 49), .mov (.t 6), none, false⟩,
    ⟨(some 50), .slice 1 (.t 48) (some (.t 49)) none, none, false⟩,
    ⟨(some 51), .len false (.t 50), none, false⟩,
    ⟨(some 52), .mov (.c (.int .i64 0)), none, false⟩] none [3, 7, 50, 51, 52])
  (.block 2 (.loop [3, 50, 51] [7, 52] 2
    (.seq (.ops [⟨(some 53), .bin .none .lss (.t 52) (.t 51), none, false⟩] none [3, 7, 50, 51, 52, 53])
    (.seq (.cond (.t 53)
      .skip
      (.exit 2))
    (.seq (.block 3 (.seq (.ops [⟨(some 54), .iaddr 1 none (.t 50) (.t 52), none, false⟩,
      ⟨(some 55), .load 1 false (.t 54), none, false⟩,
      ⟨(some 10), .mov (.t 55), none, false⟩] none [3, 7, 10, 50, 51, 52])
    (.ops [⟨(some 56), .mov (.t 7), none, false⟩,
      ⟨(some 57), .mov (.t 10), none, false⟩,
      ⟨(some 58), .faddr 2 (.t 3), none, false⟩,
      ⟨(some 59), .load 1 false (.t 58), none, false⟩,
      ⟨(some 60), .len true (.t 59), none, false⟩,
      ⟨(some 61), .bin .none .add (.t 57) (.t 60), none, false⟩,
      ⟨(some 62), .faddr 1 (.t 3), none, false⟩,
      ⟨(some 63), .load 1 false (.t 62), none, false⟩,
      ⟨(some 64), .bin .none .sub (.t 61) (.t 63), none, false⟩,
      ⟨(some 65), .bslice true 1 1 [(.int .i64 0)] [(0, 1, (.t 64))], none, false⟩,
      ⟨(some 66), .append 1 8 (.t 56) (.t 65), none, false⟩,
      ⟨(some 7), .mov (.t 66), none, false⟩] none [3, 7, 50, 51, 52])))
    (.ops [⟨(some 67), .bin .none .add (.t 52) (.c (.int .i64 1)), none, false⟩,
      ⟨(some 52), .mov (.t 67), none, false⟩] none [3, 7, 50, 51, 52])))))))
  (.seq (.ops [⟨(some 68), .mov (.t 7), none, false⟩,
    ⟨(some 4), .mov (.t 68), none, false⟩] none [4])
  .ret)))))))
def lines_Updated_r : List RRes := [.tmp 4]
def lines_Updated_hi : Hi := ⟨[(27, (.int .i64)), (45, (.int .i64)), (46, (.int .i64)), (65, (.int .i64)), (66, (.int .i64)), (3, (.st (.cons (.int .i64) (.cons (.int .i64) (.cons .str .nil)))))], [(0, "l"), (1, "e"), (2, "l"), (3, "e"), (5, "keep"), (6, "rest"), (7, "out"), (8, "i"), (10, "n")]⟩
def lines_Updated_an : An := (.seq .d (.seq .d (.seq .d (.seq .d (.seq (.seq .d (.loop [7] [] [] .d)) (.seq (.seq .d (.loop [7] [] [] .d)) .d))))))
def lines_Updated_fi : Fi := ⟨69, lines_Updated_c, lines_Updated_r, lines_Updated_an, lines_Updated_hi⟩
theorem lines_Updated_ok : FiOk Try.prog f_lines_Updated lines_Updated_fi :=
  ⟨by kernel_rfl, fun h hlen => fun_sound (fn := Try.f40) (draw_sound _ _) Try.func40 rfl (by kernel_rfl : comp Try.prog 69 _ lines_Updated_c = some lines_Updated_c) (by kernel_rfl : cRes Try.prog Try.f40.results.toList = some lines_Updated_r) hlen h⟩

/-- fustian/lines.Update: slots [0 starts, 1 size, 2 e, 3 starts, 4 size, 5 e, 8 f] -/
def lines_Update_c : SCode :=
  (.seq (.ops [⟨(some 5), .box 0 (.t 2), none, false⟩,
    ⟨(some 6), .mov (.c .nils), none, false⟩,
    ⟨(some 7), .mov (.c (.int .i64 0)), none, false⟩] none [0, 1, 5])
  (.seq (.seq (.ops [⟨(some 9), .mov (.t 0), none, false⟩,
    ⟨(some 10), .call f_lines_may [(.t 9)], none, false⟩,
    ⟨(some 11), .not (.t 10), none, false⟩,
    ⟨(some 12), .mov (.t 11), none, true⟩,
    ⟨(some 13), .mov (.t 0), (some (12, false)), false⟩,
    ⟨(some 14), .mov (.t 0), (some (12, false)), false⟩,
    ⟨(some 15), .len false (.t 14), (some (12, false)), false⟩,
    ⟨(some 16), .bin .none .sub (.t 15) (.c (.int .i64 1)), (some (12, false)), false⟩,
    ⟨(some 17), .iaddr 1 none (.t 13) (.t 16), (some (12, false)), false⟩,
    ⟨(some 18), .load 1 false (.t 17), (some (12, false)), false⟩,
    ⟨(some 19), .mov (.t 1), (some (12, false)), false⟩,
    ⟨(some 20), .bin .none .gtr (.t 18) (.t 19), (some (12, false)), false⟩,
    ⟨(some 21), .pick (.t 12) (.c (.bool true)) (.t 20), none, false⟩] none [0, 1, 5, 21])
  (.cond (.t 21)
    (.seq (.ops [⟨(some 6), .mov (.c .nils), none, false⟩,
      ⟨(some 7), .mov (.c (.int .i64 4)), none, false⟩] none [6, 7])
    .ret)
    .skip))
  (.seq (.seq (.ops [⟨(some 22), .mov (.t 1), none, false⟩,
    ⟨(some 23), .load 3 true (.t 5), none, false⟩,
    ⟨(some 24), .call f_edit_Check [(.t 22), (.t 23)], none, false⟩,
    ⟨(some 8), .mov (.t 24), none, false⟩] none [0, 5, 8])
  (.seq (.ops [⟨(some 25), .mov (.t 8), none, false⟩,
    ⟨(some 26), .bin .none .neq (.t 25) (.c (.int .i64 0)), none, false⟩] none [0, 5, 8, 26])
  (.cond (.t 26)
    (.seq (.ops [⟨(some 27), .mov (.t 8), none, false⟩,
      ⟨(some 6), .mov (.c .nils), none, false⟩,
      ⟨(some 7), .mov (.t 27), none, false⟩] none [6, 7])
    .ret)
    .skip)))
  (.seq (.ops [⟨(some 28), .mov (.t 0), none, false⟩,
    ⟨(some 29), .load 3 true (.t 5), none, false⟩,
    ⟨(some 30), .call f_lines_Updated [(.t 28), (.t 29)], none, false⟩,
    ⟨(some 6), .mov (.t 30), none, false⟩,
    ⟨(some 7), .mov (.c (.int .i64 0)), none, false⟩] none [6, 7])
  .ret))))
def lines_Update_r : List RRes := [.tmp 6, .tmp 7]
def lines_Update_hi : Hi := ⟨[(5, (.st (.cons (.int .i64) (.cons (.int .i64) (.cons .str .nil)))))], [(0, "starts"), (1, "size"), (2, "e"), (3, "starts"), (4, "size"), (5, "e"), (8, "f")]⟩
def lines_Update_an : An := .d
def lines_Update_fi : Fi := ⟨31, lines_Update_c, lines_Update_r, lines_Update_an, lines_Update_hi⟩
theorem lines_Update_ok : FiOk Try.prog f_lines_Update lines_Update_fi :=
  ⟨by kernel_rfl, fun h hlen => fun_sound (fn := Try.f15) (draw_sound _ _) Try.func15 rfl (by kernel_rfl : comp Try.prog 31 _ lines_Update_c = some lines_Update_c) (by kernel_rfl : cRes Try.prog Try.f15.results.toList = some lines_Update_r) hlen h⟩

/-- fustian/fustianref.startsMay: slots [0 l, 1 l, 3 i] -/
def ref_startsMay_c : SCode :=
  (.seq (.ops [⟨(some 2), .mov (.c (.bool false)), none, false⟩] none [0])
  (.seq (.seq (.ops [⟨(some 4), .mov (.t 0), none, false⟩,
    ⟨(some 5), .len false (.t 4), none, false⟩,
    ⟨(some 6), .bin .none .eql (.t 5) (.c (.int .i64 0)), none, false⟩,
    ⟨(some 7), .mov (.t 6), none, true⟩,
    ⟨(some 8), .mov (.t 0), (some (7, false)), false⟩,
    ⟨(some 9), .iaddr 1 none (.t 8) (.c (.int .i64 0)), (some (7, false)), false⟩,
    ⟨(some 10), .load 1 false (.t 9), (some (7, false)), false⟩,
    ⟨(some 11), .bin .none .neq (.t 10) (.c (.int .i64 0)), (some (7, false)), false⟩,
    ⟨(some 12), .pick (.t 7) (.c (.bool true)) (.t 11), none, false⟩] none [0, 12])
  (.cond (.t 12)
    (.seq (.ops [⟨(some 2), .mov (.c (.bool false)), none, false⟩] none [2])
    .ret)
    .skip))
  (.seq (.seq (.ops [⟨(some 3), .mov (.c (.int .i64 1)), none, false⟩] none [0, 3])
  (.block 0 (.loop [0] [3] 0
    (.seq (.seq (.ops [⟨(some 13), .mov (.t 3), none, false⟩,
      ⟨(some 14), .mov (.t 0), none, false⟩,
      ⟨(some 15), .len false (.t 14), none, false⟩,
      ⟨(some 16), .bin .none .lss (.t 13) (.t 15), none, false⟩] none [0, 3, 16])
    (.cond (.t 16)
      .skip
      (.exit 0)))
    (.seq (.block 1 (.seq (.ops [⟨(some 19), .mov (.t 0), none, false⟩,
      ⟨(some 20), .mov (.t 3), none, false⟩,
      ⟨(some 21), .iaddr 1 none (.t 19) (.t 20), none, false⟩,
      ⟨(some 22), .load 1 false (.t 21), none, false⟩,
      ⟨(some 23), .mov (.t 0), none, false⟩,
      ⟨(some 24), .mov (.t 3), none, false⟩,
      ⟨(some 25), .bin .none .sub (.t 24) (.c (.int .i64 1)), none, false⟩,
      ⟨(some 26), .iaddr 1 none (.t 23) (.t 25), none, false⟩,
      ⟨(some 27), .load 1 false (.t 26), none, false⟩,
      ⟨(some 28), .bin .none .leq (.t 22) (.t 27), none, false⟩,
      ⟨(some 29), .mov (.t 28), none, true⟩,
      ⟨(some 30), .mov (.t 0), (some (29, false)), false⟩,
      ⟨(some 31), .mov (.t 3), (some (29, false)), false⟩,
      ⟨(some 32), .iaddr 1 none (.t 30) (.t 31), (some (29, false)), false⟩,
      ⟨(some 33), .load 1 false (.t 32), (some (29, false)), false⟩,
      ⟨(some 34), .bin .none .gtr (.t 33) (.c (.int .i64 600)), (some (29, false)), false⟩,
      ⟨(some 35), .pick (.t 29) (.c (.bool true)) (.t 34), none, false⟩] (some (0, 0, [0, 1, 2, 3, 4, 5, 6, 7, 8, 9, 10, 11, 12, 13, 14, 15, 16])) [0, 3, 35])
    (.cond (.t 35)
      (.seq (.ops [⟨(some 2), .mov (.c (.bool false)), none, false⟩] none [2])
      .ret)
      .skip)))
    (.ops [⟨(some 17), .mov (.t 3), none, false⟩,
      ⟨(some 18), .bin .none .add (.t 17) (.c (.int .i64 1)), none, false⟩,
      ⟨(some 3), .mov (.t 18), none, false⟩] none [0, 3]))))))
  (.seq (.ops [⟨(some 2), .mov (.c (.bool true)), none, false⟩] none [2])
  .ret))))
def ref_startsMay_r : List RRes := [.tmp 2]
def ref_startsMay_hi : Hi := ⟨[], [(0, "l"), (1, "l"), (3, "i")]⟩
def ref_startsMay_an : An := (.seq .d (.seq .d (.seq (.seq .d (.loop [] [] [] .d)) .d)))
def ref_startsMay_fi : Fi := ⟨36, ref_startsMay_c, ref_startsMay_r, ref_startsMay_an, ref_startsMay_hi⟩
theorem ref_startsMay_ok : FiOk Try.prog f_ref_startsMay ref_startsMay_fi :=
  ⟨by kernel_rfl, fun h hlen => fun_sound (fn := Try.f41) (draw_sound _ _) Try.func41 rfl (by kernel_rfl : comp Try.prog 36 _ ref_startsMay_c = some ref_startsMay_c) (by kernel_rfl : cRes Try.prog Try.f41.results.toList = some ref_startsMay_r) hlen h⟩

/-- fustian/fustianref.EditFault: slots [0 size, 1 e, 2 size, 3 e] -/
def ref_EditFault_c : SCode :=
  (.seq (.ops [⟨(some 3), .box 0 (.t 1), none, false⟩,
    ⟨(some 4), .mov (.c (.int .i64 0)), none, false⟩] none [0, 3])
  (.seq (.seq (.ops [⟨(some 5), .mov (.t 0), none, false⟩,
    ⟨(some 6), .bin .none .lss (.t 5) (.c (.int .i64 0)), none, false⟩,
    ⟨(some 7), .mov (.t 6), none, true⟩,
    ⟨(some 8), .mov (.t 0), (some (7, false)), false⟩,
    ⟨(some 9), .bin .none .gtr (.t 8) (.c (.int .i64 600)), (some (7, false)), false⟩,
    ⟨(some 10), .pick (.t 7) (.c (.bool true)) (.t 9), none, false⟩,
    ⟨(some 11), .mov (.t 10), none, true⟩,
    ⟨(some 12), .faddr 0 (.t 3), (some (11, false)), false⟩,
    ⟨(some 13), .load 1 false (.t 12), (some (11, false)), false⟩,
    ⟨(some 14), .bin .none .lss (.t 13) (.c (.int .i64 0)), (some (11, false)), false⟩,
    ⟨(some 15), .pick (.t 11) (.c (.bool true)) (.t 14), none, false⟩,
    ⟨(some 16), .mov (.t 15), none, true⟩,
    ⟨(some 17), .faddr 1 (.t 3), (some (16, false)), false⟩,
    ⟨(some 18), .load 1 false (.t 17), (some (16, false)), false⟩,
    ⟨(some 19), .bin .none .lss (.t 18) (.c (.int .i64 0)), (some (16, false)), false⟩,
    ⟨(some 20), .pick (.t 16) (.c (.bool true)) (.t 19), none, false⟩,
    ⟨(some 21), .mov (.t 20), none, true⟩,
    ⟨(some 22), .faddr 0 (.t 3), (some (21, false)), false⟩,
    ⟨(some 23), .load 1 false (.t 22), (some (21, false)), false⟩,
    ⟨(some 24), .mov (.t 0), (some (21, false)), false⟩,
    ⟨(some 25), .bin .none .gtr (.t 23) (.t 24), (some (21, false)), false⟩,
    ⟨(some 26), .pick (.t 21) (.c (.bool true)) (.t 25), none, false⟩,
    ⟨(some 27), .mov (.t 26), none, true⟩,
    ⟨(some 28), .faddr 1 (.t 3), (some (27, false)), false⟩,
    ⟨(some 29), .load 1 false (.t 28), (some (27, false)), false⟩,
    ⟨(some 30), .mov (.t 0), (some (27, false)), false⟩,
    ⟨(some 31), .bin .none .gtr (.t 29) (.t 30), (some (27, false)), false⟩,
    ⟨(some 32), .pick (.t 27) (.c (.bool true)) (.t 31), none, false⟩,
    ⟨(some 33), .mov (.t 32), none, true⟩,
    ⟨(some 34), .faddr 0 (.t 3), (some (33, false)), false⟩,
    ⟨(some 35), .load 1 false (.t 34), (some (33, false)), false⟩,
    ⟨(some 36), .faddr 1 (.t 3), (some (33, false)), false⟩,
    ⟨(some 37), .load 1 false (.t 36), (some (33, false)), false⟩,
    ⟨(some 38), .bin .none .add (.t 35) (.t 37), (some (33, false)), false⟩,
    ⟨(some 39), .mov (.t 0), (some (33, false)), false⟩,
    ⟨(some 40), .bin .none .gtr (.t 38) (.t 39), (some (33, false)), false⟩,
    ⟨(some 41), .pick (.t 33) (.c (.bool true)) (.t 40), none, false⟩] none [0, 3, 41])
  (.cond (.t 41)
    (.seq (.ops [⟨(some 4), .mov (.c (.int .i64 2)), none, false⟩] none [4])
    .ret)
    .skip))
  (.seq (.seq (.ops [⟨(some 42), .mov (.t 0), none, false⟩,
    ⟨(some 43), .faddr 2 (.t 3), none, false⟩,
    ⟨(some 44), .load 1 false (.t 43), none, false⟩,
    ⟨(some 45), .len true (.t 44), none, false⟩,
    ⟨(some 46), .bin .none .add (.t 42) (.t 45), none, false⟩,
    ⟨(some 47), .faddr 1 (.t 3), none, false⟩,
    ⟨(some 48), .load 1 false (.t 47), none, false⟩,
    ⟨(some 49), .bin .none .sub (.t 46) (.t 48), none, false⟩,
    ⟨(some 50), .bin .none .gtr (.t 49) (.c (.int .i64 600)), none, false⟩] none [50])
  (.cond (.t 50)
    (.seq (.ops [⟨(some 4), .mov (.c (.int .i64 1)), none, false⟩] none [4])
    .ret)
    .skip))
  (.seq (.ops [⟨(some 4), .mov (.c (.int .i64 0)), none, false⟩] none [4])
  .ret))))
def ref_EditFault_r : List RRes := [.tmp 4]
def ref_EditFault_hi : Hi := ⟨[(3, (.st (.cons (.int .i64) (.cons (.int .i64) (.cons .str .nil)))))], [(0, "size"), (1, "e"), (2, "size"), (3, "e")]⟩
def ref_EditFault_an : An := .d
def ref_EditFault_fi : Fi := ⟨51, ref_EditFault_c, ref_EditFault_r, ref_EditFault_an, ref_EditFault_hi⟩
theorem ref_EditFault_ok : FiOk Try.prog f_ref_EditFault ref_EditFault_fi :=
  ⟨by kernel_rfl, fun h hlen => fun_sound (fn := Try.f42) (draw_sound _ _) Try.func42 rfl (by kernel_rfl : comp Try.prog 51 _ ref_EditFault_c = some ref_EditFault_c) (by kernel_rfl : cRes Try.prog Try.f42.results.toList = some ref_EditFault_r) hlen h⟩

/-- fustian/fustianref.cutLines: slots [0 text, 1 text, 3 out, 4 i] -/
def ref_cutLines_c : SCode :=
  (.seq (.ops [⟨(some 2), .mov (.c .nils), none, false⟩] none [0])
  (.seq (.ops [⟨(some 5), .bslice false 1 1 [(.str [])] [(0, 1, (.c (.str [])))], none, false⟩,
    ⟨(some 3), .mov (.t 5), none, false⟩] none [0, 3])
  (.seq (.seq (.ops [⟨(some 4), .mov (.c (.int .i64 0)), none, false⟩] none [0, 3, 4])
  (.block 0 (.loop [0] [3, 4] 1
    (.seq (.seq (.ops [⟨(some 6), .mov (.t 4), none, false⟩,
      ⟨(some 7), .mov (.t 0), none, false⟩,
      ⟨(some 8), .len true (.t 7), none, false⟩,
      ⟨(some 9), .bin .none .lss (.t 6) (.t 8), none, false⟩] none [0, 3, 4, 9])
    (.cond (.t 9)
      .skip
      (.exit 0)))
    (.join [0, 4] [3] 1 (.block 1 (.seq (.ops [⟨(some 12), .mov (.t 0), none, false⟩,
        ⟨(some 13), .mov (.t 4), none, false⟩,
        ⟨(some 14), .index 1 none false (.t 12) (.t 13), none, false⟩,
        ⟨(some 15), .bin .none .eql (.t 14) (.c (.int .u8 10)), none, false⟩] none [0, 3, 4, 15])
      (.cond (.t 15)
        (.ops [⟨(some 16), .mov (.t 3), none, false⟩,
          ⟨(some 17), .bslice true 1 1 [(.str [])] [(0, 1, (.c (.str [])))], none, false⟩,
          ⟨(some 18), .append 1 16 (.t 16) (.t 17), none, false⟩,
          ⟨(some 3), .mov (.t 18), none, false⟩] none [0, 3, 4])
        (.ops [⟨(some 19), .mov (.t 3), none, false⟩,
          ⟨(some 20), .mov (.t 3), none, false⟩,
          ⟨(some 21), .len false (.t 20), none, false⟩,
          ⟨(some 22), .bin .none .sub (.t 21) (.c (.int .i64 1)), none, false⟩,
          ⟨(some 23), .iaddr 1 none (.t 19) (.t 22), none, false⟩,
          ⟨(some 24), .load 1 false (.t 23), none, false⟩,
          ⟨(some 25), .mov (.t 0), none, false⟩,
          ⟨(some 26), .mov (.t 4), none, false⟩,
          ⟨(some 27), .mov (.t 4), none, false⟩,
          ⟨(some 28), .bin .none .add (.t 27) (.c (.int .i64 1)), none, false⟩,
          ⟨(some 29), .slice 0 (.t 25) (some (.t 26)) (some (.t 28)), none, false⟩,
          ⟨(some 30), .bin .none .add (.t 24) (.t 29), none, false⟩,
          ⟨(some 31), .iaddr 1 none (.t 19) (.t 22), none, false⟩,
          ⟨none, .store 1 (.t 31) (.t 30), none, false⟩] (some (0, 0, [0, 1, 2, 3, 4, 5, 6, 7, 8, 9, 10, 11, 12, 13])) [0, 3, 4]))))
    (.ops [⟨(some 10), .mov (.t 4), none, false⟩,
      ⟨(some 11), .bin .none .add (.t 10) (.c (.int .i64 1)), none, false⟩,
      ⟨(some 4), .mov (.t 11), none, false⟩] none [0, 3, 4]))))))
  (.seq (.ops [⟨(some 32), .mov (.t 3), none, false⟩,
    ⟨(some 2), .mov (.t 32), none, false⟩] none [2])
  .ret))))
def ref_cutLines_r : List RRes := [.tmp 2]
def ref_cutLines_hi : Hi := ⟨[(5, .str), (17, .str), (18, .str)], [(0, "text"), (1, "text"), (3, "out"), (4, "i")]⟩
def ref_cutLines_an : An := (.seq .d (.seq .d (.seq (.seq .d (.loop [3] [] [] .d)) .d)))
def ref_cutLines_fi : Fi := ⟨33, ref_cutLines_c, ref_cutLines_r, ref_cutLines_an, ref_cutLines_hi⟩
theorem ref_cutLines_ok : FiOk Try.prog f_ref_cutLines ref_cutLines_fi :=
  ⟨by kernel_rfl, fun h hlen => fun_sound (fn := Try.f72) (draw_sound _ _) Try.func72 rfl (by kernel_rfl : comp Try.prog 33 _ ref_cutLines_c = some ref_cutLines_c) (by kernel_rfl : cRes Try.prog Try.f72.results.toList = some ref_cutLines_r) hlen h⟩

/-- fustian/fustianref.LinesStarts: slots [0 text, 1 text, 4 out, 5 at, 6 _, 7 s] -/
def ref_LinesStarts_c : SCode :=
  (.seq (.ops [⟨(some 2), .mov (.c .nils), none, false⟩,
    ⟨(some 3), .mov (.c (.int .i64 0)), none, false⟩] none [0])
  (.seq (.seq (.ops [⟨(some 8), .mov (.t 0), none, false⟩,
    ⟨(some 9), .len true (.t 8), none, false⟩,
    ⟨(some 10), .bin .none .gtr (.t 9) (.c (.int .i64 600)), none, false⟩] none [0, 10])
  (.cond (.t 10)
    (.seq (.ops [⟨(some 2), .mov (.c .nils), none, false⟩,
      ⟨(some 3), .mov (.c (.int .i64 1)), none, false⟩] none [2, 3])
    .ret)
    .skip))
  (.seq (.ops [⟨(some 4), .newnil 1, none, false⟩] none [0, 4])
  (.seq (.ops [⟨(some 5), .mov (.c (.int .i64 0)), none, false⟩] none [0, 4, 5])
  (.seq (.seq (.ops [⟨(some 11), .mov (.t 0), none, false⟩,
    ⟨(some 12), .call f_ref_cutLines [(.t 11)], none, false⟩,
    ⟨(some 13), .len false (.t 12), none, false⟩,
    ⟨(some 14), .mov (.c (.int .i64 0)), none, false⟩] none [4, 5, 12, 13, 14])
  (.block 0 (.loop [12, 13] [4, 5, 14] 1
    (.seq (.ops [⟨(some 15), .bin .none .lss (.t 14) (.t 13), none, false⟩] none [4, 5, 12, 13, 14, 15])
    (.seq (.cond (.t 15)
      .skip
      (.exit 0))
    (.seq (.block 1 (.seq (.ops [⟨(some 16), .iaddr 1 none (.t 12) (.t 14), none, false⟩,
      ⟨(some 17), .load 1 false (.t 16), none, false⟩,
      ⟨(some 7), .mov (.t 17), none, false⟩] none [4, 5, 7, 12, 13, 14])
    (.seq (.ops [⟨(some 18), .mov (.t 4), none, false⟩,
      ⟨(some 19), .mov (.t 5), none, false⟩,
      ⟨(some 20), .bslice true 1 1 [(.int .i64 0)] [(0, 1, (.t 19))], none, false⟩,
      ⟨(some 21), .append 1 8 (.t 18) (.t 20), none, false⟩,
      ⟨(some 4), .mov (.t 21), none, false⟩] none [4, 5, 7, 12, 13, 14])
    (.ops [⟨(some 22), .mov (.t 5), none, false⟩,
      ⟨(some 23), .mov (.t 7), none, false⟩,
      ⟨(some 24), .len true (.t 23), none, false⟩,
      ⟨(some 25), .bin .none .add (.t 24) (.c (.int .i64 1)), none, false⟩,
      ⟨(some 26), .bin .none .add (.t 22) (.t 25), none, false⟩,
      ⟨(some 5), .mov (.t 26), none, false⟩] none [4, 5, 12, 13, 14]))))
    (.ops [⟨(some 27), .bin .none .add (.t 14) (.c (.int .i64 1)), none, false⟩,
      ⟨(some 14), .mov (.t 27), none, false⟩] none [4, 5, 12, 13, 14])))))))
  (.seq (.ops [⟨(some 28), .mov (.t 4), none, false⟩,
    ⟨(some 2), .mov (.t 28), none, false⟩,
    ⟨(some 3), .mov (.c (.int .i64 0)), none, false⟩] none [2, 3])
  .ret))))))
def ref_LinesStarts_r : List RRes := [.tmp 2, .tmp 3]
def ref_LinesStarts_hi : Hi := ⟨[(4, (.int .i64)), (20, (.int .i64)), (21, (.int .i64))], [(0, "text"), (1, "text"), (4, "out"), (5, "at"), (7, "s")]⟩
def ref_LinesStarts_an : An := (.seq .d (.seq .d (.seq .d (.seq .d (.seq (.seq .d (.loop [4] [] [] .d)) .d)))))
def ref_LinesStarts_fi : Fi := ⟨29, ref_LinesStarts_c, ref_LinesStarts_r, ref_LinesStarts_an, ref_LinesStarts_hi⟩
theorem ref_LinesStarts_ok : FiOk Try.prog f_ref_LinesStarts ref_LinesStarts_fi :=
  ⟨by kernel_rfl, fun h hlen => fun_sound (fn := Try.f43) (draw_sound _ _) Try.func43 rfl (by kernel_rfl : comp Try.prog 29 _ ref_LinesStarts_c = some ref_LinesStarts_c) (by kernel_rfl : cRes Try.prog Try.f43.results.toList = some ref_LinesStarts_r) hlen h⟩

/-- fustian/fustianref.editMade: slots [0 text, 1 e, 2 text, 3 e, 5 out, 6 i] -/
def ref_editMade_c : SCode :=
  (.seq (.ops [⟨(some 3), .box 0 (.t 1), none, false⟩,
    ⟨(some 4), .mov (.c (.str [])), none, false⟩] none [0, 3])
  (.seq (.ops [⟨(some 5), .mov (.c (.str [])), none, false⟩] none [0, 3, 5])
  (.seq (.seq (.ops [⟨(some 6), .mov (.c (.int .i64 0)), none, false⟩] none [0, 3, 5, 6])
  (.block 0 (.loop [0, 3] [5, 6] 1
    (.seq (.seq (.ops [⟨(some 7), .mov (.t 6), none, false⟩,
      ⟨(some 8), .mov (.t 0), none, false⟩,
      ⟨(some 9), .len true (.t 8), none, false⟩,
      ⟨(some 10), .bin .none .leq (.t 7) (.t 9), none, false⟩] none [0, 3, 5, 6, 10])
    (.cond (.t 10)
      .skip
      (.exit 0)))
    (.join [0, 3, 6] [5] 1 (.block 1 (.join [0, 3, 6] [5] 1 (.seq (.ops [⟨(some 13), .mov (.t 6), none, false⟩,
          ⟨(some 14), .faddr 0 (.t 3), none, false⟩,
          ⟨(some 15), .load 1 false (.t 14), none, false⟩,
          ⟨(some 16), .bin .none .eql (.t 13) (.t 15), none, false⟩] none [0, 3, 5, 6, 16])
        (.cond (.t 16)
          (.ops [⟨(some 17), .mov (.t 5), none, false⟩,
            ⟨(some 18), .faddr 2 (.t 3), none, false⟩,
            ⟨(some 19), .load 1 false (.t 18), none, false⟩,
            ⟨(some 20), .bin .none .add (.t 17) (.t 19), none, false⟩,
            ⟨(some 5), .mov (.t 20), none, false⟩] none [0, 3, 5, 6])
          .skip))
      (.seq (.ops [⟨(some 21), .mov (.t 6), none, false⟩,
        ⟨(some 22), .mov (.t 0), none, false⟩,
        ⟨(some 23), .len true (.t 22), none, false⟩,
        ⟨(some 24), .bin .none .lss (.t 21) (.t 23), none, false⟩,
        ⟨(some 25), .mov (.t 24), none, true⟩,
        ⟨(some 26), .mov (.t 6), (some (25, true)), false⟩,
        ⟨(some 27), .faddr 0 (.t 3), (some (25, true)), false⟩,
        ⟨(some 28), .load 1 false (.t 27), (some (25, true)), false⟩,
        ⟨(some 29), .bin .none .lss (.t 26) (.t 28), (some (25, true)), false⟩,
        ⟨(some 30), .mov (.t 29), (some (25, true)), true⟩,
        ⟨(some 31), .mov (.t 6), (some (30, false)), false⟩,
        ⟨(some 32), .faddr 0 (.t 3), (some (30, false)), false⟩,
        ⟨(some 33), .load 1 false (.t 32), (some (30, false)), false⟩,
        ⟨(some 34), .faddr 1 (.t 3), (some (30, false)), false⟩,
        ⟨(some 35), .load 1 false (.t 34), (some (30, false)), false⟩,
        ⟨(some 36), .bin .none .add (.t 33) (.t 35), (some (30, false)), false⟩,
        ⟨(some 37), .bin .none .geq (.t 31) (.t 36), (some (30, false)), false⟩,
        ⟨(some 38), .pick (.t 30) (.c (.bool true)) (.t 37), (some (25, true)), false⟩,
        ⟨(some 39), .pick (.t 25) (.t 38) (.c (.bool false)), none, false⟩] none [0, 3, 5, 6, 39])
      (.cond (.t 39)
        (.ops [⟨(some 40), .mov (.t 5), none, false⟩,
          ⟨(some 41), .mov (.t 0), none, false⟩,
          ⟨(some 42), .mov (.t 6), none, false⟩,
          ⟨(some 43), .mov (.t 6), none, false⟩,
          ⟨(some 44), .bin .none .add (.t 43) (.c (.int .i64 1)), none, false⟩,
          ⟨(some 45), .slice 0 (.t 41) (some (.t 42)) (some (.t 44)), none, false⟩,
          ⟨(some 46), .bin .none .add (.t 40) (.t 45), none, false⟩,
          ⟨(some 5), .mov (.t 46), none, false⟩] none [0, 3, 5, 6])
        .skip))))
    (.ops [⟨(some 11), .mov (.t 6), none, false⟩,
      ⟨(some 12), .bin .none .add (.t 11) (.c (.int .i64 1)), none, false⟩,
      ⟨(some 6), .mov (.t 12), none, false⟩] none [0, 3, 5, 6]))))))
  (.seq (.ops [⟨(some 47), .mov (.t 5), none, false⟩,
    ⟨(some 4), .mov (.t 47), none, false⟩] none [4])
  .ret))))
def ref_editMade_r : List RRes := [.tmp 4]
def ref_editMade_hi : Hi := ⟨[(3, (.st (.cons (.int .i64) (.cons (.int .i64) (.cons .str .nil)))))], [(0, "text"), (1, "e"), (2, "text"), (3, "e"), (5, "out"), (6, "i")]⟩
def ref_editMade_an : An := (.seq .d (.seq .d (.seq (.seq .d (.loop [] [] [] .d)) .d)))
def ref_editMade_fi : Fi := ⟨48, ref_editMade_c, ref_editMade_r, ref_editMade_an, ref_editMade_hi⟩
theorem ref_editMade_ok : FiOk Try.prog f_ref_editMade ref_editMade_fi :=
  ⟨by kernel_rfl, fun h hlen => fun_sound (fn := Try.f44) (draw_sound _ _) Try.func44 rfl (by kernel_rfl : comp Try.prog 48 _ ref_editMade_c = some ref_editMade_c) (by kernel_rfl : cRes Try.prog Try.f44.results.toList = some ref_editMade_r) hlen h⟩

/-- fustian/fustianref.LinesUpdate: slots [0 starts, 1 size, 2 e, 3 starts, 4 size, 5 e, 8 f, 9 text, 10 i, 11 feed, 12 _, 13 n] -/
def ref_LinesUpdate_c : SCode :=
  (.seq (.ops [⟨(some 5), .box 0 (.t 2), none, false⟩,
    ⟨(some 6), .mov (.c .nils), none, false⟩,
    ⟨(some 7), .mov (.c (.int .i64 0)), none, false⟩] none [0, 1, 5])
  (.seq (.seq (.ops [⟨(some 14), .mov (.t 0), none, false⟩,
    ⟨(some 15), .call f_ref_startsMay [(.t 14)], none, false⟩,
    ⟨(some 16), .not (.t 15), none, false⟩,
    ⟨(some 17), .mov (.t 16), none, true⟩,
    ⟨(some 18), .mov (.t 0), (some (17, false)), false⟩,
    ⟨(some 19), .mov (.t 0), (some (17, false)), false⟩,
    ⟨(some 20), .len false (.t 19), (some (17, false)), false⟩,
    ⟨(some 21), .bin .none .sub (.t 20) (.c (.int .i64 1)), (some (17, false)), false⟩,
    ⟨(some 22), .iaddr 1 none (.t 18) (.t 21), (some (17, false)), false⟩,
    ⟨(some 23), .load 1 false (.t 22), (some (17, false)), false⟩,
    ⟨(some 24), .mov (.t 1), (some (17, false)), false⟩,
    ⟨(some 25), .bin .none .gtr (.t 23) (.t 24), (some (17, false)), false⟩,
    ⟨(some 26), .pick (.t 17) (.c (.bool true)) (.t 25), none, false⟩] none [0, 1, 5, 26])
  (.cond (.t 26)
    (.seq (.ops [⟨(some 6), .mov (.c .nils), none, false⟩,
      ⟨(some 7), .mov (.c (.int .i64 4)), none, false⟩] none [6, 7])
    .ret)
    .skip))
  (.seq (.seq (.ops [⟨(some 27), .mov (.t 1), none, false⟩,
    ⟨(some 28), .load 3 true (.t 5), none, false⟩,
    ⟨(some 29), .call f_ref_EditFault [(.t 27), (.t 28)], none, false⟩,
    ⟨(some 8), .mov (.t 29), none, false⟩] none [0, 1, 5, 8])
  (.seq (.ops [⟨(some 30), .mov (.t 8), none, false⟩,
    ⟨(some 31), .bin .none .neq (.t 30) (.c (.int .i64 0)), none, false⟩] none [0, 1, 5, 8, 31])
  (.cond (.t 31)
    (.seq (.ops [⟨(some 32), .mov (.t 8), none, false⟩,
      ⟨(some 6), .mov (.c .nils), none, false⟩,
      ⟨(some 7), .mov (.t 32), none, false⟩] none [6, 7])
    .ret)
    .skip)))
  (.seq (.ops [⟨(some 9), .mov (.c (.str [])), none, false⟩] none [0, 1, 5, 9])
  (.seq (.seq (.ops [⟨(some 10), .mov (.c (.int .i64 0)), none, false⟩] none [0, 1, 5, 9, 10])
  (.block 0 (.loop [0, 1, 5] [9, 10] 1
    (.seq (.seq (.ops [⟨(some 33), .mov (.t 10), none, false⟩,
      ⟨(some 34), .mov (.t 1), none, false⟩,
      ⟨(some 35), .bin .none .lss (.t 33) (.t 34), none, false⟩] none [0, 1, 5, 9, 10, 35])
    (.cond (.t 35)
      .skip
      (.exit 0)))
    (.join [0, 1, 5, 10] [9] 1 (.block 1 (.seq (.ops [⟨(some 11), .mov (.c (.bool false)), none, false⟩] none [0, 1, 5, 9, 10, 11])
      (.seq (.seq (.ops [⟨(some 38), .mov (.t 0), none, false⟩,
        ⟨(some 39), .len false (.t 38), none, false⟩,
        ⟨(some 40), .mov (.c (.int .i64 0)), none, false⟩] none [0, 1, 5, 9, 10, 11, 38, 39, 40])
      (.block 2 (.loop [0, 1, 5, 9, 10, 38, 39] [11, 40] 1
        (.seq (.ops [⟨(some 41), .bin .none .lss (.t 40) (.t 39), none, false⟩] none [0, 1, 5, 9, 10, 11, 38, 39, 40, 41])
        (.seq (.cond (.t 41)
          .skip
          (.exit 2))
        (.seq (.block 3 (.seq (.ops [⟨(some 42), .iaddr 1 none (.t 38) (.t 40), none, false⟩,
          ⟨(some 43), .load 1 false (.t 42), none, false⟩,
          ⟨(some 13), .mov (.t 43), none, false⟩] none [0, 1, 5, 9, 10, 11, 13, 38, 39, 40])
        (.ops [⟨(some 44), .mov (.t 11), none, false⟩,
          ⟨(some 45), .mov (.t 44), none, true⟩,
          ⟨(some 46), .mov (.t 13), (some (45, false)), false⟩,
          ⟨(some 47), .mov (.t 10), (some (45, false)), false⟩,
          ⟨(some 48), .bin .none .add (.t 47) (.c (.int .i64 1)), (some (45, false)), false⟩,
          ⟨(some 49), .bin .none .eql (.t 46) (.t 48), (some (45, false)), false⟩,
          ⟨(some 50), .pick (.t 45) (.c (.bool true)) (.t 49), none, false⟩,
          ⟨(some 11), .mov (.t 50), none, false⟩] none [0, 1, 5, 9, 10, 11, 38, 39, 40])))
        (.ops [⟨(some 51), .bin .none .add (.t 40) (.c (.int .i64 1)), none, false⟩,
          ⟨(some 40), .mov (.t 51), none, false⟩] none [0, 1, 5, 9, 10, 11, 38, 39, 40])))))))
      (.seq (.ops [⟨(some 52), .mov (.t 11), none, false⟩] none [0, 1, 5, 9, 10, 52])
      (.cond (.t 52)
        (.ops [⟨(some 53), .mov (.t 9), none, false⟩,
          ⟨(some 54), .bin .none .add (.t 53) (.c (.str [10])), none, false⟩,
          ⟨(some 9), .mov (.t 54), none, false⟩] none [0, 1, 5, 9, 10])
        (.ops [⟨(some 55), .mov (.t 9), none, false⟩,
          ⟨(some 56), .bin .none .add (.t 55) (.c (.str [120])), none, false⟩,
          ⟨(some 9), .mov (.t 56), none, false⟩] none [0, 1, 5, 9, 10]))))))
    (.ops [⟨(some 36), .mov (.t 10), none, false⟩,
      ⟨(some 37), .bin .none .add (.t 36) (.c (.int .i64 1)), none, false⟩,
      ⟨(some 10), .mov (.t 37), none, false⟩] none [0, 1, 5, 9, 10]))))))
  (.seq (.ops [⟨(some 57), .mov (.t 9), none, false⟩,
    ⟨(some 58), .load 3 true (.t 5), none, false⟩,
    ⟨(some 59), .call f_ref_editMade [(.t 57), (.t 58)], none, false⟩,
    ⟨(some 60), .call f_ref_LinesStarts [(.t 59)], none, false⟩,
    ⟨(some 61), .extract (.t 60) 0, none, false⟩,
    ⟨(some 62), .extract (.t 60) 1, none, false⟩,
    ⟨(some 6), .mov (.t 61), none, false⟩,
    ⟨(some 7), .mov (.t 62), none, false⟩] none [6, 7])
  .ret))))))
def ref_LinesUpdate_r : List RRes := [.tmp 6, .tmp 7]
def ref_LinesUpdate_hi : Hi := ⟨[(5, (.st (.cons (.int .i64) (.cons (.int .i64) (.cons .str .nil)))))], [(0, "starts"), (1, "size"), (2, "e"), (3, "starts"), (4, "size"), (5, "e"), (8, "f"), (9, "text"), (10, "i"), (11, "feed"), (13, "n")]⟩
def ref_LinesUpdate_an : An := (.seq .d (.seq .d (.seq .d (.seq .d (.seq (.seq .d (.loop [] [] [] (.seq .d (.seq (.seq .d (.seq (.seq .d (.loop [] [] [] .d)) .d)) .d)))) .d)))))
def ref_LinesUpdate_fi : Fi := ⟨63, ref_LinesUpdate_c, ref_LinesUpdate_r, ref_LinesUpdate_an, ref_LinesUpdate_hi⟩
theorem ref_LinesUpdate_ok : FiOk Try.prog f_ref_LinesUpdate ref_LinesUpdate_fi :=
  ⟨by kernel_rfl, fun h hlen => fun_sound (fn := Try.f16) (draw_sound _ _) Try.func16 rfl (by kernel_rfl : comp Try.prog 63 _ ref_LinesUpdate_c = some ref_LinesUpdate_c) (by kernel_rfl : cRes Try.prog Try.f16.results.toList = some ref_LinesUpdate_r) hlen h⟩

/-- fustian/fustianlaw.sameInts: slots [0 a, 1 b, 2 a, 3 b, 5 i] -/
def law_sameInts_c : SCode :=
  (.seq (.ops [⟨(some 4), .mov (.c (.bool false)), none, false⟩] none [0, 1])
  (.seq (.seq (.ops [⟨(some 6), .mov (.t 0), none, false⟩,
    ⟨(some 7), .len false (.t 6), none, false⟩,
    ⟨(some 8), .mov (.t 1), none, false⟩,
    ⟨(some 9), .len false (.t 8), none, false⟩,
    ⟨(some 10), .bin .none .neq (.t 7) (.t 9), none, false⟩] none [0, 1, 10])
  (.cond (.t 10)
    (.seq (.ops [⟨(some 4), .mov (.c (.bool false)), none, false⟩] none [4])
    .ret)
    .skip))
  (.seq (.seq (.ops [⟨(some 5), .mov (.c (.int .i64 0)), none, false⟩] none [0, 1, 5])
  (.block 0 (.loop [0, 1] [5] 0
    (.seq (.seq (.ops [⟨(some 11), .mov (.t 5), none, false⟩,
      ⟨(some 12), .mov (.t 0), none, false⟩,
      ⟨(some 13), .len false (.t 12), none, false⟩,
      ⟨(some 14), .bin .none .lss (.t 11) (.t 13), none, false⟩] none [0, 1, 5, 14])
    (.cond (.t 14)
      .skip
      (.exit 0)))
    (.seq (.block 1 (.seq (.ops [⟨(some 17), .mov (.t 0), none, false⟩,
      ⟨(some 18), .mov (.t 5), none, false⟩,
      ⟨(some 19), .iaddr 1 none (.t 17) (.t 18), none, false⟩,
      ⟨(some 20), .load 1 false (.t 19), none, false⟩,
      ⟨(some 21), .mov (.t 1), none, false⟩,
      ⟨(some 22), .mov (.t 5), none, false⟩,
      ⟨(some 23), .iaddr 1 none (.t 21) (.t 22), none, false⟩,
      ⟨(some 24), .load 1 false (.t 23), none, false⟩,
      ⟨(some 25), .bin .none .neq (.t 20) (.t 24), none, false⟩] (some (0, 0, [0, 1, 2, 3, 4, 5, 6, 7, 8])) [0, 1, 5, 25])
    (.cond (.t 25)
      (.seq (.ops [⟨(some 4), .mov (.c (.bool false)), none, false⟩] none [4])
      .ret)
      .skip)))
    (.ops [⟨(some 15), .mov (.t 5), none, false⟩,
      ⟨(some 16), .bin .none .add (.t 15) (.c (.int .i64 1)), none, false⟩,
      ⟨(some 5), .mov (.t 16), none, false⟩] none [0, 1, 5]))))))
  (.seq (.ops [⟨(some 4), .mov (.c (.bool true)), none, false⟩] none [4])
  .ret))))
def law_sameInts_r : List RRes := [.tmp 4]
def law_sameInts_hi : Hi := ⟨[], [(0, "a"), (1, "b"), (2, "a"), (3, "b"), (5, "i")]⟩
def law_sameInts_an : An := (.seq .d (.seq .d (.seq (.seq .d (.loop [] [] [] .d)) .d)))
def law_sameInts_fi : Fi := ⟨26, law_sameInts_c, law_sameInts_r, law_sameInts_an, law_sameInts_hi⟩
theorem law_sameInts_ok : FiOk Try.prog f_law_sameInts law_sameInts_fi :=
  ⟨by kernel_rfl, fun h hlen => fun_sound (fn := Try.f17) (draw_sound _ _) Try.func17 rfl (by kernel_rfl : comp Try.prog 26 _ law_sameInts_c = some law_sameInts_c) (by kernel_rfl : cRes Try.prog Try.f17.results.toList = some law_sameInts_r) hlen h⟩

/-- fustian/fustianlaw.LinesUpdates: slots [0 starts, 1 size, 2 e, 3 starts, 4 size, 5 e, 7 x, 8 f, 9 y, 10 g] -/
def law_LinesUpdates_c : SCode :=
  (.seq (.ops [⟨(some 5), .box 0 (.t 2), none, false⟩,
    ⟨(some 6), .mov (.c (.bool false)), none, false⟩] none [0, 1, 5])
  (.seq (.ops [⟨(some 12), .mov (.t 0), none, false⟩,
    ⟨(some 13), .mov (.t 1), none, false⟩,
    ⟨(some 14), .load 3 true (.t 5), none, false⟩,
    ⟨(some 15), .call f_lines_Update [(.t 12), (.t 13), (.t 14)], none, false⟩,
    ⟨(some 11), .mov (.t 15), none, false⟩,
    ⟨(some 16), .extract (.t 11) 0, none, false⟩,
    ⟨(some 17), .extract (.t 11) 1, none, false⟩,
    ⟨(some 7), .mov (.t 16), none, false⟩,
    ⟨(some 8), .mov (.t 17), none, false⟩] none [0, 1, 5, 7, 8])
  (.seq (.ops [⟨(some 19), .mov (.t 0), none, false⟩,
    ⟨(some 20), .mov (.t 1), none, false⟩,
    ⟨(some 21), .load 3 true (.t 5), none, false⟩,
    ⟨(some 22), .call f_ref_LinesUpdate [(.t 19), (.t 20), (.t 21)], none, false⟩,
    ⟨(some 18), .mov (.t 22), none, false⟩,
    ⟨(some 23), .extract (.t 18) 0, none, false⟩,
    ⟨(some 24), .extract (.t 18) 1, none, false⟩,
    ⟨(some 9), .mov (.t 23), none, false⟩,
    ⟨(some 10), .mov (.t 24), none, false⟩] none [7, 8, 9, 10])
  (.seq (.ops [⟨(some 25), .mov (.t 7), none, false⟩,
    ⟨(some 26), .mov (.t 9), none, false⟩,
    ⟨(some 27), .call f_law_sameInts [(.t 25), (.t 26)], none, false⟩,
    ⟨(some 28), .mov (.t 27), none, true⟩,
    ⟨(some 29), .mov (.t 8), (some (28, true)), false⟩,
    ⟨(some 30), .mov (.t 10), (some (28, true)), false⟩,
    ⟨(some 31), .bin .none .eql (.t 29) (.t 30), (some (28, true)), false⟩,
    ⟨(some 32), .pick (.t 28) (.t 31) (.c (.bool false)), none, false⟩,
    ⟨(some 6), .mov (.t 32), none, false⟩] none [6])
  .ret))))
def law_LinesUpdates_r : List RRes := [.tmp 6]
def law_LinesUpdates_hi : Hi := ⟨[(5, (.st (.cons (.int .i64) (.cons (.int .i64) (.cons .str .nil)))))], [(0, "starts"), (1, "size"), (2, "e"), (3, "starts"), (4, "size"), (5, "e"), (7, "x"), (8, "f"), (9, "y"), (10, "g")]⟩
def law_LinesUpdates_an : An := .d
def law_LinesUpdates_fi : Fi := ⟨33, law_LinesUpdates_c, law_LinesUpdates_r, law_LinesUpdates_an, law_LinesUpdates_hi⟩
theorem law_LinesUpdates_ok : FiOk Try.prog f_law_LinesUpdates law_LinesUpdates_fi :=
  ⟨by kernel_rfl, fun h hlen => fun_sound (fn := Try.f4) (draw_sound _ _) Try.func4 rfl (by kernel_rfl : comp Try.prog 33 _ law_LinesUpdates_c = some law_LinesUpdates_c) (by kernel_rfl : cRes Try.prog Try.f4.results.toList = some law_LinesUpdates_r) hlen h⟩

/-- sort.Search: slots [0 n, 1 f, 2 n, 3 f, 5 i, 6 j, 7 h] -/
def sort_Search_c : SCode :=
  (.seq (.ops [⟨(some 4), .mov (.c (.int .i64 0)), none, false⟩] none [0, 1])
  (.seq (.ops [⟨(some 8), .mov (.t 0), none, false⟩,
    ⟨(some 5), .mov (.c (.int .i64 0)), none, false⟩,
    ⟨(some 6), .mov (.t 8), none, false⟩] none [1, 5, 6])
  (.seq (.block 0 (.loop [1] [5, 6] 0
    (.seq (.seq (.ops [⟨(some 9), .mov (.t 5), none, false⟩,
      ⟨(some 10), .mov (.t 6), none, false⟩,
      ⟨(some 11), .bin .none .lss (.t 9) (.t 10), none, false⟩] none [1, 5, 6, 11])
    (.cond (.t 11)
      .skip
      (.exit 0)))
    (.block 1 (.seq (.ops [⟨(some 12), .mov (.t 5), none, false⟩,
      ⟨(some 13), .mov (.t 6), none, false⟩,
      ⟨(some 14), .bin .none .add (.t 12) (.t 13), none, false⟩,
      ⟨(some 15), .conv .u64 (.t 14), none, false⟩,
      ⟨(some 16), .bin .none .shr (.t 15) (.c (.int .u64 1)), none, false⟩,
      ⟨(some 17), .conv .i64 (.t 16), none, false⟩,
      ⟨(some 7), .mov (.t 17), none, false⟩] none [1, 5, 6, 7])
    (.seq (.ops [⟨(some 18), .mov (.t 1), none, false⟩,
      ⟨(some 19), .mov (.t 7), none, false⟩,
      ⟨(some 20), .callv (.t 18) [(.t 19)], none, false⟩,
      ⟨(some 21), .not (.t 20), none, false⟩] none [1, 5, 6, 7, 21])
    (.cond (.t 21)
      (.ops [⟨(some 22), .mov (.t 7), none, false⟩,
        ⟨(some 23), .bin .none .add (.t 22) (.c (.int .i64 1)), none, false⟩,
        ⟨(some 5), .mov (.t 23), none, false⟩] none [1, 5, 6])
      (.ops [⟨(some 24), .mov (.t 7), none, false⟩,
        ⟨(some 6), .mov (.t 24), none, false⟩] none [1, 5, 6]))))))))
  (.seq (.ops [⟨(some 25), .mov (.t 5), none, false⟩,
    ⟨(some 4), .mov (.t 25), none, false⟩] none [4])
  .ret))))
def sort_Search_r : List RRes := [.tmp 4]
def sort_Search_hi : Hi := ⟨[], [(0, "n"), (1, "f"), (2, "n"), (3, "f"), (5, "i"), (6, "j"), (7, "h")]⟩
def sort_Search_an : An := (.seq .d (.seq .d (.seq (.loop [1] [] [] .d) .d)))
def sort_Search_fi : Fi := ⟨26, sort_Search_c, sort_Search_r, sort_Search_an, sort_Search_hi⟩
theorem sort_Search_ok : FiOk Try.prog f_sort_Search sort_Search_fi :=
  ⟨by kernel_rfl, fun h hlen => fun_sound (fn := Try.f88) (draw_sound _ _) Try.func88 rfl (by kernel_rfl : comp Try.prog 26 _ sort_Search_c = some sort_Search_c) (by kernel_rfl : cRes Try.prog Try.f88.results.toList = some sort_Search_r) hlen h⟩

/-- sort.SearchInts$1: slots [0 i, 3 i] -/
def sort_SearchInts_1_c : SCode :=
  (.seq (.ops [⟨(some 4), .mov (.c (.bool false)), none, false⟩] none [0, 1, 2])
  (.seq (.ops [⟨(some 5), .load 1 false (.t 1), none, false⟩,
    ⟨(some 6), .mov (.t 0), none, false⟩,
    ⟨(some 7), .iaddr 1 none (.t 5) (.t 6), none, false⟩,
    ⟨(some 8), .load 1 false (.t 7), none, false⟩,
    ⟨(some 9), .load 1 false (.t 2), none, false⟩,
    ⟨(some 10), .bin .none .geq (.t 8) (.t 9), none, false⟩,
    ⟨(some 4), .mov (.t 10), none, false⟩] (some (0, 0, [0, 1, 2, 3, 4, 5, 6])) [4])
  .ret))
def sort_SearchInts_1_r : List RRes := [.tmp 4]
def sort_SearchInts_1_hi : Hi := ⟨[], [(0, "i"), (3, "i")]⟩
def sort_SearchInts_1_an : An := .d
def sort_SearchInts_1_fi : Fi := ⟨11, sort_SearchInts_1_c, sort_SearchInts_1_r, sort_SearchInts_1_an, sort_SearchInts_1_hi⟩
theorem sort_SearchInts_1_ok : FiOk Try.prog f_sort_SearchInts_1 sort_SearchInts_1_fi :=
  ⟨by kernel_rfl, fun h hlen => fun_sound (fn := Try.f89) (draw_sound _ _) Try.func89 rfl (by kernel_rfl : comp Try.prog 11 _ sort_SearchInts_1_c = some sort_SearchInts_1_c) (by kernel_rfl : cRes Try.prog Try.f89.results.toList = some sort_SearchInts_1_r) hlen h⟩

end Go.Proofs.Ytmknkkafindicaa
