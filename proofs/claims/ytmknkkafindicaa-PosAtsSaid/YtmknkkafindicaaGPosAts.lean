/- The functions' simplified code, printed by a program of the claim's author; each is checked against the program's own code. Conditions: none. -/
import Derived.Test.YtmknkkafindicaaProg
import Derived.Test.YtmknkkafindicaaVyM
set_option linter.unusedVariables false
set_option maxRecDepth 100000
namespace Go.Proofs.Ytmknkkafindicaa
open Go.Vc
abbrev f_gosem_cut_init : Nat := 2
abbrev f_law_WrapCosts : Nat := 3
abbrev f_law_LinesUpdates : Nat := 4
abbrev f_law_MarksMoves : Nat := 5
abbrev f_law_PosOfs : Nat := 6
abbrev f_law_PosAts : Nat := 7
abbrev f_law_SpansTakes : Nat := 8
abbrev f_law_SpansCuts : Nat := 9
abbrev f_law_SpansAdds : Nat := 10
abbrev f_law_SpansShifts : Nat := 11
abbrev f_law_FindReplaces : Nat := 12
abbrev f_wrap_Cost : Nat := 13
abbrev f_ref_WrapCost : Nat := 14
abbrev f_lines_Update : Nat := 15
abbrev f_ref_LinesUpdate : Nat := 16
abbrev f_law_sameInts : Nat := 17
abbrev f_marks_Move : Nat := 18
abbrev f_ref_MarksMoved : Nat := 19
abbrev f_pos_Of : Nat := 20
abbrev f_ref_PosOf : Nat := 21
abbrev f_pos_At : Nat := 22
abbrev f_ref_PosAt : Nat := 23
abbrev f_spans_Take : Nat := 24
abbrev f_ref_SpansTake : Nat := 25
abbrev f_law_sameSpans : Nat := 26
abbrev f_spans_Cut : Nat := 27
abbrev f_ref_SpansSet : Nat := 28
abbrev f_spans_Add : Nat := 29
abbrev f_spans_Shift : Nat := 30
abbrev f_ref_SpansShift : Nat := 31
abbrev f_find_Replace : Nat := 32
abbrev f_ref_FindReplace : Nat := 33
abbrev f_wrap_Check : Nat := 34
abbrev f_wrap_left : Nat := 35
abbrev f_ref_WrapFault : Nat := 36
abbrev f_ref_lineWide : Nat := 37
abbrev f_lines_may : Nat := 38
abbrev f_edit_Check : Nat := 39
abbrev f_lines_Updated : Nat := 40
abbrev f_ref_startsMay : Nat := 41
abbrev f_ref_EditFault : Nat := 42
abbrev f_ref_LinesStarts : Nat := 43
abbrev f_ref_editMade : Nat := 44
abbrev f_slices_ContainsFunc___api_Mark_api_Mark_ : Nat := 45
abbrev f_marks_Move_1 : Nat := 46
abbrev f_slices_Clone___api_Mark_api_Mark_ : Nat := 47
abbrev f_edit_Moved : Nat := 48
abbrev f_ref_editPlace : Nat := 49
abbrev f_strings_Count : Nat := 50
abbrev f_strings_LastIndexByte : Nat := 51
abbrev f_spans_May : Nat := 52
abbrev f_spans_Without : Nat := 53
abbrev f_ref_SpansMay : Nat := 54
abbrev f_ref_inSet : Nat := 55
abbrev f_ref_setOf : Nat := 56
abbrev f_spans_fault : Nat := 57
abbrev f_spans_full : Nat := 58
abbrev f_ref_spansFault : Nat := 59
abbrev f_spans_With : Nat := 60
abbrev f_spans_Shifted : Nat := 61
abbrev f_find_fault : Nat := 62
abbrev f_find_In : Nat := 63
abbrev f___strings_Builder__WriteString : Nat := 64
abbrev f___strings_Builder__Len : Nat := 65
abbrev f___strings_Builder__String : Nat := 66
abbrev f_ref_findFault : Nat := 67
abbrev f_ref_standsAt : Nat := 68
abbrev f_slices_ContainsFunc___int_int_ : Nat := 69
abbrev f_wrap_Check_1 : Nat := 70
abbrev f_sort_SearchInts : Nat := 71
abbrev f_ref_cutLines : Nat := 72
abbrev f_slices_IndexFunc___api_Mark_api_Mark_ : Nat := 73
abbrev f_unicode_utf8_RuneCountInString : Nat := 74
abbrev f_strings_Index : Nat := 76
abbrev f_internal_bytealg_LastIndexByteString : Nat := 77
abbrev f_slices_Clone___api_Span_api_Span_ : Nat := 78
abbrev f_slices_DeleteFunc___api_Span_api_Span_ : Nat := 79
abbrev f_spans_Without_1 : Nat := 80
abbrev f_slices_BinarySearchFunc___api_Span_api_Span_int_ : Nat := 81
abbrev f_spans_With_1 : Nat := 82
abbrev f_spans_Joined : Nat := 83
abbrev f_slices_Insert___api_Span_api_Span_ : Nat := 84
abbrev f_find_border : Nat := 85
abbrev f___strings_Builder__copyCheck : Nat := 86
abbrev f_slices_IndexFunc___int_int_ : Nat := 87
abbrev f_sort_Search : Nat := 88
abbrev f_sort_SearchInts_1 : Nat := 89
abbrev f_internal_stringslite_Index : Nat := 90
abbrev f_slices_IndexFunc___api_Span_api_Span_ : Nat := 91
abbrev f_slices_rotateRight_api_Span_ : Nat := 93
abbrev f_internal_stringslite_IndexByte : Nat := 95
abbrev f_internal_bytealg_Cutover : Nat := 97
abbrev f_internal_bytealg_IndexRabinKarp_string_ : Nat := 98
abbrev f_slices_rotateLeft_api_Span_ : Nat := 99
abbrev f_internal_bytealg_hashStr_string_ : Nat := 101
abbrev f_slices_Reverse___api_Span_api_Span_ : Nat := 102

/-- fustian/pos.Of: slots [0 text, 1 text] -/
def pos_Of_c : SCode :=
  (.seq (.ops [⟨(some 2), .alloc 0 [(.int .i64 0), (.int .i64 0), (.int .i64 0)], none, false⟩] none [0, 2])
  (.seq (.ops [⟨(some 3), .mov (.t 0), none, false⟩,
    ⟨(some 4), .len true (.t 3), none, false⟩,
    ⟨(some 5), .mov (.t 0), none, false⟩,
    ⟨(some 6), .call f_strings_Count [(.t 5), (.c (.str [10]))], none, false⟩,
    ⟨(some 7), .mov (.t 0), none, false⟩,
    ⟨(some 8), .len true (.t 7), none, false⟩,
    ⟨(some 9), .mov (.t 0), none, false⟩,
    ⟨(some 10), .call f_strings_LastIndexByte [(.t 9), (.c (.int .u8 10))], none, false⟩,
    ⟨(some 11), .bin .none .sub (.t 8) (.t 10), none, false⟩,
    ⟨(some 12), .bin .none .sub (.t 11) (.c (.int .i64 1)), none, false⟩,
    ⟨(some 13), .build [(.int .i64 0), (.int .i64 0), (.int .i64 0)] [(0, 1, (.t 4)), (1, 1, (.t 6)), (2, 1, (.t 12))], none, false⟩,
    ⟨none, .store 3 (.t 2) (.t 13), none, false⟩] none [2])
  .ret))
def pos_Of_r : List RRes := [.cell 2 3 true]
def pos_Of_hi : Hi := ⟨[(2, (.st (.cons (.int .i64) (.cons (.int .i64) (.cons (.int .i64) .nil)))))], [(0, "text"), (1, "text")]⟩
def pos_Of_an : An := .d
def pos_Of_fi : Fi := ⟨14, pos_Of_c, pos_Of_r, pos_Of_an, pos_Of_hi⟩
theorem pos_Of_ok : FiOk Try.prog f_pos_Of pos_Of_fi :=
  ⟨by kernel_rfl, fun h hlen => fun_sound (fn := Try.f20) (draw_sound _ _) Try.func20 rfl (by kernel_rfl : comp Try.prog 14 _ pos_Of_c = some pos_Of_c) (by kernel_rfl : cRes Try.prog Try.f20.results.toList = some pos_Of_r) hlen h⟩

/-- fustian/pos.At: slots [0 text, 1 at, 2 text, 3 at] -/
def pos_At_c : SCode :=
  (.seq (.ops [⟨(some 4), .alloc 0 [(.int .i64 0), (.int .i64 0), (.int .i64 0)], none, false⟩,
    ⟨(some 5), .mov (.c (.int .i64 0)), none, false⟩] none [0, 1, 4])
  (.seq (.seq (.ops [⟨(some 6), .mov (.t 1), none, false⟩,
    ⟨(some 7), .bin .none .lss (.t 6) (.c (.int .i64 0)), none, false⟩,
    ⟨(some 8), .mov (.t 7), none, true⟩,
    ⟨(some 9), .mov (.t 1), (some (8, false)), false⟩,
    ⟨(some 10), .mov (.t 0), (some (8, false)), false⟩,
    ⟨(some 11), .len true (.t 10), (some (8, false)), false⟩,
    ⟨(some 12), .bin .none .gtr (.t 9) (.t 11), (some (8, false)), false⟩,
    ⟨(some 13), .pick (.t 8) (.c (.bool true)) (.t 12), none, false⟩] none [0, 1, 4, 13])
  (.cond (.t 13)
    (.seq (.ops [⟨(some 14), .build [(.int .i64 0), (.int .i64 0), (.int .i64 0)] [], none, false⟩,
      ⟨none, .store 3 (.t 4) (.t 14), none, false⟩,
      ⟨(some 5), .mov (.c (.int .i64 2)), none, false⟩] none [4, 5])
    .ret)
    .skip))
  (.seq (.ops [⟨(some 15), .mov (.t 0), none, false⟩,
    ⟨(some 16), .mov (.t 1), none, false⟩,
    ⟨(some 17), .slice 0 (.t 15) none (some (.t 16)), none, false⟩,
    ⟨(some 18), .call f_pos_Of [(.t 17)], none, false⟩,
    ⟨none, .store 3 (.t 4) (.t 18), none, false⟩,
    ⟨(some 5), .mov (.c (.int .i64 0)), none, false⟩] none [4, 5])
  .ret)))
def pos_At_r : List RRes := [.cell 4 3 true, .tmp 5]
def pos_At_hi : Hi := ⟨[(4, (.st (.cons (.int .i64) (.cons (.int .i64) (.cons (.int .i64) .nil)))))], [(0, "text"), (1, "at"), (2, "text"), (3, "at")]⟩
def pos_At_an : An := .d
def pos_At_fi : Fi := ⟨19, pos_At_c, pos_At_r, pos_At_an, pos_At_hi⟩
theorem pos_At_ok : FiOk Try.prog f_pos_At pos_At_fi :=
  ⟨by kernel_rfl, fun h hlen => fun_sound (fn := Try.f22) (draw_sound _ _) Try.func22 rfl (by kernel_rfl : comp Try.prog 19 _ pos_At_c = some pos_At_c) (by kernel_rfl : cRes Try.prog Try.f22.results.toList = some pos_At_r) hlen h⟩

/-- fustian/fustianref.PosOf: slots [0 text, 1 text, 3 p, 4 i] -/
def ref_PosOf_c : SCode :=
  (.seq (.ops [⟨(some 2), .alloc 0 [(.int .i64 0), (.int .i64 0), (.int .i64 0)], none, false⟩] none [0, 2])
  (.seq (.ops [⟨(some 3), .alloc 0 [(.int .i64 0), (.int .i64 0), (.int .i64 0)], none, false⟩] none [0, 2, 3])
  (.seq (.seq (.ops [⟨(some 4), .mov (.c (.int .i64 0)), none, false⟩] none [0, 2, 3, 4])
  (.block 0 (.loop [0, 2, 3] [4] 2
    (.seq (.seq (.ops [⟨(some 5), .mov (.t 4), none, false⟩,
      ⟨(some 6), .mov (.t 0), none, false⟩,
      ⟨(some 7), .len true (.t 6), none, false⟩,
      ⟨(some 8), .bin .none .lss (.t 5) (.t 7), none, false⟩] none [0, 2, 3, 4, 8])
    (.cond (.t 8)
      .skip
      (.exit 0)))
    (.join [0, 2, 3, 4] [] 2 (.block 1 (.seq (.ops [⟨(some 11), .faddr 0 (.t 3), none, false⟩,
        ⟨(some 12), .load 1 false (.t 11), none, false⟩,
        ⟨(some 13), .bin .none .add (.t 12) (.c (.int .i64 1)), none, false⟩,
        ⟨(some 14), .faddr 0 (.t 3), none, false⟩,
        ⟨none, .store 1 (.t 14) (.t 13), none, false⟩] none [0, 2, 3, 4])
      (.seq (.ops [⟨(some 15), .faddr 2 (.t 3), none, false⟩,
        ⟨(some 16), .load 1 false (.t 15), none, false⟩,
        ⟨(some 17), .bin .none .add (.t 16) (.c (.int .i64 1)), none, false⟩,
        ⟨(some 18), .faddr 2 (.t 3), none, false⟩,
        ⟨none, .store 1 (.t 18) (.t 17), none, false⟩] none [0, 2, 3, 4])
      (.seq (.ops [⟨(some 19), .mov (.t 0), none, false⟩,
        ⟨(some 20), .mov (.t 4), none, false⟩,
        ⟨(some 21), .index 1 none false (.t 19) (.t 20), none, false⟩,
        ⟨(some 22), .bin .none .eql (.t 21) (.c (.int .u8 10)), none, false⟩] none [0, 2, 3, 4, 22])
      (.cond (.t 22)
        (.seq (.ops [⟨(some 23), .faddr 1 (.t 3), none, false⟩,
          ⟨(some 24), .load 1 false (.t 23), none, false⟩,
          ⟨(some 25), .bin .none .add (.t 24) (.c (.int .i64 1)), none, false⟩,
          ⟨(some 26), .faddr 1 (.t 3), none, false⟩,
          ⟨none, .store 1 (.t 26) (.t 25), none, false⟩] none [0, 2, 3, 4])
        (.ops [⟨(some 27), .faddr 2 (.t 3), none, false⟩,
          ⟨none, .store 1 (.t 27) (.c (.int .i64 0)), none, false⟩] none [0, 2, 3, 4]))
        .skip)))))
    (.ops [⟨(some 9), .mov (.t 4), none, false⟩,
      ⟨(some 10), .bin .none .add (.t 9) (.c (.int .i64 1)), none, false⟩,
      ⟨(some 4), .mov (.t 10), none, false⟩] none [0, 2, 3, 4]))))))
  (.seq (.ops [⟨(some 28), .load 3 true (.t 3), none, false⟩,
    ⟨none, .store 3 (.t 2) (.t 28), none, false⟩] none [2])
  .ret))))
def ref_PosOf_r : List RRes := [.cell 2 3 true]
def ref_PosOf_hi : Hi := ⟨[(2, (.st (.cons (.int .i64) (.cons (.int .i64) (.cons (.int .i64) .nil))))), (3, (.st (.cons (.int .i64) (.cons (.int .i64) (.cons (.int .i64) .nil)))))], [(0, "text"), (1, "text"), (3, "p"), (4, "i")]⟩
def ref_PosOf_an : An := (.seq .d (.seq .d (.seq (.seq .d (.loop [3] [] [] .d)) .d)))
def ref_PosOf_fi : Fi := ⟨29, ref_PosOf_c, ref_PosOf_r, ref_PosOf_an, ref_PosOf_hi⟩
theorem ref_PosOf_ok : FiOk Try.prog f_ref_PosOf ref_PosOf_fi :=
  ⟨by kernel_rfl, fun h hlen => fun_sound (fn := Try.f21) (draw_sound _ _) Try.func21 rfl (by kernel_rfl : comp Try.prog 29 _ ref_PosOf_c = some ref_PosOf_c) (by kernel_rfl : cRes Try.prog Try.f21.results.toList = some ref_PosOf_r) hlen h⟩

/-- fustian/fustianref.PosAt: slots [0 text, 1 at, 2 text, 3 at] -/
def ref_PosAt_c : SCode :=
  (.seq (.ops [⟨(some 4), .alloc 0 [(.int .i64 0), (.int .i64 0), (.int .i64 0)], none, false⟩,
    ⟨(some 5), .mov (.c (.int .i64 0)), none, false⟩] none [0, 1, 4])
  (.seq (.seq (.ops [⟨(some 6), .mov (.t 1), none, false⟩,
    ⟨(some 7), .bin .none .lss (.t 6) (.c (.int .i64 0)), none, false⟩,
    ⟨(some 8), .mov (.t 7), none, true⟩,
    ⟨(some 9), .mov (.t 1), (some (8, false)), false⟩,
    ⟨(some 10), .mov (.t 0), (some (8, false)), false⟩,
    ⟨(some 11), .len true (.t 10), (some (8, false)), false⟩,
    ⟨(some 12), .bin .none .gtr (.t 9) (.t 11), (some (8, false)), false⟩,
    ⟨(some 13), .pick (.t 8) (.c (.bool true)) (.t 12), none, false⟩] none [0, 1, 4, 13])
  (.cond (.t 13)
    (.seq (.ops [⟨(some 14), .build [(.int .i64 0), (.int .i64 0), (.int .i64 0)] [], none, false⟩,
      ⟨none, .store 3 (.t 4) (.t 14), none, false⟩,
      ⟨(some 5), .mov (.c (.int .i64 2)), none, false⟩] none [4, 5])
    .ret)
    .skip))
  (.seq (.ops [⟨(some 15), .mov (.t 0), none, false⟩,
    ⟨(some 16), .mov (.t 1), none, false⟩,
    ⟨(some 17), .slice 0 (.t 15) none (some (.t 16)), none, false⟩,
    ⟨(some 18), .call f_ref_PosOf [(.t 17)], none, false⟩,
    ⟨none, .store 3 (.t 4) (.t 18), none, false⟩,
    ⟨(some 5), .mov (.c (.int .i64 0)), none, false⟩] none [4, 5])
  .ret)))
def ref_PosAt_r : List RRes := [.cell 4 3 true, .tmp 5]
def ref_PosAt_hi : Hi := ⟨[(4, (.st (.cons (.int .i64) (.cons (.int .i64) (.cons (.int .i64) .nil)))))], [(0, "text"), (1, "at"), (2, "text"), (3, "at")]⟩
def ref_PosAt_an : An := .d
def ref_PosAt_fi : Fi := ⟨19, ref_PosAt_c, ref_PosAt_r, ref_PosAt_an, ref_PosAt_hi⟩
theorem ref_PosAt_ok : FiOk Try.prog f_ref_PosAt ref_PosAt_fi :=
  ⟨by kernel_rfl, fun h hlen => fun_sound (fn := Try.f23) (draw_sound _ _) Try.func23 rfl (by kernel_rfl : comp Try.prog 19 _ ref_PosAt_c = some ref_PosAt_c) (by kernel_rfl : cRes Try.prog Try.f23.results.toList = some ref_PosAt_r) hlen h⟩

/-- fustian/fustianlaw.PosAts: slots [0 text, 1 at, 2 text, 3 at, 5 x, 6 e, 7 y, 8 f] -/
def law_PosAts_c : SCode :=
  (.seq (.ops [⟨(some 4), .mov (.c (.bool false)), none, false⟩] none [0, 1])
  (.seq (.ops [⟨(some 10), .mov (.t 0), none, false⟩,
    ⟨(some 11), .mov (.t 1), none, false⟩,
    ⟨(some 12), .call f_pos_At [(.t 10), (.t 11)], none, false⟩,
    ⟨(some 9), .mov (.t 12), none, false⟩,
    ⟨(some 13), .extract (.t 9) 0, none, false⟩,
    ⟨(some 14), .extract (.t 9) 1, none, false⟩,
    ⟨(some 5), .alloc 0 [(.int .i64 0), (.int .i64 0), (.int .i64 0)], none, false⟩,
    ⟨none, .store 3 (.t 5) (.t 13), none, false⟩,
    ⟨(some 6), .mov (.t 14), none, false⟩] none [0, 1, 5, 6])
  (.seq (.ops [⟨(some 16), .mov (.t 0), none, false⟩,
    ⟨(some 17), .mov (.t 1), none, false⟩,
    ⟨(some 18), .call f_ref_PosAt [(.t 16), (.t 17)], none, false⟩,
    ⟨(some 15), .mov (.t 18), none, false⟩,
    ⟨(some 19), .extract (.t 15) 0, none, false⟩,
    ⟨(some 20), .extract (.t 15) 1, none, false⟩,
    ⟨(some 7), .alloc 0 [(.int .i64 0), (.int .i64 0), (.int .i64 0)], none, false⟩,
    ⟨none, .store 3 (.t 7) (.t 19), none, false⟩,
    ⟨(some 8), .mov (.t 20), none, false⟩] none [5, 6, 7, 8])
  (.seq (.ops [⟨(some 21), .load 3 true (.t 5), none, false⟩,
    ⟨(some 22), .load 3 true (.t 7), none, false⟩,
    ⟨(some 23), .bin (.agg [.int, .int, .int]) .eql (.t 21) (.t 22), none, false⟩,
    ⟨(some 24), .mov (.t 23), none, true⟩,
    ⟨(some 25), .mov (.t 6), (some (24, true)), false⟩,
    ⟨(some 26), .mov (.t 8), (some (24, true)), false⟩,
    ⟨(some 27), .bin .none .eql (.t 25) (.t 26), (some (24, true)), false⟩,
    ⟨(some 28), .pick (.t 24) (.t 27) (.c (.bool false)), none, false⟩,
    ⟨(some 4), .mov (.t 28), none, false⟩] none [4])
  .ret))))
def law_PosAts_r : List RRes := [.tmp 4]
def law_PosAts_hi : Hi := ⟨[(5, (.st (.cons (.int .i64) (.cons (.int .i64) (.cons (.int .i64) .nil))))), (7, (.st (.cons (.int .i64) (.cons (.int .i64) (.cons (.int .i64) .nil)))))], [(0, "text"), (1, "at"), (2, "text"), (3, "at"), (5, "x"), (6, "e"), (7, "y"), (8, "f")]⟩
def law_PosAts_an : An := .d
def law_PosAts_fi : Fi := ⟨29, law_PosAts_c, law_PosAts_r, law_PosAts_an, law_PosAts_hi⟩
theorem law_PosAts_ok : FiOk Try.prog f_law_PosAts law_PosAts_fi :=
  ⟨by kernel_rfl, fun h hlen => fun_sound (fn := Try.f7) (draw_sound _ _) Try.func7 rfl (by kernel_rfl : comp Try.prog 29 _ law_PosAts_c = some law_PosAts_c) (by kernel_rfl : cRes Try.prog Try.f7.results.toList = some law_PosAts_r) hlen h⟩

/-- strings.Count: slots [0 s, 1 substr, 2 s, 3 substr, 5 n, 6 i] -/
def strings_Count_c : SCode :=
  (.seq (.ops [⟨(some 4), .mov (.c (.int .i64 0)), none, false⟩] none [0, 1])
  (.seq (.seq (.ops [⟨(some 7), .mov (.t 1), none, false⟩,
    ⟨(some 8), .len true (.t 7), none, false⟩,
    ⟨(some 9), .bin .none .eql (.t 8) (.c (.int .i64 0)), none, false⟩] none [0, 1, 9])
  (.cond (.t 9)
    (.seq (.ops [⟨(some 10), .mov (.t 0), none, false⟩,
      ⟨(some 11), .call f_unicode_utf8_RuneCountInString [(.t 10)], none, false⟩,
      ⟨(some 12), .bin .none .add (.t 11) (.c (.int .i64 1)), none, false⟩,
      ⟨(some 4), .mov (.t 12), none, false⟩] none [4])
    .ret)
    .skip))
  (.seq (.seq (.ops [⟨(some 13), .mov (.t 1), none, false⟩,
    ⟨(some 14), .len true (.t 13), none, false⟩,
    ⟨(some 15), .bin .none .eql (.t 14) (.c (.int .i64 1)), none, false⟩] none [0, 1, 15])
  (.cond (.t 15)
    (.seq (.ops [⟨(some 16), .mov (.t 0), none, false⟩,
      ⟨(some 17), .mov (.t 1), none, false⟩,
      ⟨(some 18), .index 1 none false (.t 17) (.c (.int .i64 0)), none, false⟩,
      ⟨(some 19), .ext .cnt [(.t 16), (.t 18)], none, false⟩,
      ⟨(some 4), .mov (.t 19), none, false⟩] none [4])
    .ret)
    .skip))
  (.seq (.ops [⟨(some 5), .mov (.c (.int .i64 0)), none, false⟩] none [0, 1, 5])
  (.block 0 (.loop [1] [0, 5] 0
    (.block 1 (.seq (.ops [⟨(some 20), .mov (.t 0), none, false⟩,
      ⟨(some 21), .mov (.t 1), none, false⟩,
      ⟨(some 22), .call f_strings_Index [(.t 20), (.t 21)], none, false⟩,
      ⟨(some 6), .mov (.t 22), none, false⟩] none [0, 1, 5, 6])
    (.seq (.seq (.ops [⟨(some 23), .mov (.t 6), none, false⟩,
      ⟨(some 24), .bin .none .eql (.t 23) (.c (.int .i64 (-1))), none, false⟩] none [0, 1, 5, 6, 24])
    (.cond (.t 24)
      (.seq (.ops [⟨(some 25), .mov (.t 5), none, false⟩,
        ⟨(some 4), .mov (.t 25), none, false⟩] none [4])
      .ret)
      .skip))
    (.seq (.ops [⟨(some 26), .mov (.t 5), none, false⟩,
      ⟨(some 27), .bin .none .add (.t 26) (.c (.int .i64 1)), none, false⟩,
      ⟨(some 5), .mov (.t 27), none, false⟩] none [0, 1, 5, 6])
    (.ops [⟨(some 28), .mov (.t 0), none, false⟩,
      ⟨(some 29), .mov (.t 6), none, false⟩,
      ⟨(some 30), .mov (.t 1), none, false⟩,
      ⟨(some 31), .len true (.t 30), none, false⟩,
      ⟨(some 32), .bin .none .add (.t 29) (.t 31), none, false⟩,
      ⟨(some 33), .slice 0 (.t 28) (some (.t 32)) none, none, false⟩,
      ⟨(some 0), .mov (.t 33), none, false⟩] none [0, 1, 5])))))))))))
def strings_Count_r : List RRes := [.tmp 4]
def strings_Count_hi : Hi := ⟨[], [(0, "s"), (1, "substr"), (2, "s"), (3, "substr"), (5, "n"), (6, "i")]⟩
def strings_Count_an : An := (.seq .d (.seq .d (.seq .d (.seq .d (.loop [] [] [] .d)))))
def strings_Count_fi : Fi := ⟨34, strings_Count_c, strings_Count_r, strings_Count_an, strings_Count_hi⟩
theorem strings_Count_ok : FiOk Try.prog f_strings_Count strings_Count_fi :=
  ⟨by kernel_rfl, fun h hlen => fun_sound (fn := Try.f50) (draw_sound _ _) Try.func50 rfl (by kernel_rfl : comp Try.prog 34 _ strings_Count_c = some strings_Count_c) (by kernel_rfl : cRes Try.prog Try.f50.results.toList = some strings_Count_r) hlen h⟩

/-- strings.LastIndexByte: slots [0 s, 1 c, 2 s, 3 c] -/
def strings_LastIndexByte_c : SCode :=
  (.seq (.ops [⟨(some 4), .mov (.c (.int .i64 0)), none, false⟩] none [0, 1])
  (.seq (.ops [⟨(some 5), .mov (.t 0), none, false⟩,
    ⟨(some 6), .mov (.t 1), none, false⟩,
    ⟨(some 7), .call f_internal_bytealg_LastIndexByteString [(.t 5), (.t 6)], none, false⟩,
    ⟨(some 4), .mov (.t 7), none, false⟩] none [4])
  .ret))
def strings_LastIndexByte_r : List RRes := [.tmp 4]
def strings_LastIndexByte_hi : Hi := ⟨[], [(0, "s"), (1, "c"), (2, "s"), (3, "c")]⟩
def strings_LastIndexByte_an : An := .d
def strings_LastIndexByte_fi : Fi := ⟨8, strings_LastIndexByte_c, strings_LastIndexByte_r, strings_LastIndexByte_an, strings_LastIndexByte_hi⟩
theorem strings_LastIndexByte_ok : FiOk Try.prog f_strings_LastIndexByte strings_LastIndexByte_fi :=
  ⟨by kernel_rfl, fun h hlen => fun_sound (fn := Try.f51) (draw_sound _ _) Try.func51 rfl (by kernel_rfl : comp Try.prog 8 _ strings_LastIndexByte_c = some strings_LastIndexByte_c) (by kernel_rfl : cRes Try.prog Try.f51.results.toList = some strings_LastIndexByte_r) hlen h⟩

/-- internal/bytealg.LastIndexByteString: slots [0 s, 1 c, 2 s, 3 c, 5 i] -/
def internal_bytealg_LastIndexByteString_c : SCode :=
  (.seq (.ops [⟨(some 4), .mov (.c (.int .i64 0)), none, false⟩] none [0, 1])
  (.seq (.seq (.ops [⟨(some 6), .mov (.t 0), none, false⟩,
    ⟨(some 7), .len true (.t 6), none, false⟩,
    ⟨(some 8), .bin .none .sub (.t 7) (.c (.int .i64 1)), none, false⟩,
    ⟨(some 5), .mov (.t 8), none, false⟩] none [0, 1, 5])
  (.block 0 (.loop [0, 1] [5] 0
    (.seq (.seq (.ops [⟨(some 9), .mov (.t 5), none, false⟩,
      ⟨(some 10), .bin .none .geq (.t 9) (.c (.int .i64 0)), none, false⟩] none [0, 1, 5, 10])
    (.cond (.t 10)
      .skip
      (.exit 0)))
    (.seq (.block 1 (.seq (.ops [⟨(some 13), .mov (.t 0), none, false⟩,
      ⟨(some 14), .mov (.t 5), none, false⟩,
      ⟨(some 15), .index 1 none false (.t 13) (.t 14), none, false⟩,
      ⟨(some 16), .mov (.t 1), none, false⟩,
      ⟨(some 17), .bin .none .eql (.t 15) (.t 16), none, false⟩] none [0, 1, 5, 17])
    (.cond (.t 17)
      (.seq (.ops [⟨(some 18), .mov (.t 5), none, false⟩,
        ⟨(some 4), .mov (.t 18), none, false⟩] none [4])
      .ret)
      .skip)))
    (.ops [⟨(some 11), .mov (.t 5), none, false⟩,
      ⟨(some 12), .bin .none .sub (.t 11) (.c (.int .i64 1)), none, false⟩,
      ⟨(some 5), .mov (.t 12), none, false⟩] none [0, 1, 5]))))))
  (.seq (.ops [⟨(some 4), .mov (.c (.int .i64 (-1))), none, false⟩] none [4])
  .ret)))
def internal_bytealg_LastIndexByteString_r : List RRes := [.tmp 4]
def internal_bytealg_LastIndexByteString_hi : Hi := ⟨[], [(0, "s"), (1, "c"), (2, "s"), (3, "c"), (5, "i")]⟩
def internal_bytealg_LastIndexByteString_an : An := (.seq .d (.seq (.seq .d (.loop [] [] [] .d)) .d))
def internal_bytealg_LastIndexByteString_fi : Fi := ⟨19, internal_bytealg_LastIndexByteString_c, internal_bytealg_LastIndexByteString_r, internal_bytealg_LastIndexByteString_an, internal_bytealg_LastIndexByteString_hi⟩
theorem internal_bytealg_LastIndexByteString_ok : FiOk Try.prog f_internal_bytealg_LastIndexByteString internal_bytealg_LastIndexByteString_fi :=
  ⟨by kernel_rfl, fun h hlen => fun_sound (fn := Try.f77) (draw_sound _ _) Try.func77 rfl (by kernel_rfl : comp Try.prog 19 _ internal_bytealg_LastIndexByteString_c = some internal_bytealg_LastIndexByteString_c) (by kernel_rfl : cRes Try.prog Try.f77.results.toList = some internal_bytealg_LastIndexByteString_r) hlen h⟩

end Go.Proofs.Ytmknkkafindicaa
