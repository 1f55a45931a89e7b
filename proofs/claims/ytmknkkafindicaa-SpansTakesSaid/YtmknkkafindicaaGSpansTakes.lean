/- The functions' simplified code, printed by a program of the claim's author; each is checked against the program's own code. Conditions: none. -/
import Derived.Test.YtmknkkafindicaaProg
import Derived.Test.YtmknkkafindicaaVyM
set_option linter.unusedVariables false
set_option maxRecDepth 100000
namespace Go.Proofs.Ytmknkkafindicaa
open Go.Vc
abbrev f_gosem_cut_init : Nat := 2
abbrev f_law_WrapCosts : Nat := 3
abbrev f_law_LinesUpdates : Nat := 4
abbrev f_law_MarksMoves : Nat := 5
abbrev f_law_PosOfs : Nat := 6
abbrev f_law_PosAts : Nat := 7
abbrev f_law_SpansTakes : Nat := 8
abbrev f_law_SpansCuts : Nat := 9
abbrev f_law_SpansAdds : Nat := 10
abbrev f_law_SpansShifts : Nat := 11
abbrev f_law_FindReplaces : Nat := 12
abbrev f_wrap_Cost : Nat := 13
abbrev f_ref_WrapCost : Nat := 14
abbrev f_lines_Update : Nat := 15
abbrev f_ref_LinesUpdate : Nat := 16
abbrev f_law_sameInts : Nat := 17
abbrev f_marks_Move : Nat := 18
abbrev f_ref_MarksMoved : Nat := 19
abbrev f_pos_Of : Nat := 20
abbrev f_ref_PosOf : Nat := 21
abbrev f_pos_At : Nat := 22
abbrev f_ref_PosAt : Nat := 23
abbrev f_spans_Take : Nat := 24
abbrev f_ref_SpansTake : Nat := 25
abbrev f_law_sameSpans : Nat := 26
abbrev f_spans_Cut : Nat := 27
abbrev f_ref_SpansSet : Nat := 28
abbrev f_spans_Add : Nat := 29
abbrev f_spans_Shift : Nat := 30
abbrev f_ref_SpansShift : Nat := 31
abbrev f_find_Replace : Nat := 32
abbrev f_ref_FindReplace : Nat := 33
abbrev f_wrap_Check : Nat := 34
abbrev f_wrap_left : Nat := 35
abbrev f_ref_WrapFault : Nat := 36
abbrev f_ref_lineWide : Nat := 37
abbrev f_lines_may : Nat := 38
abbrev f_edit_Check : Nat := 39
abbrev f_lines_Updated : Nat := 40
abbrev f_ref_startsMay : Nat := 41
abbrev f_ref_EditFault : Nat := 42
abbrev f_ref_LinesStarts : Nat := 43
abbrev f_ref_editMade : Nat := 44
abbrev f_slices_ContainsFunc___api_Mark_api_Mark_ : Nat := 45
abbrev f_marks_Move_1 : Nat := 46
abbrev f_slices_Clone___api_Mark_api_Mark_ : Nat := 47
abbrev f_edit_Moved : Nat := 48
abbrev f_ref_editPlace : Nat := 49
abbrev f_strings_Count : Nat := 50
abbrev f_strings_LastIndexByte : Nat := 51
abbrev f_spans_May : Nat := 52
abbrev f_spans_Without : Nat := 53
abbrev f_ref_SpansMay : Nat := 54
abbrev f_ref_inSet : Nat := 55
abbrev f_ref_setOf : Nat := 56
abbrev f_spans_fault : Nat := 57
abbrev f_spans_full : Nat := 58
abbrev f_ref_spansFault : Nat := 59
abbrev f_spans_With : Nat := 60
abbrev f_spans_Shifted : Nat := 61
abbrev f_find_fault : Nat := 62
abbrev f_find_In : Nat := 63
abbrev f___strings_Builder__WriteString : Nat := 64
abbrev f___strings_Builder__Len : Nat := 65
abbrev f___strings_Builder__String : Nat := 66
abbrev f_ref_findFault : Nat := 67
abbrev f_ref_standsAt : Nat := 68
abbrev f_slices_ContainsFunc___int_int_ : Nat := 69
abbrev f_wrap_Check_1 : Nat := 70
abbrev f_sort_SearchInts : Nat := 71
abbrev f_ref_cutLines : Nat := 72
abbrev f_slices_IndexFunc___api_Mark_api_Mark_ : Nat := 73
abbrev f_unicode_utf8_RuneCountInString : Nat := 74
abbrev f_strings_Index : Nat := 76
abbrev f_internal_bytealg_LastIndexByteString : Nat := 77
abbrev f_slices_Clone___api_Span_api_Span_ : Nat := 78
abbrev f_slices_DeleteFunc___api_Span_api_Span_ : Nat := 79
abbrev f_spans_Without_1 : Nat := 80
abbrev f_slices_BinarySearchFunc___api_Span_api_Span_int_ : Nat := 81
abbrev f_spans_With_1 : Nat := 82
abbrev f_spans_Joined : Nat := 83
abbrev f_slices_Insert___api_Span_api_Span_ : Nat := 84
abbrev f_find_border : Nat := 85
abbrev f___strings_Builder__copyCheck : Nat := 86
abbrev f_slices_IndexFunc___int_int_ : Nat := 87
abbrev f_sort_Search : Nat := 88
abbrev f_sort_SearchInts_1 : Nat := 89
abbrev f_internal_stringslite_Index : Nat := 90
abbrev f_slices_IndexFunc___api_Span_api_Span_ : Nat := 91
abbrev f_slices_rotateRight_api_Span_ : Nat := 93
abbrev f_internal_stringslite_IndexByte : Nat := 95
abbrev f_internal_bytealg_Cutover : Nat := 97
abbrev f_internal_bytealg_IndexRabinKarp_string_ : Nat := 98
abbrev f_slices_rotateLeft_api_Span_ : Nat := 99
abbrev f_internal_bytealg_hashStr_string_ : Nat := 101
abbrev f_slices_Reverse___api_Span_api_Span_ : Nat := 102

/-- fustian/spans.May: slots [0 size, 1 l, 2 size, 3 l, 5 last, 6 _, 7 s] -/
def spans_May_c : SCode :=
  (.seq (.ops [⟨(some 4), .mov (.c (.bool false)), none, false⟩] none [0, 1])
  (.seq (.seq (.ops [⟨(some 8), .mov (.t 0), none, false⟩,
    ⟨(some 9), .bin .none .lss (.t 8) (.c (.int .i64 0)), none, false⟩,
    ⟨(some 10), .mov (.t 9), none, true⟩,
    ⟨(some 11), .mov (.t 0), (some (10, false)), false⟩,
    ⟨(some 12), .bin .none .gtr (.t 11) (.c (.int .i64 600)), (some (10, false)), false⟩,
    ⟨(some 13), .pick (.t 10) (.c (.bool true)) (.t 12), none, false⟩,
    ⟨(some 14), .mov (.t 13), none, true⟩,
    ⟨(some 15), .mov (.t 1), (some (14, false)), false⟩,
    ⟨(some 16), .len false (.t 15), (some (14, false)), false⟩,
    ⟨(some 17), .bin .none .gtr (.t 16) (.c (.int .i64 40)), (some (14, false)), false⟩,
    ⟨(some 18), .pick (.t 14) (.c (.bool true)) (.t 17), none, false⟩] none [0, 1, 18])
  (.cond (.t 18)
    (.seq (.ops [⟨(some 4), .mov (.c (.bool false)), none, false⟩] none [4])
    .ret)
    .skip))
  (.seq (.ops [⟨(some 5), .mov (.c (.int .i64 (-1))), none, false⟩] none [0, 1, 5])
  (.seq (.seq (.ops [⟨(some 19), .mov (.t 1), none, false⟩,
    ⟨(some 20), .len false (.t 19), none, false⟩,
    ⟨(some 21), .mov (.c (.int .i64 0)), none, false⟩] none [0, 5, 19, 20, 21])
  (.block 0 (.loop [0, 19, 20] [5, 21] 0
    (.seq (.ops [⟨(some 22), .bin .none .lss (.t 21) (.t 20), none, false⟩] none [0, 5, 19, 20, 21, 22])
    (.seq (.cond (.t 22)
      .skip
      (.exit 0))
    (.seq (.block 1 (.seq (.ops [⟨(some 23), .iaddr 2 none (.t 19) (.t 21), none, false⟩,
      ⟨(some 24), .load 2 true (.t 23), none, false⟩,
      ⟨(some 7), .alloc 0 [(.int .i64 0), (.int .i64 0)], none, false⟩,
      ⟨none, .store 2 (.t 7) (.t 24), none, false⟩] none [0, 5, 7, 19, 20, 21])
    (.seq (.seq (.ops [⟨(some 25), .faddr 0 (.t 7), none, false⟩,
      ⟨(some 26), .load 1 false (.t 25), none, false⟩,
      ⟨(some 27), .mov (.t 5), none, false⟩,
      ⟨(some 28), .bin .none .leq (.t 26) (.t 27), none, false⟩,
      ⟨(some 29), .mov (.t 28), none, true⟩,
      ⟨(some 30), .faddr 0 (.t 7), (some (29, false)), false⟩,
      ⟨(some 31), .load 1 false (.t 30), (some (29, false)), false⟩,
      ⟨(some 32), .faddr 1 (.t 7), (some (29, false)), false⟩,
      ⟨(some 33), .load 1 false (.t 32), (some (29, false)), false⟩,
      ⟨(some 34), .bin .none .geq (.t 31) (.t 33), (some (29, false)), false⟩,
      ⟨(some 35), .pick (.t 29) (.c (.bool true)) (.t 34), none, false⟩,
      ⟨(some 36), .mov (.t 35), none, true⟩,
      ⟨(some 37), .faddr 1 (.t 7), (some (36, false)), false⟩,
      ⟨(some 38), .load 1 false (.t 37), (some (36, false)), false⟩,
      ⟨(some 39), .mov (.t 0), (some (36, false)), false⟩,
      ⟨(some 40), .bin .none .gtr (.t 38) (.t 39), (some (36, false)), false⟩,
      ⟨(some 41), .pick (.t 36) (.c (.bool true)) (.t 40), none, false⟩] none [0, 7, 19, 20, 21, 41])
    (.cond (.t 41)
      (.seq (.ops [⟨(some 4), .mov (.c (.bool false)), none, false⟩] none [4])
      .ret)
      .skip))
    (.ops [⟨(some 42), .faddr 1 (.t 7), none, false⟩,
      ⟨(some 43), .load 1 false (.t 42), none, false⟩,
      ⟨(some 5), .mov (.t 43), none, false⟩] none [0, 5, 19, 20, 21]))))
    (.ops [⟨(some 44), .bin .none .add (.t 21) (.c (.int .i64 1)), none, false⟩,
      ⟨(some 21), .mov (.t 44), none, false⟩] none [0, 5, 19, 20, 21])))))))
  (.seq (.ops [⟨(some 4), .mov (.c (.bool true)), none, false⟩] none [4])
  .ret)))))
def spans_May_r : List RRes := [.tmp 4]
def spans_May_hi : Hi := ⟨[(7, (.st (.cons (.int .i64) (.cons (.int .i64) .nil))))], [(0, "size"), (1, "l"), (2, "size"), (3, "l"), (5, "last"), (7, "s")]⟩
def spans_May_an : An := (.seq .d (.seq .d (.seq .d (.seq (.seq .d (.loop [] [] [] .d)) .d))))
def spans_May_fi : Fi := ⟨45, spans_May_c, spans_May_r, spans_May_an, spans_May_hi⟩
theorem spans_May_ok : FiOk Try.prog f_spans_May spans_May_fi :=
  ⟨by kernel_rfl, fun h hlen => fun_sound (fn := Try.f52) (draw_sound _ _) Try.func52 rfl (by kernel_rfl : comp Try.prog 45 _ spans_May_c = some spans_May_c) (by kernel_rfl : cRes Try.prog Try.f52.results.toList = some spans_May_r) hlen h⟩

/-- slices.Clone[[]fustian/api.Span,fustian/api.Span]: slots [0 s, 1 s] -/
def slices_Clone___api_Span_api_Span__c : SCode :=
  (.seq (.ops [⟨(some 2), .mov (.c .nils), none, false⟩] none [0])
  (.seq (.seq (.ops [⟨(some 3), .mov (.t 0), none, false⟩,
    ⟨(some 4), .isnil false (.t 3), none, false⟩] none [0, 4])
  (.cond (.t 4)
    (.seq (.ops [⟨(some 2), .mov (.c .nils), none, false⟩] none [2])
    .ret)
    .skip))
  (.seq (.ops [⟨(some 5), .bslice false 0 2 [] [], none, false⟩,
    ⟨(some 6), .mov (.t 0), none, false⟩,
    ⟨(some 7), .append 2 16 (.t 5) (.t 6), none, false⟩,
    ⟨(some 2), .mov (.t 7), none, false⟩] none [2])
  .ret)))
def slices_Clone___api_Span_api_Span__r : List RRes := [.tmp 2]
def slices_Clone___api_Span_api_Span__hi : Hi := ⟨[(5, (.st (.cons (.int .i64) (.cons (.int .i64) .nil)))), (7, (.st (.cons (.int .i64) (.cons (.int .i64) .nil))))], [(0, "s"), (1, "s")]⟩
def slices_Clone___api_Span_api_Span__an : An := .d
def slices_Clone___api_Span_api_Span__fi : Fi := ⟨8, slices_Clone___api_Span_api_Span__c, slices_Clone___api_Span_api_Span__r, slices_Clone___api_Span_api_Span__an, slices_Clone___api_Span_api_Span__hi⟩
theorem slices_Clone___api_Span_api_Span__ok : FiOk Try.prog f_slices_Clone___api_Span_api_Span_ slices_Clone___api_Span_api_Span__fi :=
  ⟨by kernel_rfl, fun h hlen => fun_sound (fn := Try.f78) (draw_sound _ _) Try.func78 rfl (by kernel_rfl : comp Try.prog 8 _ slices_Clone___api_Span_api_Span__c = some slices_Clone___api_Span_api_Span__c) (by kernel_rfl : cRes Try.prog Try.f78.results.toList = some slices_Clone___api_Span_api_Span__r) hlen h⟩

/-- fustian/spans.Without: slots [0 l, 1 s, 2 l, 3 s, 5 out, 6 _, 7 x] -/
def spans_Without_c : SCode :=
  (.seq (.ops [⟨(some 3), .box 0 (.t 1), none, false⟩,
    ⟨(some 4), .mov (.c .nils), none, false⟩] none [0, 3])
  (.seq (.ops [⟨(some 5), .newnil 2, none, false⟩] none [0, 3, 5])
  (.seq (.seq (.ops [⟨(some 8), .mov (.t 0), none, false⟩,
    ⟨(some 9), .len false (.t 8), none, false⟩,
    ⟨(some 10), .mov (.c (.int .i64 0)), none, false⟩] none [0, 3, 5, 8, 9, 10])
  (.block 0 (.loop [0, 3, 8, 9] [5, 10] 2
    (.seq (.ops [⟨(some 11), .bin .none .lss (.t 10) (.t 9), none, false⟩] none [0, 3, 5, 8, 9, 10, 11])
    (.seq (.cond (.t 11)
      .skip
      (.exit 0))
    (.seq (.block 1 (.seq (.ops [⟨(some 12), .iaddr 2 none (.t 8) (.t 10), none, false⟩,
      ⟨(some 13), .load 2 true (.t 12), none, false⟩,
      ⟨(some 7), .alloc 0 [(.int .i64 0), (.int .i64 0)], none, false⟩,
      ⟨none, .store 2 (.t 7) (.t 13), none, false⟩] none [0, 3, 5, 7, 8, 9, 10])
    (.ops [⟨(some 14), .mov (.t 5), none, false⟩,
      ⟨(some 15), .faddr 0 (.t 7), none, false⟩,
      ⟨(some 16), .load 1 false (.t 15), none, false⟩,
      ⟨(some 17), .faddr 1 (.t 7), none, false⟩,
      ⟨(some 18), .load 1 false (.t 17), none, false⟩,
      ⟨(some 19), .faddr 0 (.t 7), none, false⟩,
      ⟨(some 20), .load 1 false (.t 19), none, false⟩,
      ⟨(some 21), .faddr 0 (.t 3), none, false⟩,
      ⟨(some 22), .load 1 false (.t 21), none, false⟩,
      ⟨(some 23), .max [(.t 20), (.t 22)], none, false⟩,
      ⟨(some 24), .min [(.t 18), (.t 23)], none, false⟩,
      ⟨(some 25), .build [(.int .i64 0), (.int .i64 0)] [(0, 1, (.t 16)), (1, 1, (.t 24))], none, false⟩,
      ⟨(some 26), .faddr 0 (.t 7), none, false⟩,
      ⟨(some 27), .load 1 false (.t 26), none, false⟩,
      ⟨(some 28), .faddr 1 (.t 7), none, false⟩,
      ⟨(some 29), .load 1 false (.t 28), none, false⟩,
      ⟨(some 30), .faddr 1 (.t 3), none, false⟩,
      ⟨(some 31), .load 1 false (.t 30), none, false⟩,
      ⟨(some 32), .min [(.t 29), (.t 31)], none, false⟩,
      ⟨(some 33), .max [(.t 27), (.t 32)], none, false⟩,
      ⟨(some 34), .faddr 1 (.t 7), none, false⟩,
      ⟨(some 35), .load 1 false (.t 34), none, false⟩,
      ⟨(some 36), .build [(.int .i64 0), (.int .i64 0)] [(0, 1, (.t 33)), (1, 1, (.t 35))], none, false⟩,
      ⟨(some 37), .bslice true 2 2 [(.int .i64 0), (.int .i64 0), (.int .i64 0), (.int .i64 0)] [(0, 2, (.t 25)), (2, 2, (.t 36))], none, false⟩,
      ⟨(some 38), .append 2 16 (.t 14) (.t 37), none, false⟩,
      ⟨(some 5), .mov (.t 38), none, false⟩] none [0, 3, 5, 8, 9, 10])))
    (.ops [⟨(some 39), .bin .none .add (.t 10) (.c (.int .i64 1)), none, false⟩,
      ⟨(some 10), .mov (.t 39), none, false⟩] none [0, 3, 5, 8, 9, 10])))))))
  (.seq (.seq (.ops [⟨(some 40), .faddr 0 (.t 3), none, false⟩,
    ⟨(some 41), .load 1 false (.t 40), none, false⟩,
    ⟨(some 42), .faddr 1 (.t 3), none, false⟩,
    ⟨(some 43), .load 1 false (.t 42), none, false⟩,
    ⟨(some 44), .bin .none .eql (.t 41) (.t 43), none, false⟩] none [0, 5, 44])
  (.cond (.t 44)
    (.seq (.ops [⟨(some 45), .mov (.t 0), none, false⟩,
      ⟨(some 46), .call f_slices_Clone___api_Span_api_Span_ [(.t 45)], none, false⟩,
      ⟨(some 4), .mov (.t 46), none, false⟩] none [4])
    .ret)
    .skip))
  (.seq (.ops [⟨(some 47), .mov (.t 5), none, false⟩,
    ⟨(some 48), .call f_slices_DeleteFunc___api_Span_api_Span_ [(.t 47), (.c (.fn (.func f_spans_Without_1) [] []))], none, false⟩,
    ⟨(some 4), .mov (.t 48), none, false⟩] none [4])
  .ret)))))
def spans_Without_r : List RRes := [.tmp 4]
def spans_Without_hi : Hi := ⟨[(5, (.st (.cons (.int .i64) (.cons (.int .i64) .nil)))), (37, (.st (.cons (.int .i64) (.cons (.int .i64) .nil)))), (38, (.st (.cons (.int .i64) (.cons (.int .i64) .nil)))), (3, (.st (.cons (.int .i64) (.cons (.int .i64) .nil)))), (7, (.st (.cons (.int .i64) (.cons (.int .i64) .nil))))], [(0, "l"), (1, "s"), (2, "l"), (3, "s"), (5, "out"), (7, "x")]⟩
def spans_Without_an : An := (.seq .d (.seq .d (.seq (.seq .d (.loop [5] [] [] .d)) .d)))
def spans_Without_fi : Fi := ⟨49, spans_Without_c, spans_Without_r, spans_Without_an, spans_Without_hi⟩
theorem spans_Without_ok : FiOk Try.prog f_spans_Without spans_Without_fi :=
  ⟨by kernel_rfl, fun h hlen => fun_sound (fn := Try.f53) (draw_sound _ _) Try.func53 rfl (by kernel_rfl : comp Try.prog 49 _ spans_Without_c = some spans_Without_c) (by kernel_rfl : cRes Try.prog Try.f53.results.toList = some spans_Without_r) hlen h⟩

/-- fustian/spans.Take: slots [0 size, 1 l, 2 many, 3 size, 4 l, 5 many, 6 taken, 7 left, 8 e] -/
def spans_Take_c : SCode :=
  (.seq (.ops [⟨(some 6), .alloc 0 [(.int .i64 0), (.int .i64 0)], none, false⟩,
    ⟨(some 7), .mov (.c .nils), none, false⟩,
    ⟨(some 8), .mov (.c (.int .i64 0)), none, false⟩] none [0, 1, 2, 6])
  (.seq (.block 0 (.seq (.ops [⟨(some 10), .mov (.t 0), none, false⟩,
    ⟨(some 11), .mov (.t 1), none, false⟩,
    ⟨(some 12), .call f_spans_May [(.t 10), (.t 11)], none, false⟩,
    ⟨(some 13), .not (.t 12), none, false⟩,
    ⟨(some 9), .mov (.t 13), none, false⟩] none [1, 2, 6, 9])
  (.cond (.t 9)
    (.seq (.ops [⟨(some 14), .build [(.int .i64 0), (.int .i64 0)] [], none, false⟩,
      ⟨none, .store 2 (.t 6) (.t 14), none, false⟩,
      ⟨(some 7), .mov (.c .nils), none, false⟩,
      ⟨(some 8), .mov (.c (.int .i64 4)), none, false⟩] none [6, 7, 8])
    .ret)
    (.seq (.ops [⟨(some 16), .mov (.t 2), none, false⟩,
      ⟨(some 17), .bin .none .lss (.t 16) (.c (.int .i64 1)), none, false⟩,
      ⟨(some 15), .mov (.t 17), none, false⟩] none [1, 2, 6, 15])
    (.cond (.t 15)
      (.seq (.ops [⟨(some 18), .build [(.int .i64 0), (.int .i64 0)] [], none, false⟩,
        ⟨none, .store 2 (.t 6) (.t 18), none, false⟩,
        ⟨(some 7), .mov (.c .nils), none, false⟩,
        ⟨(some 8), .mov (.c (.int .i64 2)), none, false⟩] none [6, 7, 8])
      .ret)
      (.seq (.ops [⟨(some 20), .mov (.t 1), none, false⟩,
        ⟨(some 21), .len false (.t 20), none, false⟩,
        ⟨(some 22), .bin .none .eql (.t 21) (.c (.int .i64 0)), none, false⟩,
        ⟨(some 19), .mov (.t 22), none, false⟩] none [1, 2, 6, 19])
      (.cond (.t 19)
        (.seq (.ops [⟨(some 23), .build [(.int .i64 0), (.int .i64 0)] [], none, false⟩,
          ⟨none, .store 2 (.t 6) (.t 23), none, false⟩,
          ⟨(some 7), .mov (.c .nils), none, false⟩,
          ⟨(some 8), .mov (.c (.int .i64 7)), none, false⟩] none [6, 7, 8])
        .ret)
        .skip)))))))
  (.seq (.ops [⟨(some 24), .mov (.t 1), none, false⟩,
    ⟨(some 25), .iaddr 2 none (.t 24) (.c (.int .i64 0)), none, false⟩,
    ⟨(some 26), .load 2 true (.t 25), none, false⟩,
    ⟨none, .store 2 (.t 6) (.t 26), none, false⟩] none [1, 2, 6])
  (.seq (.ops [⟨(some 27), .faddr 0 (.t 6), none, false⟩,
    ⟨(some 28), .load 1 false (.t 27), none, false⟩,
    ⟨(some 29), .mov (.t 2), none, false⟩,
    ⟨(some 30), .faddr 1 (.t 6), none, false⟩,
    ⟨(some 31), .load 1 false (.t 30), none, false⟩,
    ⟨(some 32), .faddr 0 (.t 6), none, false⟩,
    ⟨(some 33), .load 1 false (.t 32), none, false⟩,
    ⟨(some 34), .bin .none .sub (.t 31) (.t 33), none, false⟩,
    ⟨(some 35), .min [(.t 29), (.t 34)], none, false⟩,
    ⟨(some 36), .bin .none .add (.t 28) (.t 35), none, false⟩,
    ⟨(some 37), .faddr 1 (.t 6), none, false⟩,
    ⟨none, .store 1 (.t 37) (.t 36), none, false⟩] none [1, 6])
  (.seq (.ops [⟨(some 38), .load 2 true (.t 6), none, false⟩,
    ⟨(some 39), .mov (.t 1), none, false⟩,
    ⟨(some 40), .load 2 true (.t 6), none, false⟩,
    ⟨(some 41), .call f_spans_Without [(.t 39), (.t 40)], none, false⟩,
    ⟨none, .store 2 (.t 6) (.t 38), none, false⟩,
    ⟨(some 7), .mov (.t 41), none, false⟩,
    ⟨(some 8), .mov (.c (.int .i64 0)), none, false⟩] (some (4, 0, [0, 1, 2, 3, 4, 5, 6])) [6, 7, 8])
  .ret)))))
def spans_Take_r : List RRes := [.cell 6 2 true, .tmp 7, .tmp 8]
def spans_Take_hi : Hi := ⟨[(6, (.st (.cons (.int .i64) (.cons (.int .i64) .nil))))], [(0, "size"), (1, "l"), (2, "many"), (3, "size"), (4, "l"), (5, "many"), (6, "taken"), (7, "left"), (8, "e")]⟩
def spans_Take_an : An := .d
def spans_Take_fi : Fi := ⟨42, spans_Take_c, spans_Take_r, spans_Take_an, spans_Take_hi⟩
theorem spans_Take_ok : FiOk Try.prog f_spans_Take spans_Take_fi :=
  ⟨by kernel_rfl, fun h hlen => fun_sound (fn := Try.f24) (draw_sound _ _) Try.func24 rfl (by kernel_rfl : comp Try.prog 42 _ spans_Take_c = some spans_Take_c) (by kernel_rfl : cRes Try.prog Try.f24.results.toList = some spans_Take_r) hlen h⟩

/-- fustian/fustianref.SpansMay: slots [0 size, 1 l, 2 size, 3 l, 5 i, 6 s] -/
def ref_SpansMay_c : SCode :=
  (.seq (.ops [⟨(some 4), .mov (.c (.bool false)), none, false⟩] none [0, 1])
  (.seq (.seq (.ops [⟨(some 7), .mov (.t 0), none, false⟩,
    ⟨(some 8), .bin .none .lss (.t 7) (.c (.int .i64 0)), none, false⟩,
    ⟨(some 9), .mov (.t 8), none, true⟩,
    ⟨(some 10), .mov (.t 0), (some (9, false)), false⟩,
    ⟨(some 11), .bin .none .gtr (.t 10) (.c (.int .i64 600)), (some (9, false)), false⟩,
    ⟨(some 12), .pick (.t 9) (.c (.bool true)) (.t 11), none, false⟩,
    ⟨(some 13), .mov (.t 12), none, true⟩,
    ⟨(some 14), .mov (.t 1), (some (13, false)), false⟩,
    ⟨(some 15), .len false (.t 14), (some (13, false)), false⟩,
    ⟨(some 16), .bin .none .gtr (.t 15) (.c (.int .i64 40)), (some (13, false)), false⟩,
    ⟨(some 17), .pick (.t 13) (.c (.bool true)) (.t 16), none, false⟩] none [0, 1, 17])
  (.cond (.t 17)
    (.seq (.ops [⟨(some 4), .mov (.c (.bool false)), none, false⟩] none [4])
    .ret)
    .skip))
  (.seq (.seq (.ops [⟨(some 18), .mov (.t 1), none, false⟩,
    ⟨(some 19), .len false (.t 18), none, false⟩,
    ⟨(some 20), .mov (.c (.int .i64 0)), none, false⟩] none [0, 1, 18, 19, 20])
  (.block 0 (.loop [0, 1, 18, 19] [20] 0
    (.seq (.ops [⟨(some 21), .bin .none .lss (.t 20) (.t 19), none, false⟩] none [0, 1, 18, 19, 20, 21])
    (.seq (.cond (.t 21)
      .skip
      (.exit 0))
    (.seq (.block 1 (.seq (.ops [⟨(some 22), .mov (.t 20), none, false⟩,
      ⟨(some 23), .iaddr 2 none (.t 18) (.t 20), none, false⟩,
      ⟨(some 24), .load 2 true (.t 23), none, false⟩,
      ⟨(some 6), .alloc 0 [(.int .i64 0), (.int .i64 0)], none, false⟩,
      ⟨(some 5), .mov (.t 22), none, false⟩,
      ⟨none, .store 2 (.t 6) (.t 24), none, false⟩] none [0, 1, 5, 6, 18, 19, 20])
    (.seq (.ops [⟨(some 25), .faddr 0 (.t 6), none, false⟩,
      ⟨(some 26), .load 1 false (.t 25), none, false⟩,
      ⟨(some 27), .bin .none .lss (.t 26) (.c (.int .i64 0)), none, false⟩,
      ⟨(some 28), .mov (.t 27), none, true⟩,
      ⟨(some 29), .faddr 1 (.t 6), (some (28, false)), false⟩,
      ⟨(some 30), .load 1 false (.t 29), (some (28, false)), false⟩,
      ⟨(some 31), .faddr 0 (.t 6), (some (28, false)), false⟩,
      ⟨(some 32), .load 1 false (.t 31), (some (28, false)), false⟩,
      ⟨(some 33), .bin .none .leq (.t 30) (.t 32), (some (28, false)), false⟩,
      ⟨(some 34), .pick (.t 28) (.c (.bool true)) (.t 33), none, false⟩,
      ⟨(some 35), .mov (.t 34), none, true⟩,
      ⟨(some 36), .faddr 1 (.t 6), (some (35, false)), false⟩,
      ⟨(some 37), .load 1 false (.t 36), (some (35, false)), false⟩,
      ⟨(some 38), .mov (.t 0), (some (35, false)), false⟩,
      ⟨(some 39), .bin .none .gtr (.t 37) (.t 38), (some (35, false)), false⟩,
      ⟨(some 40), .pick (.t 35) (.c (.bool true)) (.t 39), none, false⟩,
      ⟨(some 41), .mov (.t 40), none, true⟩,
      ⟨(some 42), .mov (.t 5), (some (41, false)), false⟩,
      ⟨(some 43), .bin .none .gtr (.t 42) (.c (.int .i64 0)), (some (41, false)), false⟩,
      ⟨(some 44), .mov (.t 43), (some (41, false)), true⟩,
      ⟨(some 45), .mov (.t 1), (some (44, true)), false⟩,
      ⟨(some 46), .mov (.t 5), (some (44, true)), false⟩,
      ⟨(some 47), .bin .none .sub (.t 46) (.c (.int .i64 1)), (some (44, true)), false⟩,
      ⟨(some 48), .iaddr 2 none (.t 45) (.t 47), (some (44, true)), false⟩,
      ⟨(some 49), .faddr 1 (.t 48), (some (44, true)), false⟩,
      ⟨(some 50), .load 1 false (.t 49), (some (44, true)), false⟩,
      ⟨(some 51), .faddr 0 (.t 6), (some (44, true)), false⟩,
      ⟨(some 52), .load 1 false (.t 51), (some (44, true)), false⟩,
      ⟨(some 53), .bin .none .geq (.t 50) (.t 52), (some (44, true)), false⟩,
      ⟨(some 54), .pick (.t 44) (.t 53) (.c (.bool false)), (some (41, false)), false⟩,
      ⟨(some 55), .pick (.t 41) (.c (.bool true)) (.t 54), none, false⟩] (some (0, 0, [0, 1, 2, 3, 4, 5, 6, 7, 8, 9, 10, 11, 12, 13, 14, 15, 16, 17, 18, 19, 20, 21, 22, 23, 24, 25, 26, 27, 28, 29, 30])) [0, 1, 18, 19, 20, 55])
    (.cond (.t 55)
      (.seq (.ops [⟨(some 4), .mov (.c (.bool false)), none, false⟩] none [4])
      .ret)
      .skip))))
    (.ops [⟨(some 56), .bin .none .add (.t 20) (.c (.int .i64 1)), none, false⟩,
      ⟨(some 20), .mov (.t 56), none, false⟩] none [0, 1, 18, 19, 20])))))))
  (.seq (.ops [⟨(some 4), .mov (.c (.bool true)), none, false⟩] none [4])
  .ret))))
def ref_SpansMay_r : List RRes := [.tmp 4]
def ref_SpansMay_hi : Hi := ⟨[(6, (.st (.cons (.int .i64) (.cons (.int .i64) .nil))))], [(0, "size"), (1, "l"), (2, "size"), (3, "l"), (5, "i"), (6, "s")]⟩
def ref_SpansMay_an : An := (.seq .d (.seq .d (.seq (.seq .d (.loop [] [] [] .d)) .d)))
def ref_SpansMay_fi : Fi := ⟨57, ref_SpansMay_c, ref_SpansMay_r, ref_SpansMay_an, ref_SpansMay_hi⟩
theorem ref_SpansMay_ok : FiOk Try.prog f_ref_SpansMay ref_SpansMay_fi :=
  ⟨by kernel_rfl, fun h hlen => fun_sound (fn := Try.f54) (draw_sound _ _) Try.func54 rfl (by kernel_rfl : comp Try.prog 57 _ ref_SpansMay_c = some ref_SpansMay_c) (by kernel_rfl : cRes Try.prog Try.f54.results.toList = some ref_SpansMay_r) hlen h⟩

/-- fustian/fustianref.inSet: slots [0 size, 1 l, 2 size, 3 l, 5 out, 6 _, 7 s, 8 i] -/
def ref_inSet_c : SCode :=
  (.seq (.ops [⟨(some 4), .mov (.c .nils), none, false⟩] none [0, 1])
  (.seq (.ops [⟨(some 9), .mov (.t 0), none, false⟩,
    ⟨(some 10), .mkslice 1 1 [(.bool false)] (.t 9) (.t 9), none, false⟩,
    ⟨(some 5), .mov (.t 10), none, false⟩] none [1, 5])
  (.seq (.seq (.ops [⟨(some 11), .mov (.t 1), none, false⟩,
    ⟨(some 12), .len false (.t 11), none, false⟩,
    ⟨(some 13), .mov (.c (.int .i64 0)), none, false⟩] none [5, 11, 12, 13])
  (.block 0 (.loop [5, 11, 12] [13] 1
    (.seq (.ops [⟨(some 14), .bin .none .lss (.t 13) (.t 12), none, false⟩] none [5, 11, 12, 13, 14])
    (.seq (.cond (.t 14)
      .skip
      (.exit 0))
    (.seq (.block 1 (.seq (.ops [⟨(some 15), .iaddr 2 none (.t 11) (.t 13), none, false⟩,
      ⟨(some 16), .load 2 true (.t 15), none, false⟩,
      ⟨(some 7), .alloc 0 [(.int .i64 0), (.int .i64 0)], none, false⟩,
      ⟨none, .store 2 (.t 7) (.t 16), none, false⟩] none [5, 7, 11, 12, 13])
    (.seq (.ops [⟨(some 17), .faddr 0 (.t 7), none, false⟩,
      ⟨(some 18), .load 1 false (.t 17), none, false⟩,
      ⟨(some 8), .mov (.t 18), none, false⟩] none [5, 7, 8, 11, 12, 13])
    (.block 2 (.loop [5, 7, 11, 12, 13] [8] 2
      (.seq (.seq (.ops [⟨(some 19), .mov (.t 8), none, false⟩,
        ⟨(some 20), .faddr 1 (.t 7), none, false⟩,
        ⟨(some 21), .load 1 false (.t 20), none, false⟩,
        ⟨(some 22), .bin .none .lss (.t 19) (.t 21), none, false⟩] none [5, 7, 8, 11, 12, 13, 22])
      (.cond (.t 22)
        .skip
        (.exit 2)))
      (.seq (.block 3 (.ops [⟨(some 25), .mov (.t 5), none, false⟩,
        ⟨(some 26), .mov (.t 8), none, false⟩,
        ⟨(some 27), .iaddr 1 none (.t 25) (.t 26), none, false⟩,
        ⟨none, .store 1 (.t 27) (.c (.bool true)), none, false⟩] none [5, 7, 8, 11, 12, 13]))
      (.ops [⟨(some 23), .mov (.t 8), none, false⟩,
        ⟨(some 24), .bin .none .add (.t 23) (.c (.int .i64 1)), none, false⟩,
        ⟨(some 8), .mov (.t 24), none, false⟩] none [5, 7, 8, 11, 12, 13]))))))))
    (.ops [⟨(some 28), .bin .none .add (.t 13) (.c (.int .i64 1)), none, false⟩,
      ⟨(some 13), .mov (.t 28), none, false⟩] none [5, 11, 12, 13])))))))
  (.seq (.ops [⟨(some 29), .mov (.t 5), none, false⟩,
    ⟨(some 4), .mov (.t 29), none, false⟩] none [4])
  .ret))))
def ref_inSet_r : List RRes := [.tmp 4]
def ref_inSet_hi : Hi := ⟨[(10, .bool), (7, (.st (.cons (.int .i64) (.cons (.int .i64) .nil))))], [(0, "size"), (1, "l"), (2, "size"), (3, "l"), (5, "out"), (7, "s"), (8, "i")]⟩
def ref_inSet_an : An := (.seq .d (.seq .d (.seq (.seq .d (.loop [5] [] [] (.seq .d (.seq .d (.seq (.seq .d (.seq .d (.loop [5] [] [] .d))) .d))))) .d)))
def ref_inSet_fi : Fi := ⟨30, ref_inSet_c, ref_inSet_r, ref_inSet_an, ref_inSet_hi⟩
theorem ref_inSet_ok : FiOk Try.prog f_ref_inSet ref_inSet_fi :=
  ⟨by kernel_rfl, fun h hlen => fun_sound (fn := Try.f55) (draw_sound _ _) Try.func55 rfl (by kernel_rfl : comp Try.prog 30 _ ref_inSet_c = some ref_inSet_c) (by kernel_rfl : cRes Try.prog Try.f55.results.toList = some ref_inSet_r) hlen h⟩

/-- fustian/fustianref.setOf: slots [0 in, 1 in, 4 out, 5 i, 6 is] -/
def ref_setOf_c : SCode :=
  (.seq (.ops [⟨(some 2), .mov (.c .nils), none, false⟩,
    ⟨(some 3), .mov (.c (.int .i64 0)), none, false⟩] none [0])
  (.seq (.ops [⟨(some 4), .newnil 2, none, false⟩] none [0, 4])
  (.seq (.seq (.ops [⟨(some 7), .mov (.t 0), none, false⟩,
    ⟨(some 8), .len false (.t 7), none, false⟩,
    ⟨(some 9), .mov (.c (.int .i64 0)), none, false⟩] none [0, 4, 7, 8, 9])
  (.block 0 (.loop [0, 7, 8] [4, 9] 1
    (.seq (.ops [⟨(some 10), .bin .none .lss (.t 9) (.t 8), none, false⟩] none [0, 4, 7, 8, 9, 10])
    (.seq (.cond (.t 10)
      .skip
      (.exit 0))
    (.join [0, 7, 8, 9] [4] 1 (.block 1 (.seq (.ops [⟨(some 11), .mov (.t 9), none, false⟩,
        ⟨(some 12), .iaddr 1 none (.t 7) (.t 9), none, false⟩,
        ⟨(some 13), .load 1 false (.t 12), none, false⟩,
        ⟨(some 5), .mov (.t 11), none, false⟩,
        ⟨(some 6), .mov (.t 13), none, false⟩] none [0, 4, 5, 6, 7, 8, 9])
      (.seq (.seq (.ops [⟨(some 14), .mov (.t 6), none, false⟩,
        ⟨(some 15), .not (.t 14), none, false⟩] none [0, 4, 5, 7, 8, 9, 15])
      (.cond (.t 15)
        (.exit 1)
        .skip))
      (.seq (.ops [⟨(some 16), .mov (.t 5), none, false⟩,
        ⟨(some 17), .bin .none .gtr (.t 16) (.c (.int .i64 0)), none, false⟩,
        ⟨(some 18), .mov (.t 17), none, true⟩,
        ⟨(some 19), .mov (.t 0), (some (18, true)), false⟩,
        ⟨(some 20), .mov (.t 5), (some (18, true)), false⟩,
        ⟨(some 21), .bin .none .sub (.t 20) (.c (.int .i64 1)), (some (18, true)), false⟩,
        ⟨(some 22), .iaddr 1 none (.t 19) (.t 21), (some (18, true)), false⟩,
        ⟨(some 23), .load 1 false (.t 22), (some (18, true)), false⟩,
        ⟨(some 24), .pick (.t 18) (.t 23) (.c (.bool false)), none, false⟩] none [0, 4, 5, 7, 8, 9, 24])
      (.cond (.t 24)
        (.ops [⟨(some 25), .mov (.t 4), none, false⟩,
          ⟨(some 26), .mov (.t 4), none, false⟩,
          ⟨(some 27), .len false (.t 26), none, false⟩,
          ⟨(some 28), .bin .none .sub (.t 27) (.c (.int .i64 1)), none, false⟩,
          ⟨(some 29), .mov (.t 5), none, false⟩,
          ⟨(some 30), .bin .none .add (.t 29) (.c (.int .i64 1)), none, false⟩,
          ⟨(some 31), .iaddr 2 none (.t 25) (.t 28), none, false⟩,
          ⟨(some 32), .faddr 1 (.t 31), none, false⟩,
          ⟨none, .store 1 (.t 32) (.t 30), none, false⟩] none [0, 4, 7, 8, 9])
        (.ops [⟨(some 33), .mov (.t 4), none, false⟩,
          ⟨(some 34), .mov (.t 5), none, false⟩,
          ⟨(some 35), .mov (.t 5), none, false⟩,
          ⟨(some 36), .bin .none .add (.t 35) (.c (.int .i64 1)), none, false⟩,
          ⟨(some 37), .build [(.int .i64 0), (.int .i64 0)] [(0, 1, (.t 34)), (1, 1, (.t 36))], none, false⟩,
          ⟨(some 38), .bslice true 1 2 [(.int .i64 0), (.int .i64 0)] [(0, 2, (.t 37))], none, false⟩,
          ⟨(some 39), .append 2 16 (.t 33) (.t 38), none, false⟩,
          ⟨(some 4), .mov (.t 39), none, false⟩] none [0, 4, 7, 8, 9]))))))
    (.ops [⟨(some 40), .bin .none .add (.t 9) (.c (.int .i64 1)), none, false⟩,
      ⟨(some 9), .mov (.t 40), none, false⟩] none [0, 4, 7, 8, 9])))))))
  (.seq (.seq (.ops [⟨(some 41), .mov (.t 4), none, false⟩,
    ⟨(some 42), .len false (.t 41), none, false⟩,
    ⟨(some 43), .bin .none .gtr (.t 42) (.c (.int .i64 40)), none, false⟩] none [4, 43])
  (.cond (.t 43)
    (.seq (.ops [⟨(some 2), .mov (.c .nils), none, false⟩,
      ⟨(some 3), .mov (.c (.int .i64 8)), none, false⟩] none [2, 3])
    .ret)
    .skip))
  (.seq (.ops [⟨(some 44), .mov (.t 4), none, false⟩,
    ⟨(some 2), .mov (.t 44), none, false⟩,
    ⟨(some 3), .mov (.c (.int .i64 0)), none, false⟩] none [2, 3])
  .ret)))))
def ref_setOf_r : List RRes := [.tmp 2, .tmp 3]
def ref_setOf_hi : Hi := ⟨[(4, (.st (.cons (.int .i64) (.cons (.int .i64) .nil)))), (38, (.st (.cons (.int .i64) (.cons (.int .i64) .nil)))), (39, (.st (.cons (.int .i64) (.cons (.int .i64) .nil))))], [(0, "in"), (1, "in"), (4, "out"), (5, "i"), (6, "is")]⟩
def ref_setOf_an : An := (.seq .d (.seq .d (.seq (.seq .d (.loop [4] [] [] .d)) .d)))
def ref_setOf_fi : Fi := ⟨45, ref_setOf_c, ref_setOf_r, ref_setOf_an, ref_setOf_hi⟩
theorem ref_setOf_ok : FiOk Try.prog f_ref_setOf ref_setOf_fi :=
  ⟨by kernel_rfl, fun h hlen => fun_sound (fn := Try.f56) (draw_sound _ _) Try.func56 rfl (by kernel_rfl : comp Try.prog 45 _ ref_setOf_c = some ref_setOf_c) (by kernel_rfl : cRes Try.prog Try.f56.results.toList = some ref_setOf_r) hlen h⟩

/-- fustian/fustianref.SpansTake: slots [0 size, 1 l, 2 many, 3 size, 4 l, 5 many, 9 in, 10 hi, 11 left, 12 _] -/
def ref_SpansTake_c : SCode :=
  (.seq (.ops [⟨(some 6), .alloc 0 [(.int .i64 0), (.int .i64 0)], none, false⟩,
    ⟨(some 7), .mov (.c .nils), none, false⟩,
    ⟨(some 8), .mov (.c (.int .i64 0)), none, false⟩] none [0, 1, 2, 6])
  (.seq (.seq (.ops [⟨(some 13), .mov (.t 0), none, false⟩,
    ⟨(some 14), .mov (.t 1), none, false⟩,
    ⟨(some 15), .call f_ref_SpansMay [(.t 13), (.t 14)], none, false⟩,
    ⟨(some 16), .not (.t 15), none, false⟩] none [0, 1, 2, 6, 16])
  (.cond (.t 16)
    (.seq (.ops [⟨(some 17), .build [(.int .i64 0), (.int .i64 0)] [], none, false⟩,
      ⟨none, .store 2 (.t 6) (.t 17), none, false⟩,
      ⟨(some 7), .mov (.c .nils), none, false⟩,
      ⟨(some 8), .mov (.c (.int .i64 4)), none, false⟩] none [6, 7, 8])
    .ret)
    .skip))
  (.seq (.seq (.ops [⟨(some 18), .mov (.t 2), none, false⟩,
    ⟨(some 19), .bin .none .lss (.t 18) (.c (.int .i64 1)), none, false⟩] none [0, 1, 2, 6, 19])
  (.cond (.t 19)
    (.seq (.ops [⟨(some 20), .build [(.int .i64 0), (.int .i64 0)] [], none, false⟩,
      ⟨none, .store 2 (.t 6) (.t 20), none, false⟩,
      ⟨(some 7), .mov (.c .nils), none, false⟩,
      ⟨(some 8), .mov (.c (.int .i64 2)), none, false⟩] none [6, 7, 8])
    .ret)
    .skip))
  (.seq (.seq (.ops [⟨(some 21), .mov (.t 1), none, false⟩,
    ⟨(some 22), .len false (.t 21), none, false⟩,
    ⟨(some 23), .bin .none .eql (.t 22) (.c (.int .i64 0)), none, false⟩] none [0, 1, 2, 6, 23])
  (.cond (.t 23)
    (.seq (.ops [⟨(some 24), .build [(.int .i64 0), (.int .i64 0)] [], none, false⟩,
      ⟨none, .store 2 (.t 6) (.t 24), none, false⟩,
      ⟨(some 7), .mov (.c .nils), none, false⟩,
      ⟨(some 8), .mov (.c (.int .i64 7)), none, false⟩] none [6, 7, 8])
    .ret)
    .skip))
  (.seq (.ops [⟨(some 25), .mov (.t 0), none, false⟩,
    ⟨(some 26), .mov (.t 1), none, false⟩,
    ⟨(some 27), .call f_ref_inSet [(.t 25), (.t 26)], none, false⟩,
    ⟨(some 9), .mov (.t 27), none, false⟩] none [1, 2, 6, 9])
  (.seq (.ops [⟨(some 28), .mov (.t 1), none, false⟩,
    ⟨(some 29), .iaddr 2 none (.t 28) (.c (.int .i64 0)), none, false⟩,
    ⟨(some 30), .faddr 0 (.t 29), none, false⟩,
    ⟨(some 31), .load 1 false (.t 30), none, false⟩,
    ⟨(some 10), .mov (.t 31), none, false⟩] none [1, 2, 6, 9, 10])
  (.seq (.block 0 (.loop [1, 6, 9] [2, 10] 1
    (.seq (.seq (.ops [⟨(some 32), .mov (.t 10), none, false⟩,
      ⟨(some 33), .mov (.t 1), none, false⟩,
      ⟨(some 34), .iaddr 2 none (.t 33) (.c (.int .i64 0)), none, false⟩,
      ⟨(some 35), .faddr 1 (.t 34), none, false⟩,
      ⟨(some 36), .load 1 false (.t 35), none, false⟩,
      ⟨(some 37), .bin .none .lss (.t 32) (.t 36), none, false⟩,
      ⟨(some 38), .mov (.t 37), none, true⟩,
      ⟨(some 39), .mov (.t 2), (some (38, true)), false⟩,
      ⟨(some 40), .bin .none .gtr (.t 39) (.c (.int .i64 0)), (some (38, true)), false⟩,
      ⟨(some 41), .pick (.t 38) (.t 40) (.c (.bool false)), none, false⟩] none [1, 2, 6, 9, 10, 41])
    (.cond (.t 41)
      .skip
      (.exit 0)))
    (.block 1 (.seq (.ops [⟨(some 42), .mov (.t 9), none, false⟩,
      ⟨(some 43), .mov (.t 10), none, false⟩,
      ⟨(some 44), .iaddr 1 none (.t 42) (.t 43), none, false⟩,
      ⟨none, .store 1 (.t 44) (.c (.bool false)), none, false⟩] none [1, 2, 6, 9, 10])
    (.seq (.ops [⟨(some 45), .mov (.t 10), none, false⟩,
      ⟨(some 46), .bin .none .add (.t 45) (.c (.int .i64 1)), none, false⟩,
      ⟨(some 10), .mov (.t 46), none, false⟩] none [1, 2, 6, 9, 10])
    (.ops [⟨(some 47), .mov (.t 2), none, false⟩,
      ⟨(some 48), .bin .none .sub (.t 47) (.c (.int .i64 1)), none, false⟩,
      ⟨(some 2), .mov (.t 48), none, false⟩] none [1, 2, 6, 9, 10])))))))
  (.seq (.ops [⟨(some 50), .mov (.t 9), none, false⟩,
    ⟨(some 51), .call f_ref_setOf [(.t 50)], none, false⟩,
    ⟨(some 49), .mov (.t 51), none, false⟩,
    ⟨(some 52), .extract (.t 49) 0, none, false⟩,
    ⟨(some 53), .extract (.t 49) 1, none, false⟩,
    ⟨(some 11), .mov (.t 52), none, false⟩,
    ⟨(some 12), .mov (.t 53), none, false⟩] none [1, 6, 10, 11])
  (.seq (.ops [⟨(some 54), .mov (.t 1), none, false⟩,
    ⟨(some 55), .iaddr 2 none (.t 54) (.c (.int .i64 0)), none, false⟩,
    ⟨(some 56), .faddr 0 (.t 55), none, false⟩,
    ⟨(some 57), .load 1 false (.t 56), none, false⟩,
    ⟨(some 58), .mov (.t 10), none, false⟩,
    ⟨(some 59), .build [(.int .i64 0), (.int .i64 0)] [(0, 1, (.t 57)), (1, 1, (.t 58))], none, false⟩,
    ⟨(some 60), .mov (.t 11), none, false⟩,
    ⟨none, .store 2 (.t 6) (.t 59), none, false⟩,
    ⟨(some 7), .mov (.t 60), none, false⟩,
    ⟨(some 8), .mov (.c (.int .i64 0)), none, false⟩] none [6, 7, 8])
  .ret)))))))))
def ref_SpansTake_r : List RRes := [.cell 6 2 true, .tmp 7, .tmp 8]
def ref_SpansTake_hi : Hi := ⟨[(6, (.st (.cons (.int .i64) (.cons (.int .i64) .nil))))], [(0, "size"), (1, "l"), (2, "many"), (3, "size"), (4, "l"), (5, "many"), (9, "in"), (10, "hi"), (11, "left")]⟩
def ref_SpansTake_an : An := (.seq .d (.seq .d (.seq .d (.seq .d (.seq .d (.seq .d (.seq (.loop [9] [] [] .d) .d)))))))
def ref_SpansTake_fi : Fi := ⟨61, ref_SpansTake_c, ref_SpansTake_r, ref_SpansTake_an, ref_SpansTake_hi⟩
theorem ref_SpansTake_ok : FiOk Try.prog f_ref_SpansTake ref_SpansTake_fi :=
  ⟨by kernel_rfl, fun h hlen => fun_sound (fn := Try.f25) (draw_sound _ _) Try.func25 rfl (by kernel_rfl : comp Try.prog 61 _ ref_SpansTake_c = some ref_SpansTake_c) (by kernel_rfl : cRes Try.prog Try.f25.results.toList = some ref_SpansTake_r) hlen h⟩

/-- fustian/fustianlaw.sameSpans: slots [0 a, 1 b, 2 a, 3 b, 5 i] -/
def law_sameSpans_c : SCode :=
  (.seq (.ops [⟨(some 4), .mov (.c (.bool false)), none, false⟩] none [0, 1])
  (.seq (.seq (.ops [⟨(some 6), .mov (.t 0), none, false⟩,
    ⟨(some 7), .len false (.t 6), none, false⟩,
    ⟨(some 8), .mov (.t 1), none, false⟩,
    ⟨(some 9), .len false (.t 8), none, false⟩,
    ⟨(some 10), .bin .none .neq (.t 7) (.t 9), none, false⟩] none [0, 1, 10])
  (.cond (.t 10)
    (.seq (.ops [⟨(some 4), .mov (.c (.bool false)), none, false⟩] none [4])
    .ret)
    .skip))
  (.seq (.seq (.ops [⟨(some 5), .mov (.c (.int .i64 0)), none, false⟩] none [0, 1, 5])
  (.block 0 (.loop [0, 1] [5] 0
    (.seq (.seq (.ops [⟨(some 11), .mov (.t 5), none, false⟩,
      ⟨(some 12), .mov (.t 0), none, false⟩,
      ⟨(some 13), .len false (.t 12), none, false⟩,
      ⟨(some 14), .bin .none .lss (.t 11) (.t 13), none, false⟩] none [0, 1, 5, 14])
    (.cond (.t 14)
      .skip
      (.exit 0)))
    (.seq (.block 1 (.seq (.ops [⟨(some 17), .mov (.t 0), none, false⟩,
      ⟨(some 18), .mov (.t 5), none, false⟩,
      ⟨(some 19), .iaddr 2 none (.t 17) (.t 18), none, false⟩,
      ⟨(some 20), .load 2 true (.t 19), none, false⟩,
      ⟨(some 21), .mov (.t 1), none, false⟩,
      ⟨(some 22), .mov (.t 5), none, false⟩,
      ⟨(some 23), .iaddr 2 none (.t 21) (.t 22), none, false⟩,
      ⟨(some 24), .load 2 true (.t 23), none, false⟩,
      ⟨(some 25), .bin (.agg [.int, .int]) .neq (.t 20) (.t 24), none, false⟩] (some (0, 0, [0, 1, 2, 3, 4, 5, 6, 7, 8])) [0, 1, 5, 25])
    (.cond (.t 25)
      (.seq (.ops [⟨(some 4), .mov (.c (.bool false)), none, false⟩] none [4])
      .ret)
      .skip)))
    (.ops [⟨(some 15), .mov (.t 5), none, false⟩,
      ⟨(some 16), .bin .none .add (.t 15) (.c (.int .i64 1)), none, false⟩,
      ⟨(some 5), .mov (.t 16), none, false⟩] none [0, 1, 5]))))))
  (.seq (.ops [⟨(some 4), .mov (.c (.bool true)), none, false⟩] none [4])
  .ret))))
def law_sameSpans_r : List RRes := [.tmp 4]
def law_sameSpans_hi : Hi := ⟨[], [(0, "a"), (1, "b"), (2, "a"), (3, "b"), (5, "i")]⟩
def law_sameSpans_an : An := (.seq .d (.seq .d (.seq (.seq .d (.loop [] [] [] .d)) .d)))
def law_sameSpans_fi : Fi := ⟨26, law_sameSpans_c, law_sameSpans_r, law_sameSpans_an, law_sameSpans_hi⟩
theorem law_sameSpans_ok : FiOk Try.prog f_law_sameSpans law_sameSpans_fi :=
  ⟨by kernel_rfl, fun h hlen => fun_sound (fn := Try.f26) (draw_sound _ _) Try.func26 rfl (by kernel_rfl : comp Try.prog 26 _ law_sameSpans_c = some law_sameSpans_c) (by kernel_rfl : cRes Try.prog Try.f26.results.toList = some law_sameSpans_r) hlen h⟩

/-- fustian/fustianlaw.SpansTakes: slots [0 size, 1 l, 2 many, 3 size, 4 l, 5 many, 7 s, 8 x, 9 e, 10 t, 11 y, 12 f] -/
def law_SpansTakes_c : SCode :=
  (.seq (.ops [⟨(some 6), .mov (.c (.bool false)), none, false⟩] none [0, 1, 2])
  (.seq (.ops [⟨(some 14), .mov (.t 0), none, false⟩,
    ⟨(some 15), .mov (.t 1), none, false⟩,
    ⟨(some 16), .mov (.t 2), none, false⟩,
    ⟨(some 17), .call f_spans_Take [(.t 14), (.t 15), (.t 16)], none, false⟩,
    ⟨(some 13), .mov (.t 17), none, false⟩,
    ⟨(some 18), .extract (.t 13) 0, none, false⟩,
    ⟨(some 19), .extract (.t 13) 1, none, false⟩,
    ⟨(some 20), .extract (.t 13) 2, none, false⟩,
    ⟨(some 7), .alloc 0 [(.int .i64 0), (.int .i64 0)], none, false⟩,
    ⟨none, .store 2 (.t 7) (.t 18), none, false⟩,
    ⟨(some 8), .mov (.t 19), none, false⟩,
    ⟨(some 9), .mov (.t 20), none, false⟩] none [0, 1, 2, 7, 8, 9])
  (.seq (.ops [⟨(some 22), .mov (.t 0), none, false⟩,
    ⟨(some 23), .mov (.t 1), none, false⟩,
    ⟨(some 24), .mov (.t 2), none, false⟩,
    ⟨(some 25), .call f_ref_SpansTake [(.t 22), (.t 23), (.t 24)], none, false⟩,
    ⟨(some 21), .mov (.t 25), none, false⟩,
    ⟨(some 26), .extract (.t 21) 0, none, false⟩,
    ⟨(some 27), .extract (.t 21) 1, none, false⟩,
    ⟨(some 28), .extract (.t 21) 2, none, false⟩,
    ⟨(some 10), .alloc 0 [(.int .i64 0), (.int .i64 0)], none, false⟩,
    ⟨none, .store 2 (.t 10) (.t 26), none, false⟩,
    ⟨(some 11), .mov (.t 27), none, false⟩,
    ⟨(some 12), .mov (.t 28), none, false⟩] none [7, 8, 9, 10, 11, 12])
  (.seq (.ops [⟨(some 29), .load 2 true (.t 7), none, false⟩,
    ⟨(some 30), .load 2 true (.t 10), none, false⟩,
    ⟨(some 31), .bin (.agg [.int, .int]) .eql (.t 29) (.t 30), none, false⟩,
    ⟨(some 32), .mov (.t 31), none, true⟩,
    ⟨(some 33), .mov (.t 8), (some (32, true)), false⟩,
    ⟨(some 34), .mov (.t 11), (some (32, true)), false⟩,
    ⟨(some 35), .call f_law_sameSpans [(.t 33), (.t 34)], (some (32, true)), false⟩,
    ⟨(some 36), .pick (.t 32) (.t 35) (.c (.bool false)), none, false⟩,
    ⟨(some 37), .mov (.t 36), none, true⟩,
    ⟨(some 38), .mov (.t 9), (some (37, true)), false⟩,
    ⟨(some 39), .mov (.t 12), (some (37, true)), false⟩,
    ⟨(some 40), .bin .none .eql (.t 38) (.t 39), (some (37, true)), false⟩,
    ⟨(some 41), .pick (.t 37) (.t 40) (.c (.bool false)), none, false⟩,
    ⟨(some 6), .mov (.t 41), none, false⟩] none [6])
  .ret))))
def law_SpansTakes_r : List RRes := [.tmp 6]
def law_SpansTakes_hi : Hi := ⟨[(7, (.st (.cons (.int .i64) (.cons (.int .i64) .nil)))), (10, (.st (.cons (.int .i64) (.cons (.int .i64) .nil))))], [(0, "size"), (1, "l"), (2, "many"), (3, "size"), (4, "l"), (5, "many"), (7, "s"), (8, "x"), (9, "e"), (10, "t"), (11, "y"), (12, "f")]⟩
def law_SpansTakes_an : An := .d
def law_SpansTakes_fi : Fi := ⟨42, law_SpansTakes_c, law_SpansTakes_r, law_SpansTakes_an, law_SpansTakes_hi⟩
theorem law_SpansTakes_ok : FiOk Try.prog f_law_SpansTakes law_SpansTakes_fi :=
  ⟨by kernel_rfl, fun h hlen => fun_sound (fn := Try.f8) (draw_sound _ _) Try.func8 rfl (by kernel_rfl : comp Try.prog 42 _ law_SpansTakes_c = some law_SpansTakes_c) (by kernel_rfl : cRes Try.prog Try.f8.results.toList = some law_SpansTakes_r) hlen h⟩

/-- slices.DeleteFunc[[]fustian/api.Span,fustian/api.Span]: slots [0 s, 1 del, 2 s, 3 del, 5 i, 6 j, 7 v] -/
def slices_DeleteFunc___api_Span_api_Span__c : SCode :=
  (.seq (.ops [⟨(some 4), .mov (.c .nils), none, false⟩] none [0, 1])
  (.seq (.ops [⟨(some 8), .mov (.t 0), none, false⟩,
    ⟨(some 9), .mov (.t 1), none, false⟩,
    ⟨(some 10), .call f_slices_IndexFunc___api_Span_api_Span_ [(.t 8), (.t 9)], none, false⟩,
    ⟨(some 5), .mov (.t 10), none, false⟩] none [0, 1, 5])
  (.seq (.seq (.ops [⟨(some 11), .mov (.t 5), none, false⟩,
    ⟨(some 12), .bin .none .eql (.t 11) (.c (.int .i64 (-1))), none, false⟩] none [0, 1, 5, 12])
  (.cond (.t 12)
    (.seq (.ops [⟨(some 13), .mov (.t 0), none, false⟩,
      ⟨(some 4), .mov (.t 13), none, false⟩] none [4])
    .ret)
    .skip))
  (.seq (.seq (.ops [⟨(some 14), .mov (.t 5), none, false⟩,
    ⟨(some 15), .bin .none .add (.t 14) (.c (.int .i64 1)), none, false⟩,
    ⟨(some 6), .mov (.t 15), none, false⟩] none [0, 1, 5, 6])
  (.block 0 (.loop [0, 1] [5, 6] 0
    (.seq (.seq (.ops [⟨(some 16), .mov (.t 6), none, false⟩,
      ⟨(some 17), .mov (.t 0), none, false⟩,
      ⟨(some 18), .len false (.t 17), none, false⟩,
      ⟨(some 19), .bin .none .lss (.t 16) (.t 18), none, false⟩] none [0, 1, 5, 6, 19])
    (.cond (.t 19)
      .skip
      (.exit 0)))
    (.join [0, 1, 6] [5] 1 (.block 1 (.seq (.ops [⟨(some 22), .mov (.t 0), none, false⟩,
        ⟨(some 23), .mov (.t 6), none, false⟩,
        ⟨(some 24), .iaddr 2 none (.t 22) (.t 23), none, false⟩,
        ⟨(some 25), .load 2 true (.t 24), none, false⟩,
        ⟨(some 7), .alloc 0 [(.int .i64 0), (.int .i64 0)], none, false⟩,
        ⟨none, .store 2 (.t 7) (.t 25), none, false⟩] none [0, 1, 5, 6, 7])
      (.seq (.ops [⟨(some 26), .mov (.t 1), none, false⟩,
        ⟨(some 27), .load 2 true (.t 7), none, false⟩,
        ⟨(some 28), .callv (.t 26) [(.t 27)], none, false⟩,
        ⟨(some 29), .not (.t 28), none, false⟩] none [0, 1, 5, 6, 7, 29])
      (.cond (.t 29)
        (.seq (.ops [⟨(some 30), .mov (.t 0), none, false⟩,
          ⟨(some 31), .mov (.t 5), none, false⟩,
          ⟨(some 32), .load 2 true (.t 7), none, false⟩,
          ⟨(some 33), .iaddr 2 none (.t 30) (.t 31), none, false⟩,
          ⟨none, .store 2 (.t 33) (.t 32), none, false⟩] none [0, 1, 5, 6])
        (.ops [⟨(some 34), .mov (.t 5), none, false⟩,
          ⟨(some 35), .bin .none .add (.t 34) (.c (.int .i64 1)), none, false⟩,
          ⟨(some 5), .mov (.t 35), none, false⟩] none [0, 1, 5, 6]))
        .skip))))
    (.ops [⟨(some 20), .mov (.t 6), none, false⟩,
      ⟨(some 21), .bin .none .add (.t 20) (.c (.int .i64 1)), none, false⟩,
      ⟨(some 6), .mov (.t 21), none, false⟩] none [0, 1, 5, 6]))))))
  (.seq (.ops [⟨(some 36), .mov (.t 0), none, false⟩,
    ⟨(some 37), .mov (.t 5), none, false⟩,
    ⟨(some 38), .slice 2 (.t 36) (some (.t 37)) none, none, false⟩,
    ⟨none, .clear 2 [(.int .i64 0), (.int .i64 0)] (.t 38), none, false⟩] none [0, 5])
  (.seq (.ops [⟨(some 39), .mov (.t 0), none, false⟩,
    ⟨(some 40), .mov (.t 5), none, false⟩,
    ⟨(some 41), .slice 2 (.t 39) none (some (.t 40)), none, false⟩,
    ⟨(some 4), .mov (.t 41), none, false⟩] none [4])
  .ret))))))
def slices_DeleteFunc___api_Span_api_Span__r : List RRes := [.tmp 4]
def slices_DeleteFunc___api_Span_api_Span__hi : Hi := ⟨[(7, (.st (.cons (.int .i64) (.cons (.int .i64) .nil))))], [(0, "s"), (1, "del"), (2, "s"), (3, "del"), (5, "i"), (6, "j"), (7, "v")]⟩
def slices_DeleteFunc___api_Span_api_Span__an : An := (.seq .d (.seq .d (.seq .d (.seq (.seq .d (.loop [1, 0] [] [] .d)) .d))))
def slices_DeleteFunc___api_Span_api_Span__fi : Fi := ⟨42, slices_DeleteFunc___api_Span_api_Span__c, slices_DeleteFunc___api_Span_api_Span__r, slices_DeleteFunc___api_Span_api_Span__an, slices_DeleteFunc___api_Span_api_Span__hi⟩
theorem slices_DeleteFunc___api_Span_api_Span__ok : FiOk Try.prog f_slices_DeleteFunc___api_Span_api_Span_ slices_DeleteFunc___api_Span_api_Span__fi :=
  ⟨by kernel_rfl, fun h hlen => fun_sound (fn := Try.f79) (draw_sound _ _) Try.func79 rfl (by kernel_rfl : comp Try.prog 42 _ slices_DeleteFunc___api_Span_api_Span__c = some slices_DeleteFunc___api_Span_api_Span__c) (by kernel_rfl : cRes Try.prog Try.f79.results.toList = some slices_DeleteFunc___api_Span_api_Span__r) hlen h⟩

/-- slices.IndexFunc[[]fustian/api.Span,fustian/api.Span]: slots [0 s, 1 f, 2 s, 3 f, 5 i] -/
def slices_IndexFunc___api_Span_api_Span__c : SCode :=
  (.seq (.ops [⟨(some 4), .mov (.c (.int .i64 0)), none, false⟩] none [0, 1])
  (.seq (.seq (.ops [⟨(some 6), .mov (.t 0), none, false⟩,
    ⟨(some 7), .len false (.t 6), none, false⟩,
    ⟨(some 8), .mov (.c (.int .i64 0)), none, false⟩] none [0, 1, 7, 8])
  (.block 0 (.loop [0, 1, 7] [8] 0
    (.seq (.ops [⟨(some 9), .bin .none .lss (.t 8) (.t 7), none, false⟩] none [0, 1, 7, 8, 9])
    (.seq (.cond (.t 9)
      .skip
      (.exit 0))
    (.seq (.block 1 (.seq (.ops [⟨(some 10), .mov (.t 8), none, false⟩,
      ⟨(some 5), .mov (.t 10), none, false⟩] none [0, 1, 5, 7, 8])
    (.seq (.ops [⟨(some 11), .mov (.t 1), none, false⟩,
      ⟨(some 12), .mov (.t 0), none, false⟩,
      ⟨(some 13), .mov (.t 5), none, false⟩,
      ⟨(some 14), .iaddr 2 none (.t 12) (.t 13), none, false⟩,
      ⟨(some 15), .load 2 true (.t 14), none, false⟩,
      ⟨(some 16), .callv (.t 11) [(.t 15)], none, false⟩] none [0, 1, 5, 7, 8, 16])
    (.cond (.t 16)
      (.seq (.ops [⟨(some 17), .mov (.t 5), none, false⟩,
        ⟨(some 4), .mov (.t 17), none, false⟩] none [4])
      .ret)
      .skip))))
    (.ops [⟨(some 18), .bin .none .add (.t 8) (.c (.int .i64 1)), none, false⟩,
      ⟨(some 8), .mov (.t 18), none, false⟩] none [0, 1, 7, 8])))))))
  (.seq (.ops [⟨(some 4), .mov (.c (.int .i64 (-1))), none, false⟩] none [4])
  .ret)))
def slices_IndexFunc___api_Span_api_Span__r : List RRes := [.tmp 4]
def slices_IndexFunc___api_Span_api_Span__hi : Hi := ⟨[], [(0, "s"), (1, "f"), (2, "s"), (3, "f"), (5, "i")]⟩
def slices_IndexFunc___api_Span_api_Span__an : An := (.seq .d (.seq (.seq .d (.loop [1] [] [] .d)) .d))
def slices_IndexFunc___api_Span_api_Span__fi : Fi := ⟨19, slices_IndexFunc___api_Span_api_Span__c, slices_IndexFunc___api_Span_api_Span__r, slices_IndexFunc___api_Span_api_Span__an, slices_IndexFunc___api_Span_api_Span__hi⟩
theorem slices_IndexFunc___api_Span_api_Span__ok : FiOk Try.prog f_slices_IndexFunc___api_Span_api_Span_ slices_IndexFunc___api_Span_api_Span__fi :=
  ⟨by kernel_rfl, fun h hlen => fun_sound (fn := Try.f91) (draw_sound _ _) Try.func91 rfl (by kernel_rfl : comp Try.prog 19 _ slices_IndexFunc___api_Span_api_Span__c = some slices_IndexFunc___api_Span_api_Span__c) (by kernel_rfl : cRes Try.prog Try.f91.results.toList = some slices_IndexFunc___api_Span_api_Span__r) hlen h⟩

/-- fustian/spans.Without$1: slots [0 x, 1 x] -/
def spans_Without_1_c : SCode :=
  (.seq (.ops [⟨(some 1), .box 0 (.t 0), none, false⟩,
    ⟨(some 2), .mov (.c (.bool false)), none, false⟩] none [1])
  (.seq (.ops [⟨(some 3), .faddr 0 (.t 1), none, false⟩,
    ⟨(some 4), .load 1 false (.t 3), none, false⟩,
    ⟨(some 5), .faddr 1 (.t 1), none, false⟩,
    ⟨(some 6), .load 1 false (.t 5), none, false⟩,
    ⟨(some 7), .bin .none .geq (.t 4) (.t 6), none, false⟩,
    ⟨(some 2), .mov (.t 7), none, false⟩] none [2])
  .ret))
def spans_Without_1_r : List RRes := [.tmp 2]
def spans_Without_1_hi : Hi := ⟨[(1, (.st (.cons (.int .i64) (.cons (.int .i64) .nil))))], [(0, "x"), (1, "x")]⟩
def spans_Without_1_an : An := .d
def spans_Without_1_fi : Fi := ⟨8, spans_Without_1_c, spans_Without_1_r, spans_Without_1_an, spans_Without_1_hi⟩
theorem spans_Without_1_ok : FiOk Try.prog f_spans_Without_1 spans_Without_1_fi :=
  ⟨by kernel_rfl, fun h hlen => fun_sound (fn := Try.f80) (draw_sound _ _) Try.func80 rfl (by kernel_rfl : comp Try.prog 8 _ spans_Without_1_c = some spans_Without_1_c) (by kernel_rfl : cRes Try.prog Try.f80.results.toList = some spans_Without_1_r) hlen h⟩

end Go.Proofs.Ytmknkkafindicaa
