/- The functions' simplified code, printed by a program of the claim's author; each is checked against the program's own code. Conditions: none. -/
import Derived.Test.YtogjhebilbbdjaaProg
import Derived.Test.YtogjhebilbbdjaaVyM
set_option linter.unusedVariables false
set_option maxRecDepth 100000
namespace Go.Proofs.Ytogjhebilbbdjaa
open Go.Vc
abbrev f_gosem_cut_init : Nat := 2
abbrev f_law_SpansAdds : Nat := 3
abbrev f_law_SpansShifts : Nat := 4
abbrev f_spans_Add : Nat := 5
abbrev f_ref_SpansSet : Nat := 6
abbrev f_law_sameSpans : Nat := 7
abbrev f_spans_Shift : Nat := 8
abbrev f_ref_SpansShift : Nat := 9
abbrev f_spans_fault : Nat := 10
abbrev f_spans_full : Nat := 11
abbrev f_spans_With : Nat := 12
abbrev f_ref_spansFault : Nat := 13
abbrev f_ref_inSet : Nat := 14
abbrev f_ref_setOf : Nat := 15
abbrev f_spans_May : Nat := 16
abbrev f_edit_Check : Nat := 17
abbrev f_spans_Shifted : Nat := 18
abbrev f_ref_SpansMay : Nat := 19
abbrev f_ref_EditFault : Nat := 20
abbrev f_ref_editPlace : Nat := 21
abbrev f_slices_BinarySearchFunc___api_Span_api_Span_int_ : Nat := 22
abbrev f_spans_With_1 : Nat := 23
abbrev f_spans_Joined : Nat := 24
abbrev f_slices_Insert___api_Span_api_Span_ : Nat := 25
abbrev f_slices_Clone___api_Span_api_Span_ : Nat := 26
abbrev f_spans_Without : Nat := 27
abbrev f_slices_rotateRight_api_Span_ : Nat := 29
abbrev f_slices_DeleteFunc___api_Span_api_Span_ : Nat := 30
abbrev f_spans_Without_1 : Nat := 31
abbrev f_slices_rotateLeft_api_Span_ : Nat := 32
abbrev f_slices_IndexFunc___api_Span_api_Span_ : Nat := 33
abbrev f_slices_Reverse___api_Span_api_Span_ : Nat := 34

/-- fustian/spans.May: slots [0 size, 1 l, 2 size, 3 l, 5 last, 6 _, 7 s] -/
def spans_May_c : SCode :=
  (.seq (.ops [⟨(some 4), .mov (.c (.bool false)), none, false, []⟩] none [0, 1])
  (.seq (.seq (.ops [⟨(some 8), .mov (.t 0), none, false, []⟩,
    ⟨(some 9), .bin .none .lss (.t 8) (.c (.int .i64 0)), none, false, []⟩,
    ⟨(some 10), .mov (.t 9), none, true, []⟩,
    ⟨(some 11), .mov (.t 0), (some (10, false)), false, []⟩,
    ⟨(some 12), .bin .none .gtr (.t 11) (.c (.int .i64 600)), (some (10, false)), false, []⟩,
    ⟨(some 13), .pick (.t 10) (.c (.bool true)) (.t 12), none, false, []⟩,
    ⟨(some 14), .mov (.t 13), none, true, []⟩,
    ⟨(some 15), .mov (.t 1), (some (14, false)), false, []⟩,
    ⟨(some 16), .len false (.t 15), (some (14, false)), false, []⟩,
    ⟨(some 17), .bin .none .gtr (.t 16) (.c (.int .i64 40)), (some (14, false)), false, []⟩,
    ⟨(some 18), .pick (.t 14) (.c (.bool true)) (.t 17), none, false, []⟩] none [0, 1, 18])
  (.cond (.t 18)
    (.seq (.ops [⟨(some 4), .mov (.c (.bool false)), none, false, []⟩] none [4])
    .ret)
    .skip))
  (.seq (.ops [⟨(some 5), .mov (.c (.int .i64 (-1))), none, false, []⟩] none [0, 1, 5])
  (.seq (.seq (.ops [⟨(some 19), .mov (.t 1), none, false, []⟩,
    ⟨(some 20), .len false (.t 19), none, false, []⟩,
    ⟨(some 21), .mov (.c (.int .i64 0)), none, false, []⟩] none [0, 5, 19, 20, 21])
  (.block 0 (.loop [0, 19, 20] [5, 21] 0
    (.seq (.ops [⟨(some 22), .bin .none .lss (.t 21) (.t 20), none, false, []⟩] none [0, 5, 19, 20, 21, 22])
    (.seq (.cond (.t 22)
      .skip
      (.exit 0))
    (.seq (.block 1 (.seq (.ops [⟨(some 23), .iaddr 2 none (.t 19) (.t 21), none, false, []⟩,
      ⟨(some 24), .load 2 true (.t 23), none, false, []⟩,
      ⟨(some 7), .alloc 0 [(.int .i64 0), (.int .i64 0)], none, false, []⟩,
      ⟨none, .store 2 (.t 7) (.t 24), none, false, []⟩] none [0, 5, 7, 19, 20, 21])
    (.seq (.seq (.ops [⟨(some 25), .faddr 0 (.t 7), none, false, []⟩,
      ⟨(some 26), .load 1 false (.t 25), none, false, []⟩,
      ⟨(some 27), .mov (.t 5), none, false, []⟩,
      ⟨(some 28), .bin .none .leq (.t 26) (.t 27), none, false, []⟩,
      ⟨(some 29), .mov (.t 28), none, true, []⟩,
      ⟨(some 30), .faddr 0 (.t 7), (some (29, false)), false, []⟩,
      ⟨(some 31), .load 1 false (.t 30), (some (29, false)), false, []⟩,
      ⟨(some 32), .faddr 1 (.t 7), (some (29, false)), false, []⟩,
      ⟨(some 33), .load 1 false (.t 32), (some (29, false)), false, []⟩,
      ⟨(some 34), .bin .none .geq (.t 31) (.t 33), (some (29, false)), false, []⟩,
      ⟨(some 35), .pick (.t 29) (.c (.bool true)) (.t 34), none, false, []⟩,
      ⟨(some 36), .mov (.t 35), none, true, []⟩,
      ⟨(some 37), .faddr 1 (.t 7), (some (36, false)), false, []⟩,
      ⟨(some 38), .load 1 false (.t 37), (some (36, false)), false, []⟩,
      ⟨(some 39), .mov (.t 0), (some (36, false)), false, []⟩,
      ⟨(some 40), .bin .none .gtr (.t 38) (.t 39), (some (36, false)), false, []⟩,
      ⟨(some 41), .pick (.t 36) (.c (.bool true)) (.t 40), none, false, []⟩] none [0, 7, 19, 20, 21, 41])
    (.cond (.t 41)
      (.seq (.ops [⟨(some 4), .mov (.c (.bool false)), none, false, []⟩] none [4])
      .ret)
      .skip))
    (.ops [⟨(some 42), .faddr 1 (.t 7), none, false, []⟩,
      ⟨(some 43), .load 1 false (.t 42), none, false, []⟩,
      ⟨(some 5), .mov (.t 43), none, false, []⟩] none [0, 5, 19, 20, 21]))))
    (.ops [⟨(some 44), .bin .none .add (.t 21) (.c (.int .i64 1)), none, false, []⟩,
      ⟨(some 21), .mov (.t 44), none, false, []⟩] none [0, 5, 19, 20, 21])))))))
  (.seq (.ops [⟨(some 4), .mov (.c (.bool true)), none, false, []⟩] none [4])
  .ret)))))
def spans_May_r : List RRes := [.tmp 4]
def spans_May_hi : Hi := ⟨[(7, (.st (.cons (.int .i64) (.cons (.int .i64) .nil))))], [(0, "size"), (1, "l"), (2, "size"), (3, "l"), (5, "last"), (7, "s")]⟩
def spans_May_an : An := (.seq .d (.seq .d (.seq .d (.seq (.seq .d (.loop [] [] [] .d)) .d))))
def spans_May_fi : Fi := ⟨45, spans_May_c, spans_May_r, spans_May_an, spans_May_hi, none⟩
theorem spans_May_ok : FiOk Try.prog f_spans_May spans_May_fi :=
  ⟨fun _ => by kernel_rfl, fun _ h hlen => fun_sound (by kernel_rfl) (fn := Try.f16) (draw_sound _ _) Try.func16 rfl (by kernel_rfl : comp Try.prog 45 _ spans_May_c = some spans_May_c) (by kernel_rfl : cRes Try.prog Try.f16.results.toList = some spans_May_r) hlen h, fun _ h => nomatch h⟩

/-- fustian/edit.Check: slots [0 size, 1 e, 2 size, 3 e] -/
def edit_Check_c : SCode :=
  (.seq (.ops [⟨(some 3), .box 0 (.t 1), none, false, []⟩,
    ⟨(some 4), .mov (.c (.int .i64 0)), none, false, []⟩] none [0, 3])
  (.seq (.block 0 (.seq (.ops [⟨(some 6), .mov (.t 0), none, false, []⟩,
    ⟨(some 7), .bin .none .lss (.t 6) (.c (.int .i64 0)), none, false, []⟩,
    ⟨(some 8), .mov (.t 7), none, true, []⟩,
    ⟨(some 9), .mov (.t 0), (some (8, false)), false, []⟩,
    ⟨(some 10), .bin .none .gtr (.t 9) (.c (.int .i64 600)), (some (8, false)), false, []⟩,
    ⟨(some 11), .pick (.t 8) (.c (.bool true)) (.t 10), none, false, []⟩,
    ⟨(some 12), .mov (.t 11), none, true, []⟩,
    ⟨(some 13), .faddr 0 (.t 3), (some (12, false)), false, []⟩,
    ⟨(some 14), .load 1 false (.t 13), (some (12, false)), false, []⟩,
    ⟨(some 15), .bin .none .lss (.t 14) (.c (.int .i64 0)), (some (12, false)), false, []⟩,
    ⟨(some 16), .pick (.t 12) (.c (.bool true)) (.t 15), none, false, []⟩,
    ⟨(some 17), .mov (.t 16), none, true, []⟩,
    ⟨(some 18), .faddr 0 (.t 3), (some (17, false)), false, []⟩,
    ⟨(some 19), .load 1 false (.t 18), (some (17, false)), false, []⟩,
    ⟨(some 20), .mov (.t 0), (some (17, false)), false, []⟩,
    ⟨(some 21), .bin .none .gtr (.t 19) (.t 20), (some (17, false)), false, []⟩,
    ⟨(some 22), .pick (.t 17) (.c (.bool true)) (.t 21), none, false, []⟩,
    ⟨(some 23), .mov (.t 22), none, true, []⟩,
    ⟨(some 24), .faddr 1 (.t 3), (some (23, false)), false, []⟩,
    ⟨(some 25), .load 1 false (.t 24), (some (23, false)), false, []⟩,
    ⟨(some 26), .bin .none .lss (.t 25) (.c (.int .i64 0)), (some (23, false)), false, []⟩,
    ⟨(some 27), .pick (.t 23) (.c (.bool true)) (.t 26), none, false, []⟩,
    ⟨(some 28), .mov (.t 27), none, true, []⟩,
    ⟨(some 29), .faddr 1 (.t 3), (some (28, false)), false, []⟩,
    ⟨(some 30), .load 1 false (.t 29), (some (28, false)), false, []⟩,
    ⟨(some 31), .mov (.t 0), (some (28, false)), false, []⟩,
    ⟨(some 32), .faddr 0 (.t 3), (some (28, false)), false, []⟩,
    ⟨(some 33), .load 1 false (.t 32), (some (28, false)), false, []⟩,
    ⟨(some 34), .bin .none .sub (.t 31) (.t 33), (some (28, false)), false, []⟩,
    ⟨(some 35), .bin .none .gtr (.t 30) (.t 34), (some (28, false)), false, []⟩,
    ⟨(some 36), .pick (.t 28) (.c (.bool true)) (.t 35), none, false, []⟩,
    ⟨(some 5), .mov (.t 36), none, false, []⟩] none [0, 3, 5])
  (.cond (.t 5)
    (.seq (.ops [⟨(some 4), .mov (.c (.int .i64 2)), none, false, []⟩] none [4])
    .ret)
    (.seq (.ops [⟨(some 38), .mov (.t 0), none, false, []⟩,
      ⟨(some 39), .faddr 1 (.t 3), none, false, []⟩,
      ⟨(some 40), .load 1 false (.t 39), none, false, []⟩,
      ⟨(some 41), .bin .none .sub (.t 38) (.t 40), none, false, []⟩,
      ⟨(some 42), .faddr 2 (.t 3), none, false, []⟩,
      ⟨(some 43), .load 1 false (.t 42), none, false, []⟩,
      ⟨(some 44), .len true (.t 43), none, false, []⟩,
      ⟨(some 45), .bin .none .add (.t 41) (.t 44), none, false, []⟩,
      ⟨(some 46), .bin .none .gtr (.t 45) (.c (.int .i64 600)), none, false, []⟩,
      ⟨(some 37), .mov (.t 46), none, false, []⟩] none [37])
    (.cond (.t 37)
      (.seq (.ops [⟨(some 4), .mov (.c (.int .i64 1)), none, false, []⟩] none [4])
      .ret)
      .skip)))))
  (.seq (.ops [⟨(some 4), .mov (.c (.int .i64 0)), none, false, []⟩] none [4])
  .ret)))
def edit_Check_r : List RRes := [.tmp 4]
def edit_Check_hi : Hi := ⟨[(3, (.st (.cons (.int .i64) (.cons (.int .i64) (.cons .str .nil)))))], [(0, "size"), (1, "e"), (2, "size"), (3, "e")]⟩
def edit_Check_an : An := .d
def edit_Check_fi : Fi := ⟨47, edit_Check_c, edit_Check_r, edit_Check_an, edit_Check_hi, none⟩
theorem edit_Check_ok : FiOk Try.prog f_edit_Check edit_Check_fi :=
  ⟨fun _ => by kernel_rfl, fun _ h hlen => fun_sound (by kernel_rfl) (fn := Try.f17) (draw_sound _ _) Try.func17 rfl (by kernel_rfl : comp Try.prog 47 _ edit_Check_c = some edit_Check_c) (by kernel_rfl : cRes Try.prog Try.f17.results.toList = some edit_Check_r) hlen h, fun _ h => nomatch h⟩

/-- slices.Clone[[]fustian/api.Span,fustian/api.Span]: slots [0 s, 1 s] -/
def slices_Clone___api_Span_api_Span__c : SCode :=
  (.seq (.ops [⟨(some 2), .mov (.c .nils), none, false, []⟩] none [0])
  (.seq (.seq (.ops [⟨(some 3), .mov (.t 0), none, false, []⟩,
    ⟨(some 4), .isnil false (.t 3), none, false, []⟩] none [0, 4])
  (.cond (.t 4)
    (.seq (.ops [⟨(some 2), .mov (.c .nils), none, false, []⟩] none [2])
    .ret)
    .skip))
  (.seq (.ops [⟨(some 5), .bslice false 0 2 [] [], none, false, []⟩,
    ⟨(some 6), .mov (.t 0), none, false, []⟩,
    ⟨(some 7), .append 2 16 (.t 5) (.t 6), none, false, []⟩,
    ⟨(some 2), .mov (.t 7), none, false, []⟩] none [2])
  .ret)))
def slices_Clone___api_Span_api_Span__r : List RRes := [.tmp 2]
def slices_Clone___api_Span_api_Span__hi : Hi := ⟨[(5, (.st (.cons (.int .i64) (.cons (.int .i64) .nil)))), (7, (.st (.cons (.int .i64) (.cons (.int .i64) .nil))))], [(0, "s"), (1, "s")]⟩
def slices_Clone___api_Span_api_Span__an : An := .d
def slices_Clone___api_Span_api_Span__fi : Fi := ⟨8, slices_Clone___api_Span_api_Span__c, slices_Clone___api_Span_api_Span__r, slices_Clone___api_Span_api_Span__an, slices_Clone___api_Span_api_Span__hi, none⟩
theorem slices_Clone___api_Span_api_Span__ok : FiOk Try.prog f_slices_Clone___api_Span_api_Span_ slices_Clone___api_Span_api_Span__fi :=
  ⟨fun _ => by kernel_rfl, fun _ h hlen => fun_sound (by kernel_rfl) (fn := Try.f26) (draw_sound _ _) Try.func26 rfl (by kernel_rfl : comp Try.prog 8 _ slices_Clone___api_Span_api_Span__c = some slices_Clone___api_Span_api_Span__c) (by kernel_rfl : cRes Try.prog Try.f26.results.toList = some slices_Clone___api_Span_api_Span__r) hlen h, fun _ h => nomatch h⟩

/-- fustian/spans.Without: slots [0 l, 1 s, 2 l, 3 s, 5 out, 6 _, 7 x] -/
def spans_Without_c : SCode :=
  (.seq (.ops [⟨(some 3), .box 0 (.t 1), none, false, []⟩,
    ⟨(some 4), .mov (.c .nils), none, false, []⟩] none [0, 3])
  (.seq (.ops [⟨(some 5), .newnil 2, none, false, []⟩] none [0, 3, 5])
  (.seq (.seq (.ops [⟨(some 8), .mov (.t 0), none, false, []⟩,
    ⟨(some 9), .len false (.t 8), none, false, []⟩,
    ⟨(some 10), .mov (.c (.int .i64 0)), none, false, []⟩] none [0, 3, 5, 8, 9, 10])
  (.block 0 (.loop [0, 3, 8, 9] [5, 10] 2
    (.seq (.ops [⟨(some 11), .bin .none .lss (.t 10) (.t 9), none, false, []⟩] none [0, 3, 5, 8, 9, 10, 11])
    (.seq (.cond (.t 11)
      .skip
      (.exit 0))
    (.seq (.block 1 (.seq (.ops [⟨(some 12), .iaddr 2 none (.t 8) (.t 10), none, false, []⟩,
      ⟨(some 13), .load 2 true (.t 12), none, false, []⟩,
      ⟨(some 7), .alloc 0 [(.int .i64 0), (.int .i64 0)], none, false, []⟩,
      ⟨none, .store 2 (.t 7) (.t 13), none, false, []⟩] none [0, 3, 5, 7, 8, 9, 10])
    (.ops [⟨(some 14), .mov (.t 5), none, false, []⟩,
      ⟨(some 15), .faddr 0 (.t 7), none, false, []⟩,
      ⟨(some 16), .load 1 false (.t 15), none, false, []⟩,
      ⟨(some 17), .faddr 1 (.t 7), none, false, []⟩,
      ⟨(some 18), .load 1 false (.t 17), none, false, []⟩,
      ⟨(some 19), .faddr 0 (.t 7), none, false, []⟩,
      ⟨(some 20), .load 1 false (.t 19), none, false, []⟩,
      ⟨(some 21), .faddr 0 (.t 3), none, false, []⟩,
      ⟨(some 22), .load 1 false (.t 21), none, false, []⟩,
      ⟨(some 23), .max [(.t 20), (.t 22)], none, false, []⟩,
      ⟨(some 24), .min [(.t 18), (.t 23)], none, false, []⟩,
      ⟨(some 25), .build [(.int .i64 0), (.int .i64 0)] [(0, 1, (.t 16)), (1, 1, (.t 24))], none, false, []⟩,
      ⟨(some 26), .faddr 0 (.t 7), none, false, []⟩,
      ⟨(some 27), .load 1 false (.t 26), none, false, []⟩,
      ⟨(some 28), .faddr 1 (.t 7), none, false, []⟩,
      ⟨(some 29), .load 1 false (.t 28), none, false, []⟩,
      ⟨(some 30), .faddr 1 (.t 3), none, false, []⟩,
      ⟨(some 31), .load 1 false (.t 30), none, false, []⟩,
      ⟨(some 32), .min [(.t 29), (.t 31)], none, false, []⟩,
      ⟨(some 33), .max [(.t 27), (.t 32)], none, false, []⟩,
      ⟨(some 34), .faddr 1 (.t 7), none, false, []⟩,
      ⟨(some 35), .load 1 false (.t 34), none, false, []⟩,
      ⟨(some 36), .build [(.int .i64 0), (.int .i64 0)] [(0, 1, (.t 33)), (1, 1, (.t 35))], none, false, []⟩,
      ⟨(some 37), .bslice true 2 2 [(.int .i64 0), (.int .i64 0), (.int .i64 0), (.int .i64 0)] [(0, 2, (.t 25)), (2, 2, (.t 36))], none, false, []⟩,
      ⟨(some 38), .append 2 16 (.t 14) (.t 37), none, false, []⟩,
      ⟨(some 5), .mov (.t 38), none, false, []⟩] none [0, 3, 5, 8, 9, 10])))
    (.ops [⟨(some 39), .bin .none .add (.t 10) (.c (.int .i64 1)), none, false, []⟩,
      ⟨(some 10), .mov (.t 39), none, false, []⟩] none [0, 3, 5, 8, 9, 10])))))))
  (.seq (.seq (.ops [⟨(some 40), .faddr 0 (.t 3), none, false, []⟩,
    ⟨(some 41), .load 1 false (.t 40), none, false, []⟩,
    ⟨(some 42), .faddr 1 (.t 3), none, false, []⟩,
    ⟨(some 43), .load 1 false (.t 42), none, false, []⟩,
    ⟨(some 44), .bin .none .eql (.t 41) (.t 43), none, false, []⟩] none [0, 5, 44])
  (.cond (.t 44)
    (.seq (.ops [⟨(some 45), .mov (.t 0), none, false, []⟩,
      ⟨(some 46), .call f_slices_Clone___api_Span_api_Span_ [(.t 45)], none, false, []⟩,
      ⟨(some 4), .mov (.t 46), none, false, []⟩] none [4])
    .ret)
    .skip))
  (.seq (.ops [⟨(some 47), .mov (.t 5), none, false, []⟩,
    ⟨(some 48), .call f_slices_DeleteFunc___api_Span_api_Span_ [(.t 47), (.c (.fn (.func f_spans_Without_1) [] []))], none, false, []⟩,
    ⟨(some 4), .mov (.t 48), none, false, []⟩] none [4])
  .ret)))))
def spans_Without_r : List RRes := [.tmp 4]
def spans_Without_hi : Hi := ⟨[(5, (.st (.cons (.int .i64) (.cons (.int .i64) .nil)))), (37, (.st (.cons (.int .i64) (.cons (.int .i64) .nil)))), (38, (.st (.cons (.int .i64) (.cons (.int .i64) .nil)))), (3, (.st (.cons (.int .i64) (.cons (.int .i64) .nil)))), (7, (.st (.cons (.int .i64) (.cons (.int .i64) .nil))))], [(0, "l"), (1, "s"), (2, "l"), (3, "s"), (5, "out"), (7, "x")]⟩
def spans_Without_an : An := (.seq .d (.seq .d (.seq (.seq .d (.loop [5] [] [] .d)) .d)))
def spans_Without_fi : Fi := ⟨49, spans_Without_c, spans_Without_r, spans_Without_an, spans_Without_hi, none⟩
theorem spans_Without_ok : FiOk Try.prog f_spans_Without spans_Without_fi :=
  ⟨fun _ => by kernel_rfl, fun _ h hlen => fun_sound (by kernel_rfl) (fn := Try.f27) (draw_sound _ _) Try.func27 rfl (by kernel_rfl : comp Try.prog 49 _ spans_Without_c = some spans_Without_c) (by kernel_rfl : cRes Try.prog Try.f27.results.toList = some spans_Without_r) hlen h, fun _ h => nomatch h⟩

/-- fustian/spans.Joined: slots [0 l, 1 l, 3 out, 4 _, 5 s, 6 n] -/
def spans_Joined_c : SCode :=
  (.seq (.ops [⟨(some 2), .mov (.c .nils), none, false, []⟩] none [0])
  (.seq (.ops [⟨(some 3), .newnil 2, none, false, []⟩] none [0, 3])
  (.seq (.seq (.ops [⟨(some 7), .mov (.t 0), none, false, []⟩,
    ⟨(some 8), .len false (.t 7), none, false, []⟩,
    ⟨(some 9), .mov (.c (.int .i64 0)), none, false, []⟩] none [3, 7, 8, 9])
  (.block 0 (.loop [7, 8] [3, 9] 1
    (.seq (.ops [⟨(some 10), .bin .none .lss (.t 9) (.t 8), none, false, []⟩] none [3, 7, 8, 9, 10])
    (.seq (.cond (.t 10)
      .skip
      (.exit 0))
    (.join [7, 8, 9] [3] 2 (.block 1 (.seq (.ops [⟨(some 11), .iaddr 2 none (.t 7) (.t 9), none, false, []⟩,
        ⟨(some 12), .load 2 true (.t 11), none, false, []⟩,
        ⟨(some 5), .alloc 0 [(.int .i64 0), (.int .i64 0)], none, false, []⟩,
        ⟨none, .store 2 (.t 5) (.t 12), none, false, []⟩] none [3, 5, 7, 8, 9])
      (.seq (.ops [⟨(some 13), .mov (.t 3), none, false, []⟩,
        ⟨(some 14), .len false (.t 13), none, false, []⟩,
        ⟨(some 6), .mov (.t 14), none, false, []⟩] none [3, 5, 6, 7, 8, 9])
      (.block 2 (.seq (.ops [⟨(some 20), .faddr 0 (.t 5), none, false, []⟩,
        ⟨(some 21), .load 1 false (.t 20), none, false, []⟩,
        ⟨(some 22), .faddr 1 (.t 5), none, false, []⟩,
        ⟨(some 23), .load 1 false (.t 22), none, false, []⟩,
        ⟨(some 24), .bin .none .eql (.t 21) (.t 23), none, false, []⟩,
        ⟨(some 19), .mov (.t 24), none, false, []⟩] none [3, 5, 6, 7, 8, 9, 19])
      (.cond (.t 19)
        .skip
        (.seq (.ops [⟨(some 26), .mov (.t 6), none, false, []⟩,
          ⟨(some 27), .bin .none .gtr (.t 26) (.c (.int .i64 0)), none, false, []⟩,
          ⟨(some 28), .mov (.t 27), none, true, []⟩,
          ⟨(some 29), .mov (.t 3), (some (28, true)), false, []⟩,
          ⟨(some 30), .mov (.t 6), (some (28, true)), false, []⟩,
          ⟨(some 31), .bin .none .sub (.t 30) (.c (.int .i64 1)), (some (28, true)), false, []⟩,
          ⟨(some 32), .iaddr 2 none (.t 29) (.t 31), (some (28, true)), false, []⟩,
          ⟨(some 33), .faddr 1 (.t 32), (some (28, true)), false, []⟩,
          ⟨(some 34), .load 1 false (.t 33), (some (28, true)), false, []⟩,
          ⟨(some 35), .faddr 0 (.t 5), (some (28, true)), false, []⟩,
          ⟨(some 36), .load 1 false (.t 35), (some (28, true)), false, []⟩,
          ⟨(some 37), .bin .none .geq (.t 34) (.t 36), (some (28, true)), false, []⟩,
          ⟨(some 38), .pick (.t 28) (.t 37) (.c (.bool false)), none, false, []⟩,
          ⟨(some 25), .mov (.t 38), none, false, []⟩] (some (0, 0, [0, 1, 2, 3, 4, 5, 6, 7, 8, 9, 10, 11, 12, 13])) [3, 5, 6, 7, 8, 9, 25])
        (.cond (.t 25)
          (.ops [⟨(some 39), .mov (.t 3), none, false, []⟩,
            ⟨(some 40), .mov (.t 6), none, false, []⟩,
            ⟨(some 41), .bin .none .sub (.t 40) (.c (.int .i64 1)), none, false, []⟩,
            ⟨(some 42), .mov (.t 3), none, false, []⟩,
            ⟨(some 43), .mov (.t 6), none, false, []⟩,
            ⟨(some 44), .bin .none .sub (.t 43) (.c (.int .i64 1)), none, false, []⟩,
            ⟨(some 45), .iaddr 2 none (.t 42) (.t 44), none, false, []⟩,
            ⟨(some 46), .faddr 1 (.t 45), none, false, []⟩,
            ⟨(some 47), .load 1 false (.t 46), none, false, []⟩,
            ⟨(some 48), .faddr 1 (.t 5), none, false, []⟩,
            ⟨(some 49), .load 1 false (.t 48), none, false, []⟩,
            ⟨(some 50), .max [(.t 47), (.t 49)], none, false, []⟩,
            ⟨(some 51), .iaddr 2 none (.t 39) (.t 41), none, false, []⟩,
            ⟨(some 52), .faddr 1 (.t 51), none, false, []⟩,
            ⟨none, .store 1 (.t 52) (.t 50), none, false, []⟩] (some (0, 0, [0, 1, 2, 3, 4, 5, 6, 7, 8, 9, 10, 11, 12, 13, 14])) [3, 7, 8, 9])
          (.ops [⟨(some 15), .mov (.t 3), none, false, []⟩,
            ⟨(some 16), .load 2 true (.t 5), none, false, []⟩,
            ⟨(some 17), .bslice true 1 2 [(.int .i64 0), (.int .i64 0)] [(0, 2, (.t 16))], none, false, []⟩,
            ⟨(some 18), .append 2 16 (.t 15) (.t 17), none, false, []⟩,
            ⟨(some 3), .mov (.t 18), none, false, []⟩] none [3, 7, 8, 9])))))))))
    (.ops [⟨(some 53), .bin .none .add (.t 9) (.c (.int .i64 1)), none, false, []⟩,
      ⟨(some 9), .mov (.t 53), none, false, []⟩] none [3, 7, 8, 9])))))))
  (.seq (.ops [⟨(some 54), .mov (.t 3), none, false, []⟩,
    ⟨(some 2), .mov (.t 54), none, false, []⟩] none [2])
  .ret))))
def spans_Joined_r : List RRes := [.tmp 2]
def spans_Joined_hi : Hi := ⟨[(3, (.st (.cons (.int .i64) (.cons (.int .i64) .nil)))), (17, (.st (.cons (.int .i64) (.cons (.int .i64) .nil)))), (18, (.st (.cons (.int .i64) (.cons (.int .i64) .nil)))), (5, (.st (.cons (.int .i64) (.cons (.int .i64) .nil))))], [(0, "l"), (1, "l"), (3, "out"), (5, "s"), (6, "n")]⟩
def spans_Joined_an : An := (.seq .d (.seq .d (.seq (.seq .d (.loop [3] [] [] .d)) .d)))
def spans_Joined_fi : Fi := ⟨55, spans_Joined_c, spans_Joined_r, spans_Joined_an, spans_Joined_hi, none⟩
theorem spans_Joined_ok : FiOk Try.prog f_spans_Joined spans_Joined_fi :=
  ⟨fun _ => by kernel_rfl, fun _ h hlen => fun_sound (by kernel_rfl) (fn := Try.f24) (draw_sound _ _) Try.func24 rfl (by kernel_rfl : comp Try.prog 55 _ spans_Joined_c = some spans_Joined_c) (by kernel_rfl : cRes Try.prog Try.f24.results.toList = some spans_Joined_r) hlen h, fun _ h => nomatch h⟩

/-- fustian/spans.With: slots [0 l, 1 s, 2 l, 3 s, 5 i, 6 _] -/
def spans_With_c : SCode :=
  (.seq (.ops [⟨(some 3), .box 0 (.t 1), none, false, []⟩,
    ⟨(some 4), .mov (.c .nils), none, false, []⟩] none [0, 3])
  (.seq (.ops [⟨(some 8), .mov (.t 0), none, false, []⟩,
    ⟨(some 9), .faddr 0 (.t 3), none, false, []⟩,
    ⟨(some 10), .load 1 false (.t 9), none, false, []⟩,
    ⟨(some 11), .call f_slices_BinarySearchFunc___api_Span_api_Span_int_ [(.t 8), (.t 10), (.c (.fn (.func f_spans_With_1) [] []))], none, false, []⟩,
    ⟨(some 7), .mov (.t 11), none, false, []⟩,
    ⟨(some 12), .extract (.t 7) 0, none, false, []⟩,
    ⟨(some 13), .extract (.t 7) 1, none, false, []⟩,
    ⟨(some 5), .mov (.t 12), none, false, []⟩,
    ⟨(some 6), .mov (.t 13), none, false, []⟩] none [0, 3, 5])
  (.seq (.ops [⟨(some 14), .mov (.t 0), none, false, []⟩,
    ⟨(some 16), .mov (.t 5), none, false, []⟩,
    ⟨(some 17), .load 2 true (.t 3), none, false, []⟩,
    ⟨(some 18), .bslice true 1 2 [(.int .i64 0), (.int .i64 0)] [(0, 2, (.t 17))], none, false, []⟩,
    ⟨(some 15), .call f_slices_Clone___api_Span_api_Span_ [(.t 14)], none, false, [(17, 2, true, (.t 3))]⟩,
    ⟨none, .again 17 2 true (.t 3), none, false, []⟩,
    ⟨(some 19), .call f_slices_Insert___api_Span_api_Span_ [(.t 15), (.t 16), (.t 18)], none, false, []⟩,
    ⟨(some 20), .call f_spans_Joined [(.t 19)], none, false, []⟩,
    ⟨(some 4), .mov (.t 20), none, false, []⟩] (some (0, 0, [0, 2, 3, 4, 1, 5, 6, 7])) [4])
  .ret)))
def spans_With_r : List RRes := [.tmp 4]
def spans_With_hi : Hi := ⟨[(18, (.st (.cons (.int .i64) (.cons (.int .i64) .nil)))), (3, (.st (.cons (.int .i64) (.cons (.int .i64) .nil))))], [(0, "l"), (1, "s"), (2, "l"), (3, "s"), (5, "i")]⟩
def spans_With_an : An := .d
def spans_With_fi : Fi := ⟨21, spans_With_c, spans_With_r, spans_With_an, spans_With_hi, none⟩
theorem spans_With_ok : FiOk Try.prog f_spans_With spans_With_fi :=
  ⟨fun _ => by kernel_rfl, fun _ h hlen => fun_sound (by kernel_rfl) (fn := Try.f12) (draw_sound _ _) Try.func12 rfl (by kernel_rfl : comp Try.prog 21 _ spans_With_c = some spans_With_c) (by kernel_rfl : cRes Try.prog Try.f12.results.toList = some spans_With_r) hlen h, fun _ h => nomatch h⟩

/-- fustian/spans.Shifted: slots [0 l, 1 e, 2 l, 3 e, 5 out, 6 _, 7 s, 8 by] -/
def spans_Shifted_c : SCode :=
  (.seq (.ops [⟨(some 3), .box 0 (.t 1), none, false, []⟩,
    ⟨(some 4), .mov (.c .nils), none, false, []⟩] none [0, 3])
  (.seq (.ops [⟨(some 5), .newnil 2, none, false, []⟩] none [0, 3, 5])
  (.seq (.seq (.ops [⟨(some 9), .mov (.t 0), none, false, []⟩,
    ⟨(some 10), .faddr 0 (.t 3), none, false, []⟩,
    ⟨(some 11), .load 1 false (.t 10), none, false, []⟩,
    ⟨(some 12), .faddr 0 (.t 3), none, false, []⟩,
    ⟨(some 13), .load 1 false (.t 12), none, false, []⟩,
    ⟨(some 14), .faddr 1 (.t 3), none, false, []⟩,
    ⟨(some 15), .load 1 false (.t 14), none, false, []⟩,
    ⟨(some 16), .bin .none .add (.t 13) (.t 15), none, false, []⟩,
    ⟨(some 17), .build [(.int .i64 0), (.int .i64 0)] [(0, 1, (.t 11)), (1, 1, (.t 16))], none, false, []⟩,
    ⟨(some 18), .call f_spans_Without [(.t 9), (.t 17)], none, false, []⟩,
    ⟨(some 19), .len false (.t 18), none, false, []⟩,
    ⟨(some 20), .mov (.c (.int .i64 0)), none, false, []⟩] none [3, 5, 18, 19, 20])
  (.block 0 (.loop [3, 18, 19] [5, 20] 2
    (.seq (.ops [⟨(some 21), .bin .none .lss (.t 20) (.t 19), none, false, []⟩] none [3, 5, 18, 19, 20, 21])
    (.seq (.cond (.t 21)
      .skip
      (.exit 0))
    (.seq (.block 1 (.seq (.ops [⟨(some 22), .iaddr 2 none (.t 18) (.t 20), none, false, []⟩,
      ⟨(some 23), .load 2 true (.t 22), none, false, []⟩,
      ⟨(some 7), .alloc 0 [(.int .i64 0), (.int .i64 0)], none, false, []⟩,
      ⟨none, .store 2 (.t 7) (.t 23), none, false, []⟩] none [3, 5, 7, 18, 19, 20])
    (.join [3, 7, 18, 19, 20] [5] 3 (.seq (.ops [⟨(some 24), .faddr 0 (.t 7), none, false, []⟩,
        ⟨(some 25), .load 1 false (.t 24), none, false, []⟩,
        ⟨(some 26), .faddr 0 (.t 3), none, false, []⟩,
        ⟨(some 27), .load 1 false (.t 26), none, false, []⟩,
        ⟨(some 28), .bin .none .lss (.t 25) (.t 27), none, false, []⟩,
        ⟨(some 29), .mov (.t 28), none, true, []⟩,
        ⟨(some 30), .faddr 1 (.t 7), (some (29, true)), false, []⟩,
        ⟨(some 31), .load 1 false (.t 30), (some (29, true)), false, []⟩,
        ⟨(some 32), .faddr 0 (.t 3), (some (29, true)), false, []⟩,
        ⟨(some 33), .load 1 false (.t 32), (some (29, true)), false, []⟩,
        ⟨(some 34), .bin .none .gtr (.t 31) (.t 33), (some (29, true)), false, []⟩,
        ⟨(some 35), .pick (.t 29) (.t 34) (.c (.bool false)), none, false, []⟩] none [3, 5, 7, 18, 19, 20, 35])
      (.cond (.t 35)
        (.seq (.ops [⟨(some 36), .mov (.t 5), none, false, []⟩,
          ⟨(some 37), .faddr 0 (.t 7), none, false, []⟩,
          ⟨(some 38), .load 1 false (.t 37), none, false, []⟩,
          ⟨(some 39), .faddr 0 (.t 3), none, false, []⟩,
          ⟨(some 40), .load 1 false (.t 39), none, false, []⟩,
          ⟨(some 41), .build [(.int .i64 0), (.int .i64 0)] [(0, 1, (.t 38)), (1, 1, (.t 40))], none, false, []⟩,
          ⟨(some 42), .bslice true 1 2 [(.int .i64 0), (.int .i64 0)] [(0, 2, (.t 41))], none, false, []⟩,
          ⟨(some 43), .append 2 16 (.t 36) (.t 42), none, false, []⟩,
          ⟨(some 5), .mov (.t 43), none, false, []⟩] none [3, 5, 7, 18, 19, 20])
        (.ops [⟨(some 44), .faddr 0 (.t 3), none, false, []⟩,
          ⟨(some 45), .load 1 false (.t 44), none, false, []⟩,
          ⟨(some 46), .faddr 0 (.t 7), none, false, []⟩,
          ⟨none, .store 1 (.t 46) (.t 45), none, false, []⟩] none [3, 5, 7, 18, 19, 20]))
        .skip))
    (.join [3, 5, 7, 18, 19, 20] [] 3 (.seq (.ops [⟨(some 47), .faddr 0 (.t 7), none, false, []⟩,
        ⟨(some 48), .load 1 false (.t 47), none, false, []⟩,
        ⟨(some 49), .faddr 0 (.t 3), none, false, []⟩,
        ⟨(some 50), .load 1 false (.t 49), none, false, []⟩,
        ⟨(some 51), .bin .none .geq (.t 48) (.t 50), none, false, []⟩] none [3, 5, 7, 18, 19, 20, 51])
      (.cond (.t 51)
        (.seq (.ops [⟨(some 52), .faddr 2 (.t 3), none, false, []⟩,
          ⟨(some 53), .load 1 false (.t 52), none, false, []⟩,
          ⟨(some 54), .len true (.t 53), none, false, []⟩,
          ⟨(some 55), .faddr 1 (.t 3), none, false, []⟩,
          ⟨(some 56), .load 1 false (.t 55), none, false, []⟩,
          ⟨(some 57), .bin .none .sub (.t 54) (.t 56), none, false, []⟩,
          ⟨(some 8), .mov (.t 57), none, false, []⟩] none [3, 5, 7, 8, 18, 19, 20])
        (.ops [⟨(some 58), .faddr 0 (.t 7), none, false, []⟩,
          ⟨(some 59), .load 1 false (.t 58), none, false, []⟩,
          ⟨(some 60), .mov (.t 8), none, false, []⟩,
          ⟨(some 61), .bin .none .add (.t 59) (.t 60), none, false, []⟩,
          ⟨(some 62), .faddr 1 (.t 7), none, false, []⟩,
          ⟨(some 63), .load 1 false (.t 62), none, false, []⟩,
          ⟨(some 64), .mov (.t 8), none, false, []⟩,
          ⟨(some 65), .bin .none .add (.t 63) (.t 64), none, false, []⟩,
          ⟨(some 66), .build [(.int .i64 0), (.int .i64 0)] [(0, 1, (.t 61)), (1, 1, (.t 65))], none, false, []⟩,
          ⟨none, .store 2 (.t 7) (.t 66), none, false, []⟩] none [3, 5, 7, 18, 19, 20]))
        .skip))
    (.ops [⟨(some 67), .mov (.t 5), none, false, []⟩,
      ⟨(some 68), .load 2 true (.t 7), none, false, []⟩,
      ⟨(some 69), .bslice true 1 2 [(.int .i64 0), (.int .i64 0)] [(0, 2, (.t 68))], none, false, []⟩,
      ⟨(some 70), .append 2 16 (.t 67) (.t 69), none, false, []⟩,
      ⟨(some 5), .mov (.t 70), none, false, []⟩] none [3, 5, 18, 19, 20])))))
    (.ops [⟨(some 71), .bin .none .add (.t 20) (.c (.int .i64 1)), none, false, []⟩,
      ⟨(some 20), .mov (.t 71), none, false, []⟩] none [3, 5, 18, 19, 20])))))))
  (.seq (.ops [⟨(some 72), .mov (.t 5), none, false, []⟩,
    ⟨(some 74), .faddr 0 (.t 3), none, false, []⟩,
    ⟨(some 75), .load 1 false (.t 74), none, false, []⟩,
    ⟨(some 76), .faddr 0 (.t 3), none, false, []⟩,
    ⟨(some 77), .load 1 false (.t 76), none, false, []⟩,
    ⟨(some 78), .faddr 2 (.t 3), none, false, []⟩,
    ⟨(some 79), .load 1 false (.t 78), none, false, []⟩,
    ⟨(some 80), .len true (.t 79), none, false, []⟩,
    ⟨(some 81), .bin .none .add (.t 77) (.t 80), none, false, []⟩,
    ⟨(some 82), .build [(.int .i64 0), (.int .i64 0)] [(0, 1, (.t 75)), (1, 1, (.t 81))], none, false, []⟩,
    ⟨(some 73), .call f_spans_Joined [(.t 72)], none, false, [(75, 1, false, (.t 74)), (77, 1, false, (.t 76)), (79, 1, false, (.t 78))]⟩,
    ⟨none, .again 75 1 false (.t 74), none, false, []⟩,
    ⟨none, .again 77 1 false (.t 76), none, false, []⟩,
    ⟨none, .again 79 1 false (.t 78), none, false, []⟩,
    ⟨(some 83), .call f_spans_With [(.t 73), (.t 82)], none, false, []⟩,
    ⟨(some 4), .mov (.t 83), none, false, []⟩] (some (0, 0, [0, 2, 3, 4, 5, 6, 7, 8, 9, 10, 1, 11, 12])) [4])
  .ret))))
def spans_Shifted_r : List RRes := [.tmp 4]
def spans_Shifted_hi : Hi := ⟨[(5, (.st (.cons (.int .i64) (.cons (.int .i64) .nil)))), (42, (.st (.cons (.int .i64) (.cons (.int .i64) .nil)))), (43, (.st (.cons (.int .i64) (.cons (.int .i64) .nil)))), (69, (.st (.cons (.int .i64) (.cons (.int .i64) .nil)))), (70, (.st (.cons (.int .i64) (.cons (.int .i64) .nil)))), (3, (.st (.cons (.int .i64) (.cons (.int .i64) (.cons .str .nil))))), (7, (.st (.cons (.int .i64) (.cons (.int .i64) .nil))))], [(0, "l"), (1, "e"), (2, "l"), (3, "e"), (5, "out"), (7, "s"), (8, "by")]⟩
def spans_Shifted_an : An := (.seq .d (.seq .d (.seq (.seq .d (.loop [5] [] [] .d)) .d)))
def spans_Shifted_fi : Fi := ⟨84, spans_Shifted_c, spans_Shifted_r, spans_Shifted_an, spans_Shifted_hi, none⟩
theorem spans_Shifted_ok : FiOk Try.prog f_spans_Shifted spans_Shifted_fi :=
  ⟨fun _ => by kernel_rfl, fun _ h hlen => fun_sound (by kernel_rfl) (fn := Try.f18) (draw_sound _ _) Try.func18 rfl (by kernel_rfl : comp Try.prog 84 _ spans_Shifted_c = some spans_Shifted_c) (by kernel_rfl : cRes Try.prog Try.f18.results.toList = some spans_Shifted_r) hlen h, fun _ h => nomatch h⟩

/-- fustian/spans.Shift: slots [0 size, 1 l, 2 e, 3 size, 4 l, 5 e, 8 f] -/
def spans_Shift_c : SCode :=
  (.seq (.ops [⟨(some 5), .box 0 (.t 2), none, false, []⟩,
    ⟨(some 6), .mov (.c .nils), none, false, []⟩,
    ⟨(some 7), .mov (.c (.int .i64 0)), none, false, []⟩] none [0, 1, 5])
  (.seq (.seq (.ops [⟨(some 9), .mov (.t 0), none, false, []⟩,
    ⟨(some 10), .mov (.t 1), none, false, []⟩,
    ⟨(some 11), .call f_spans_May [(.t 9), (.t 10)], none, false, []⟩,
    ⟨(some 12), .not (.t 11), none, false, []⟩] none [0, 1, 5, 12])
  (.cond (.t 12)
    (.seq (.ops [⟨(some 6), .mov (.c .nils), none, false, []⟩,
      ⟨(some 7), .mov (.c (.int .i64 4)), none, false, []⟩] none [6, 7])
    .ret)
    .skip))
  (.seq (.seq (.ops [⟨(some 13), .mov (.t 0), none, false, []⟩,
    ⟨(some 14), .load 3 true (.t 5), none, false, []⟩,
    ⟨(some 15), .call f_edit_Check [(.t 13), (.t 14)], none, false, []⟩,
    ⟨(some 8), .mov (.t 15), none, false, []⟩] none [1, 5, 8])
  (.seq (.ops [⟨(some 16), .mov (.t 8), none, false, []⟩,
    ⟨(some 17), .bin .none .neq (.t 16) (.c (.int .i64 0)), none, false, []⟩] none [1, 5, 8, 17])
  (.cond (.t 17)
    (.seq (.ops [⟨(some 18), .mov (.t 8), none, false, []⟩,
      ⟨(some 6), .mov (.c .nils), none, false, []⟩,
      ⟨(some 7), .mov (.t 18), none, false, []⟩] none [6, 7])
    .ret)
    .skip)))
  (.seq (.ops [⟨(some 19), .mov (.t 1), none, false, []⟩,
    ⟨(some 20), .load 3 true (.t 5), none, false, []⟩,
    ⟨(some 21), .call f_spans_Shifted [(.t 19), (.t 20)], none, false, []⟩,
    ⟨(some 22), .call f_spans_full [(.t 21)], none, false, []⟩,
    ⟨(some 23), .extract (.t 22) 0, none, false, []⟩,
    ⟨(some 24), .extract (.t 22) 1, none, false, []⟩,
    ⟨(some 6), .mov (.t 23), none, false, []⟩,
    ⟨(some 7), .mov (.t 24), none, false, []⟩] none [6, 7])
  .ret))))
def spans_Shift_r : List RRes := [.tmp 6, .tmp 7]
def spans_Shift_hi : Hi := ⟨[(5, (.st (.cons (.int .i64) (.cons (.int .i64) (.cons .str .nil)))))], [(0, "size"), (1, "l"), (2, "e"), (3, "size"), (4, "l"), (5, "e"), (8, "f")]⟩
def spans_Shift_an : An := .d
def spans_Shift_fi : Fi := ⟨25, spans_Shift_c, spans_Shift_r, spans_Shift_an, spans_Shift_hi, none⟩
theorem spans_Shift_ok : FiOk Try.prog f_spans_Shift spans_Shift_fi :=
  ⟨fun _ => by kernel_rfl, fun _ h hlen => fun_sound (by kernel_rfl) (fn := Try.f8) (draw_sound _ _) Try.func8 rfl (by kernel_rfl : comp Try.prog 25 _ spans_Shift_c = some spans_Shift_c) (by kernel_rfl : cRes Try.prog Try.f8.results.toList = some spans_Shift_r) hlen h, fun _ h => nomatch h⟩

/-- fustian/fustianref.SpansMay: slots [0 size, 1 l, 2 size, 3 l, 5 i, 6 s] -/
def ref_SpansMay_c : SCode :=
  (.seq (.ops [⟨(some 4), .mov (.c (.bool false)), none, false, []⟩] none [0, 1])
  (.seq (.seq (.ops [⟨(some 7), .mov (.t 0), none, false, []⟩,
    ⟨(some 8), .bin .none .lss (.t 7) (.c (.int .i64 0)), none, false, []⟩,
    ⟨(some 9), .mov (.t 8), none, true, []⟩,
    ⟨(some 10), .mov (.t 0), (some (9, false)), false, []⟩,
    ⟨(some 11), .bin .none .gtr (.t 10) (.c (.int .i64 600)), (some (9, false)), false, []⟩,
    ⟨(some 12), .pick (.t 9) (.c (.bool true)) (.t 11), none, false, []⟩,
    ⟨(some 13), .mov (.t 12), none, true, []⟩,
    ⟨(some 14), .mov (.t 1), (some (13, false)), false, []⟩,
    ⟨(some 15), .len false (.t 14), (some (13, false)), false, []⟩,
    ⟨(some 16), .bin .none .gtr (.t 15) (.c (.int .i64 40)), (some (13, false)), false, []⟩,
    ⟨(some 17), .pick (.t 13) (.c (.bool true)) (.t 16), none, false, []⟩] none [0, 1, 17])
  (.cond (.t 17)
    (.seq (.ops [⟨(some 4), .mov (.c (.bool false)), none, false, []⟩] none [4])
    .ret)
    .skip))
  (.seq (.seq (.ops [⟨(some 18), .mov (.t 1), none, false, []⟩,
    ⟨(some 19), .len false (.t 18), none, false, []⟩,
    ⟨(some 20), .mov (.c (.int .i64 0)), none, false, []⟩] none [0, 1, 18, 19, 20])
  (.block 0 (.loop [0, 1, 18, 19] [20] 0
    (.seq (.ops [⟨(some 21), .bin .none .lss (.t 20) (.t 19), none, false, []⟩] none [0, 1, 18, 19, 20, 21])
    (.seq (.cond (.t 21)
      .skip
      (.exit 0))
    (.seq (.block 1 (.seq (.ops [⟨(some 22), .mov (.t 20), none, false, []⟩,
      ⟨(some 23), .iaddr 2 none (.t 18) (.t 20), none, false, []⟩,
      ⟨(some 24), .load 2 true (.t 23), none, false, []⟩,
      ⟨(some 6), .alloc 0 [(.int .i64 0), (.int .i64 0)], none, false, []⟩,
      ⟨(some 5), .mov (.t 22), none, false, []⟩,
      ⟨none, .store 2 (.t 6) (.t 24), none, false, []⟩] none [0, 1, 5, 6, 18, 19, 20])
    (.seq (.ops [⟨(some 25), .faddr 0 (.t 6), none, false, []⟩,
      ⟨(some 26), .load 1 false (.t 25), none, false, []⟩,
      ⟨(some 27), .bin .none .lss (.t 26) (.c (.int .i64 0)), none, false, []⟩,
      ⟨(some 28), .mov (.t 27), none, true, []⟩,
      ⟨(some 29), .faddr 1 (.t 6), (some (28, false)), false, []⟩,
      ⟨(some 30), .load 1 false (.t 29), (some (28, false)), false, []⟩,
      ⟨(some 31), .faddr 0 (.t 6), (some (28, false)), false, []⟩,
      ⟨(some 32), .load 1 false (.t 31), (some (28, false)), false, []⟩,
      ⟨(some 33), .bin .none .leq (.t 30) (.t 32), (some (28, false)), false, []⟩,
      ⟨(some 34), .pick (.t 28) (.c (.bool true)) (.t 33), none, false, []⟩,
      ⟨(some 35), .mov (.t 34), none, true, []⟩,
      ⟨(some 36), .faddr 1 (.t 6), (some (35, false)), false, []⟩,
      ⟨(some 37), .load 1 false (.t 36), (some (35, false)), false, []⟩,
      ⟨(some 38), .mov (.t 0), (some (35, false)), false, []⟩,
      ⟨(some 39), .bin .none .gtr (.t 37) (.t 38), (some (35, false)), false, []⟩,
      ⟨(some 40), .pick (.t 35) (.c (.bool true)) (.t 39), none, false, []⟩,
      ⟨(some 41), .mov (.t 40), none, true, []⟩,
      ⟨(some 42), .mov (.t 5), (some (41, false)), false, []⟩,
      ⟨(some 43), .bin .none .gtr (.t 42) (.c (.int .i64 0)), (some (41, false)), false, []⟩,
      ⟨(some 44), .mov (.t 43), (some (41, false)), true, []⟩,
      ⟨(some 45), .mov (.t 1), (some (44, true)), false, []⟩,
      ⟨(some 46), .mov (.t 5), (some (44, true)), false, []⟩,
      ⟨(some 47), .bin .none .sub (.t 46) (.c (.int .i64 1)), (some (44, true)), false, []⟩,
      ⟨(some 48), .iaddr 2 none (.t 45) (.t 47), (some (44, true)), false, []⟩,
      ⟨(some 49), .faddr 1 (.t 48), (some (44, true)), false, []⟩,
      ⟨(some 50), .load 1 false (.t 49), (some (44, true)), false, []⟩,
      ⟨(some 51), .faddr 0 (.t 6), (some (44, true)), false, []⟩,
      ⟨(some 52), .load 1 false (.t 51), (some (44, true)), false, []⟩,
      ⟨(some 53), .bin .none .geq (.t 50) (.t 52), (some (44, true)), false, []⟩,
      ⟨(some 54), .pick (.t 44) (.t 53) (.c (.bool false)), (some (41, false)), false, []⟩,
      ⟨(some 55), .pick (.t 41) (.c (.bool true)) (.t 54), none, false, []⟩] (some (0, 0, [0, 1, 2, 3, 4, 5, 6, 7, 8, 9, 10, 11, 12, 13, 14, 15, 16, 17, 18, 19, 20, 21, 22, 23, 24, 25, 26, 27, 28, 29, 30])) [0, 1, 18, 19, 20, 55])
    (.cond (.t 55)
      (.seq (.ops [⟨(some 4), .mov (.c (.bool false)), none, false, []⟩] none [4])
      .ret)
      .skip))))
    (.ops [⟨(some 56), .bin .none .add (.t 20) (.c (.int .i64 1)), none, false, []⟩,
      ⟨(some 20), .mov (.t 56), none, false, []⟩] none [0, 1, 18, 19, 20])))))))
  (.seq (.ops [⟨(some 4), .mov (.c (.bool true)), none, false, []⟩] none [4])
  .ret))))
def ref_SpansMay_r : List RRes := [.tmp 4]
def ref_SpansMay_hi : Hi := ⟨[(6, (.st (.cons (.int .i64) (.cons (.int .i64) .nil))))], [(0, "size"), (1, "l"), (2, "size"), (3, "l"), (5, "i"), (6, "s")]⟩
def ref_SpansMay_an : An := (.seq .d (.seq .d (.seq (.seq .d (.loop [] [] [] .d)) .d)))
def ref_SpansMay_fi : Fi := ⟨57, ref_SpansMay_c, ref_SpansMay_r, ref_SpansMay_an, ref_SpansMay_hi, none⟩
theorem ref_SpansMay_ok : FiOk Try.prog f_ref_SpansMay ref_SpansMay_fi :=
  ⟨fun _ => by kernel_rfl, fun _ h hlen => fun_sound (by kernel_rfl) (fn := Try.f19) (draw_sound _ _) Try.func19 rfl (by kernel_rfl : comp Try.prog 57 _ ref_SpansMay_c = some ref_SpansMay_c) (by kernel_rfl : cRes Try.prog Try.f19.results.toList = some ref_SpansMay_r) hlen h, fun _ h => nomatch h⟩

/-- fustian/fustianref.EditFault: slots [0 size, 1 e, 2 size, 3 e] -/
def ref_EditFault_c : SCode :=
  (.seq (.ops [⟨(some 3), .box 0 (.t 1), none, false, []⟩,
    ⟨(some 4), .mov (.c (.int .i64 0)), none, false, []⟩] none [0, 3])
  (.seq (.seq (.ops [⟨(some 5), .mov (.t 0), none, false, []⟩,
    ⟨(some 6), .bin .none .lss (.t 5) (.c (.int .i64 0)), none, false, []⟩,
    ⟨(some 7), .mov (.t 6), none, true, []⟩,
    ⟨(some 8), .mov (.t 0), (some (7, false)), false, []⟩,
    ⟨(some 9), .bin .none .gtr (.t 8) (.c (.int .i64 600)), (some (7, false)), false, []⟩,
    ⟨(some 10), .pick (.t 7) (.c (.bool true)) (.t 9), none, false, []⟩,
    ⟨(some 11), .mov (.t 10), none, true, []⟩,
    ⟨(some 12), .faddr 0 (.t 3), (some (11, false)), false, []⟩,
    ⟨(some 13), .load 1 false (.t 12), (some (11, false)), false, []⟩,
    ⟨(some 14), .bin .none .lss (.t 13) (.c (.int .i64 0)), (some (11, false)), false, []⟩,
    ⟨(some 15), .pick (.t 11) (.c (.bool true)) (.t 14), none, false, []⟩,
    ⟨(some 16), .mov (.t 15), none, true, []⟩,
    ⟨(some 17), .faddr 1 (.t 3), (some (16, false)), false, []⟩,
    ⟨(some 18), .load 1 false (.t 17), (some (16, false)), false, []⟩,
    ⟨(some 19), .bin .none .lss (.t 18) (.c (.int .i64 0)), (some (16, false)), false, []⟩,
    ⟨(some 20), .pick (.t 16) (.c (.bool true)) (.t 19), none, false, []⟩,
    ⟨(some 21), .mov (.t 20), none, true, []⟩,
    ⟨(some 22), .faddr 0 (.t 3), (some (21, false)), false, []⟩,
    ⟨(some 23), .load 1 false (.t 22), (some (21, false)), false, []⟩,
    ⟨(some 24), .mov (.t 0), (some (21, false)), false, []⟩,
    ⟨(some 25), .bin .none .gtr (.t 23) (.t 24), (some (21, false)), false, []⟩,
    ⟨(some 26), .pick (.t 21) (.c (.bool true)) (.t 25), none, false, []⟩,
    ⟨(some 27), .mov (.t 26), none, true, []⟩,
    ⟨(some 28), .faddr 1 (.t 3), (some (27, false)), false, []⟩,
    ⟨(some 29), .load 1 false (.t 28), (some (27, false)), false, []⟩,
    ⟨(some 30), .mov (.t 0), (some (27, false)), false, []⟩,
    ⟨(some 31), .bin .none .gtr (.t 29) (.t 30), (some (27, false)), false, []⟩,
    ⟨(some 32), .pick (.t 27) (.c (.bool true)) (.t 31), none, false, []⟩,
    ⟨(some 33), .mov (.t 32), none, true, []⟩,
    ⟨(some 34), .faddr 0 (.t 3), (some (33, false)), false, []⟩,
    ⟨(some 35), .load 1 false (.t 34), (some (33, false)), false, []⟩,
    ⟨(some 36), .faddr 1 (.t 3), (some (33, false)), false, []⟩,
    ⟨(some 37), .load 1 false (.t 36), (some (33, false)), false, []⟩,
    ⟨(some 38), .bin .none .add (.t 35) (.t 37), (some (33, false)), false, []⟩,
    ⟨(some 39), .mov (.t 0), (some (33, false)), false, []⟩,
    ⟨(some 40), .bin .none .gtr (.t 38) (.t 39), (some (33, false)), false, []⟩,
    ⟨(some 41), .pick (.t 33) (.c (.bool true)) (.t 40), none, false, []⟩] none [0, 3, 41])
  (.cond (.t 41)
    (.seq (.ops [⟨(some 4), .mov (.c (.int .i64 2)), none, false, []⟩] none [4])
    .ret)
    .skip))
  (.seq (.seq (.ops [⟨(some 42), .mov (.t 0), none, false, []⟩,
    ⟨(some 43), .faddr 2 (.t 3), none, false, []⟩,
    ⟨(some 44), .load 1 false (.t 43), none, false, []⟩,
    ⟨(some 45), .len true (.t 44), none, false, []⟩,
    ⟨(some 46), .bin .none .add (.t 42) (.t 45), none, false, []⟩,
    ⟨(some 47), .faddr 1 (.t 3), none, false, []⟩,
    ⟨(some 48), .load 1 false (.t 47), none, false, []⟩,
    ⟨(some 49), .bin .none .sub (.t 46) (.t 48), none, false, []⟩,
    ⟨(some 50), .bin .none .gtr (.t 49) (.c (.int .i64 600)), none, false, []⟩] none [50])
  (.cond (.t 50)
    (.seq (.ops [⟨(some 4), .mov (.c (.int .i64 1)), none, false, []⟩] none [4])
    .ret)
    .skip))
  (.seq (.ops [⟨(some 4), .mov (.c (.int .i64 0)), none, false, []⟩] none [4])
  .ret))))
def ref_EditFault_r : List RRes := [.tmp 4]
def ref_EditFault_hi : Hi := ⟨[(3, (.st (.cons (.int .i64) (.cons (.int .i64) (.cons .str .nil)))))], [(0, "size"), (1, "e"), (2, "size"), (3, "e")]⟩
def ref_EditFault_an : An := .d
def ref_EditFault_fi : Fi := ⟨51, ref_EditFault_c, ref_EditFault_r, ref_EditFault_an, ref_EditFault_hi, none⟩
theorem ref_EditFault_ok : FiOk Try.prog f_ref_EditFault ref_EditFault_fi :=
  ⟨fun _ => by kernel_rfl, fun _ h hlen => fun_sound (by kernel_rfl) (fn := Try.f20) (draw_sound _ _) Try.func20 rfl (by kernel_rfl : comp Try.prog 51 _ ref_EditFault_c = some ref_EditFault_c) (by kernel_rfl : cRes Try.prog Try.f20.results.toList = some ref_EditFault_r) hlen h, fun _ h => nomatch h⟩

/-- fustian/fustianref.inSet: slots [0 size, 1 l, 2 size, 3 l, 5 out, 6 _, 7 s, 8 i] -/
def ref_inSet_c : SCode :=
  (.seq (.ops [⟨(some 4), .mov (.c .nils), none, false, []⟩] none [0, 1])
  (.seq (.ops [⟨(some 9), .mov (.t 0), none, false, []⟩,
    ⟨(some 10), .mkslice 1 1 [(.bool false)] (.t 9) (.t 9), none, false, []⟩,
    ⟨(some 5), .mov (.t 10), none, false, []⟩] none [1, 5])
  (.seq (.seq (.ops [⟨(some 11), .mov (.t 1), none, false, []⟩,
    ⟨(some 12), .len false (.t 11), none, false, []⟩,
    ⟨(some 13), .mov (.c (.int .i64 0)), none, false, []⟩] none [5, 11, 12, 13])
  (.block 0 (.loop [5, 11, 12] [13] 1
    (.seq (.ops [⟨(some 14), .bin .none .lss (.t 13) (.t 12), none, false, []⟩] none [5, 11, 12, 13, 14])
    (.seq (.cond (.t 14)
      .skip
      (.exit 0))
    (.seq (.block 1 (.seq (.ops [⟨(some 15), .iaddr 2 none (.t 11) (.t 13), none, false, []⟩,
      ⟨(some 16), .load 2 true (.t 15), none, false, []⟩,
      ⟨(some 7), .alloc 0 [(.int .i64 0), (.int .i64 0)], none, false, []⟩,
      ⟨none, .store 2 (.t 7) (.t 16), none, false, []⟩] none [5, 7, 11, 12, 13])
    (.seq (.ops [⟨(some 17), .faddr 0 (.t 7), none, false, []⟩,
      ⟨(some 18), .load 1 false (.t 17), none, false, []⟩,
      ⟨(some 8), .mov (.t 18), none, false, []⟩] none [5, 7, 8, 11, 12, 13])
    (.block 2 (.loop [5, 7, 11, 12, 13] [8] 2
      (.seq (.seq (.ops [⟨(some 19), .mov (.t 8), none, false, []⟩,
        ⟨(some 20), .faddr 1 (.t 7), none, false, []⟩,
        ⟨(some 21), .load 1 false (.t 20), none, false, []⟩,
        ⟨(some 22), .bin .none .lss (.t 19) (.t 21), none, false, []⟩] none [5, 7, 8, 11, 12, 13, 22])
      (.cond (.t 22)
        .skip
        (.exit 2)))
      (.seq (.block 3 (.ops [⟨(some 25), .mov (.t 5), none, false, []⟩,
        ⟨(some 26), .mov (.t 8), none, false, []⟩,
        ⟨(some 27), .iaddr 1 none (.t 25) (.t 26), none, false, []⟩,
        ⟨none, .store 1 (.t 27) (.c (.bool true)), none, false, []⟩] none [5, 7, 8, 11, 12, 13]))
      (.ops [⟨(some 23), .mov (.t 8), none, false, []⟩,
        ⟨(some 24), .bin .none .add (.t 23) (.c (.int .i64 1)), none, false, []⟩,
        ⟨(some 8), .mov (.t 24), none, false, []⟩] none [5, 7, 8, 11, 12, 13]))))))))
    (.ops [⟨(some 28), .bin .none .add (.t 13) (.c (.int .i64 1)), none, false, []⟩,
      ⟨(some 13), .mov (.t 28), none, false, []⟩] none [5, 11, 12, 13])))))))
  (.seq (.ops [⟨(some 29), .mov (.t 5), none, false, []⟩,
    ⟨(some 4), .mov (.t 29), none, false, []⟩] none [4])
  .ret))))
def ref_inSet_r : List RRes := [.tmp 4]
def ref_inSet_hi : Hi := ⟨[(10, .bool), (7, (.st (.cons (.int .i64) (.cons (.int .i64) .nil))))], [(0, "size"), (1, "l"), (2, "size"), (3, "l"), (5, "out"), (7, "s"), (8, "i")]⟩
def ref_inSet_an : An := (.seq .d (.seq .d (.seq (.seq .d (.loop [5] [] [] (.seq .d (.seq .d (.seq (.seq .d (.seq .d (.loop [5] [] [] .d))) .d))))) .d)))
def ref_inSet_fi : Fi := ⟨30, ref_inSet_c, ref_inSet_r, ref_inSet_an, ref_inSet_hi, none⟩
theorem ref_inSet_ok : FiOk Try.prog f_ref_inSet ref_inSet_fi :=
  ⟨fun _ => by kernel_rfl, fun _ h hlen => fun_sound (by kernel_rfl) (fn := Try.f14) (draw_sound _ _) Try.func14 rfl (by kernel_rfl : comp Try.prog 30 _ ref_inSet_c = some ref_inSet_c) (by kernel_rfl : cRes Try.prog Try.f14.results.toList = some ref_inSet_r) hlen h, fun _ h => nomatch h⟩

/-- fustian/fustianref.editPlace: slots [0 e, 1 at, 2 right, 3 e, 4 at, 5 right] -/
def ref_editPlace_c : SCode :=
  (.seq (.ops [⟨(some 3), .box 0 (.t 0), none, false, []⟩,
    ⟨(some 6), .mov (.c (.int .i64 0)), none, false, []⟩] none [1, 2, 3])
  (.seq (.seq (.ops [⟨(some 7), .mov (.t 1), none, false, []⟩,
    ⟨(some 8), .faddr 0 (.t 3), none, false, []⟩,
    ⟨(some 9), .load 1 false (.t 8), none, false, []⟩,
    ⟨(some 10), .bin .none .lss (.t 7) (.t 9), none, false, []⟩] none [1, 2, 3, 10])
  (.cond (.t 10)
    (.seq (.ops [⟨(some 11), .mov (.t 1), none, false, []⟩,
      ⟨(some 6), .mov (.t 11), none, false, []⟩] none [6])
    .ret)
    .skip))
  (.seq (.seq (.ops [⟨(some 12), .mov (.t 1), none, false, []⟩,
    ⟨(some 13), .faddr 0 (.t 3), none, false, []⟩,
    ⟨(some 14), .load 1 false (.t 13), none, false, []⟩,
    ⟨(some 15), .faddr 1 (.t 3), none, false, []⟩,
    ⟨(some 16), .load 1 false (.t 15), none, false, []⟩,
    ⟨(some 17), .bin .none .add (.t 14) (.t 16), none, false, []⟩,
    ⟨(some 18), .bin .none .geq (.t 12) (.t 17), none, false, []⟩,
    ⟨(some 19), .mov (.t 18), none, true, []⟩,
    ⟨(some 20), .faddr 1 (.t 3), (some (19, true)), false, []⟩,
    ⟨(some 21), .load 1 false (.t 20), (some (19, true)), false, []⟩,
    ⟨(some 22), .bin .none .eql (.t 21) (.c (.int .i64 0)), (some (19, true)), false, []⟩,
    ⟨(some 23), .mov (.t 22), (some (19, true)), true, []⟩,
    ⟨(some 24), .mov (.t 1), (some (23, true)), false, []⟩,
    ⟨(some 25), .faddr 0 (.t 3), (some (23, true)), false, []⟩,
    ⟨(some 26), .load 1 false (.t 25), (some (23, true)), false, []⟩,
    ⟨(some 27), .bin .none .eql (.t 24) (.t 26), (some (23, true)), false, []⟩,
    ⟨(some 28), .pick (.t 23) (.t 27) (.c (.bool false)), (some (19, true)), false, []⟩,
    ⟨(some 29), .not (.t 28), (some (19, true)), false, []⟩,
    ⟨(some 30), .pick (.t 19) (.t 29) (.c (.bool false)), none, false, []⟩] none [1, 2, 3, 30])
  (.cond (.t 30)
    (.seq (.ops [⟨(some 31), .mov (.t 1), none, false, []⟩,
      ⟨(some 32), .faddr 1 (.t 3), none, false, []⟩,
      ⟨(some 33), .load 1 false (.t 32), none, false, []⟩,
      ⟨(some 34), .bin .none .sub (.t 31) (.t 33), none, false, []⟩,
      ⟨(some 35), .faddr 2 (.t 3), none, false, []⟩,
      ⟨(some 36), .load 1 false (.t 35), none, false, []⟩,
      ⟨(some 37), .len true (.t 36), none, false, []⟩,
      ⟨(some 38), .bin .none .add (.t 34) (.t 37), none, false, []⟩,
      ⟨(some 6), .mov (.t 38), none, false, []⟩] none [6])
    .ret)
    .skip))
  (.seq (.seq (.ops [⟨(some 39), .mov (.t 2), none, false, []⟩] none [3, 39])
  (.cond (.t 39)
    (.seq (.ops [⟨(some 40), .faddr 0 (.t 3), none, false, []⟩,
      ⟨(some 41), .load 1 false (.t 40), none, false, []⟩,
      ⟨(some 42), .faddr 2 (.t 3), none, false, []⟩,
      ⟨(some 43), .load 1 false (.t 42), none, false, []⟩,
      ⟨(some 44), .len true (.t 43), none, false, []⟩,
      ⟨(some 45), .bin .none .add (.t 41) (.t 44), none, false, []⟩,
      ⟨(some 6), .mov (.t 45), none, false, []⟩] none [6])
    .ret)
    .skip))
  (.seq (.ops [⟨(some 46), .faddr 0 (.t 3), none, false, []⟩,
    ⟨(some 47), .load 1 false (.t 46), none, false, []⟩,
    ⟨(some 6), .mov (.t 47), none, false, []⟩] none [6])
  .ret)))))
def ref_editPlace_r : List RRes := [.tmp 6]
def ref_editPlace_hi : Hi := ⟨[(3, (.st (.cons (.int .i64) (.cons (.int .i64) (.cons .str .nil)))))], [(0, "e"), (1, "at"), (2, "right"), (3, "e"), (4, "at"), (5, "right")]⟩
def ref_editPlace_an : An := .d
def ref_editPlace_fi : Fi := ⟨48, ref_editPlace_c, ref_editPlace_r, ref_editPlace_an, ref_editPlace_hi, none⟩
theorem ref_editPlace_ok : FiOk Try.prog f_ref_editPlace ref_editPlace_fi :=
  ⟨fun _ => by kernel_rfl, fun _ h hlen => fun_sound (by kernel_rfl) (fn := Try.f21) (draw_sound _ _) Try.func21 rfl (by kernel_rfl : comp Try.prog 48 _ ref_editPlace_c = some ref_editPlace_c) (by kernel_rfl : cRes Try.prog Try.f21.results.toList = some ref_editPlace_r) hlen h, fun _ h => nomatch h⟩

/-- fustian/fustianref.setOf: slots [0 in, 1 in, 4 out, 5 i, 6 is] -/
def ref_setOf_c : SCode :=
  (.seq (.ops [⟨(some 2), .mov (.c .nils), none, false, []⟩,
    ⟨(some 3), .mov (.c (.int .i64 0)), none, false, []⟩] none [0])
  (.seq (.ops [⟨(some 4), .newnil 2, none, false, []⟩] none [0, 4])
  (.seq (.seq (.ops [⟨(some 7), .mov (.t 0), none, false, []⟩,
    ⟨(some 8), .len false (.t 7), none, false, []⟩,
    ⟨(some 9), .mov (.c (.int .i64 0)), none, false, []⟩] none [0, 4, 7, 8, 9])
  (.block 0 (.loop [0, 7, 8] [4, 9] 1
    (.seq (.ops [⟨(some 10), .bin .none .lss (.t 9) (.t 8), none, false, []⟩] none [0, 4, 7, 8, 9, 10])
    (.seq (.cond (.t 10)
      .skip
      (.exit 0))
    (.join [0, 7, 8, 9] [4] 1 (.block 1 (.seq (.ops [⟨(some 11), .mov (.t 9), none, false, []⟩,
        ⟨(some 12), .iaddr 1 none (.t 7) (.t 9), none, false, []⟩,
        ⟨(some 13), .load 1 false (.t 12), none, false, []⟩,
        ⟨(some 5), .mov (.t 11), none, false, []⟩,
        ⟨(some 6), .mov (.t 13), none, false, []⟩] none [0, 4, 5, 6, 7, 8, 9])
      (.seq (.seq (.ops [⟨(some 14), .mov (.t 6), none, false, []⟩,
        ⟨(some 15), .not (.t 14), none, false, []⟩] none [0, 4, 5, 7, 8, 9, 15])
      (.cond (.t 15)
        (.exit 1)
        .skip))
      (.seq (.ops [⟨(some 16), .mov (.t 5), none, false, []⟩,
        ⟨(some 17), .bin .none .gtr (.t 16) (.c (.int .i64 0)), none, false, []⟩,
        ⟨(some 18), .mov (.t 17), none, true, []⟩,
        ⟨(some 19), .mov (.t 0), (some (18, true)), false, []⟩,
        ⟨(some 20), .mov (.t 5), (some (18, true)), false, []⟩,
        ⟨(some 21), .bin .none .sub (.t 20) (.c (.int .i64 1)), (some (18, true)), false, []⟩,
        ⟨(some 22), .iaddr 1 none (.t 19) (.t 21), (some (18, true)), false, []⟩,
        ⟨(some 23), .load 1 false (.t 22), (some (18, true)), false, []⟩,
        ⟨(some 24), .pick (.t 18) (.t 23) (.c (.bool false)), none, false, []⟩] none [0, 4, 5, 7, 8, 9, 24])
      (.cond (.t 24)
        (.ops [⟨(some 25), .mov (.t 4), none, false, []⟩,
          ⟨(some 26), .mov (.t 4), none, false, []⟩,
          ⟨(some 27), .len false (.t 26), none, false, []⟩,
          ⟨(some 28), .bin .none .sub (.t 27) (.c (.int .i64 1)), none, false, []⟩,
          ⟨(some 29), .mov (.t 5), none, false, []⟩,
          ⟨(some 30), .bin .none .add (.t 29) (.c (.int .i64 1)), none, false, []⟩,
          ⟨(some 31), .iaddr 2 none (.t 25) (.t 28), none, false, []⟩,
          ⟨(some 32), .faddr 1 (.t 31), none, false, []⟩,
          ⟨none, .store 1 (.t 32) (.t 30), none, false, []⟩] none [0, 4, 7, 8, 9])
        (.ops [⟨(some 33), .mov (.t 4), none, false, []⟩,
          ⟨(some 34), .mov (.t 5), none, false, []⟩,
          ⟨(some 35), .mov (.t 5), none, false, []⟩,
          ⟨(some 36), .bin .none .add (.t 35) (.c (.int .i64 1)), none, false, []⟩,
          ⟨(some 37), .build [(.int .i64 0), (.int .i64 0)] [(0, 1, (.t 34)), (1, 1, (.t 36))], none, false, []⟩,
          ⟨(some 38), .bslice true 1 2 [(.int .i64 0), (.int .i64 0)] [(0, 2, (.t 37))], none, false, []⟩,
          ⟨(some 39), .append 2 16 (.t 33) (.t 38), none, false, []⟩,
          ⟨(some 4), .mov (.t 39), none, false, []⟩] none [0, 4, 7, 8, 9]))))))
    (.ops [⟨(some 40), .bin .none .add (.t 9) (.c (.int .i64 1)), none, false, []⟩,
      ⟨(some 9), .mov (.t 40), none, false, []⟩] none [0, 4, 7, 8, 9])))))))
  (.seq (.seq (.ops [⟨(some 41), .mov (.t 4), none, false, []⟩,
    ⟨(some 42), .len false (.t 41), none, false, []⟩,
    ⟨(some 43), .bin .none .gtr (.t 42) (.c (.int .i64 40)), none, false, []⟩] none [4, 43])
  (.cond (.t 43)
    (.seq (.ops [⟨(some 2), .mov (.c .nils), none, false, []⟩,
      ⟨(some 3), .mov (.c (.int .i64 8)), none, false, []⟩] none [2, 3])
    .ret)
    .skip))
  (.seq (.ops [⟨(some 44), .mov (.t 4), none, false, []⟩,
    ⟨(some 2), .mov (.t 44), none, false, []⟩,
    ⟨(some 3), .mov (.c (.int .i64 0)), none, false, []⟩] none [2, 3])
  .ret)))))
def ref_setOf_r : List RRes := [.tmp 2, .tmp 3]
def ref_setOf_hi : Hi := ⟨[(4, (.st (.cons (.int .i64) (.cons (.int .i64) .nil)))), (38, (.st (.cons (.int .i64) (.cons (.int .i64) .nil)))), (39, (.st (.cons (.int .i64) (.cons (.int .i64) .nil))))], [(0, "in"), (1, "in"), (4, "out"), (5, "i"), (6, "is")]⟩
def ref_setOf_an : An := (.seq .d (.seq .d (.seq (.seq .d (.loop [4] [] [] .d)) .d)))
def ref_setOf_fi : Fi := ⟨45, ref_setOf_c, ref_setOf_r, ref_setOf_an, ref_setOf_hi, none⟩
theorem ref_setOf_ok : FiOk Try.prog f_ref_setOf ref_setOf_fi :=
  ⟨fun _ => by kernel_rfl, fun _ h hlen => fun_sound (by kernel_rfl) (fn := Try.f15) (draw_sound _ _) Try.func15 rfl (by kernel_rfl : comp Try.prog 45 _ ref_setOf_c = some ref_setOf_c) (by kernel_rfl : cRes Try.prog Try.f15.results.toList = some ref_setOf_r) hlen h, fun _ h => nomatch h⟩

/-- fustian/fustianref.SpansShift: slots [0 size, 1 l, 2 e, 3 size, 4 l, 5 e, 8 f, 9 out, 10 i, 11 is, 12 i] -/
def ref_SpansShift_c : SCode :=
  (.seq (.ops [⟨(some 5), .box 0 (.t 2), none, false, []⟩,
    ⟨(some 6), .mov (.c .nils), none, false, []⟩,
    ⟨(some 7), .mov (.c (.int .i64 0)), none, false, []⟩] none [0, 1, 5])
  (.seq (.seq (.ops [⟨(some 13), .mov (.t 0), none, false, []⟩,
    ⟨(some 14), .mov (.t 1), none, false, []⟩,
    ⟨(some 15), .call f_ref_SpansMay [(.t 13), (.t 14)], none, false, []⟩,
    ⟨(some 16), .not (.t 15), none, false, []⟩] none [0, 1, 5, 16])
  (.cond (.t 16)
    (.seq (.ops [⟨(some 6), .mov (.c .nils), none, false, []⟩,
      ⟨(some 7), .mov (.c (.int .i64 4)), none, false, []⟩] none [6, 7])
    .ret)
    .skip))
  (.seq (.seq (.ops [⟨(some 17), .mov (.t 0), none, false, []⟩,
    ⟨(some 18), .load 3 true (.t 5), none, false, []⟩,
    ⟨(some 19), .call f_ref_EditFault [(.t 17), (.t 18)], none, false, []⟩,
    ⟨(some 8), .mov (.t 19), none, false, []⟩] none [0, 1, 5, 8])
  (.seq (.ops [⟨(some 20), .mov (.t 8), none, false, []⟩,
    ⟨(some 21), .bin .none .neq (.t 20) (.c (.int .i64 0)), none, false, []⟩] none [0, 1, 5, 8, 21])
  (.cond (.t 21)
    (.seq (.ops [⟨(some 22), .mov (.t 8), none, false, []⟩,
      ⟨(some 6), .mov (.c .nils), none, false, []⟩,
      ⟨(some 7), .mov (.t 22), none, false, []⟩] none [6, 7])
    .ret)
    .skip)))
  (.seq (.ops [⟨(some 23), .mov (.t 0), none, false, []⟩,
    ⟨(some 24), .faddr 2 (.t 5), none, false, []⟩,
    ⟨(some 25), .load 1 false (.t 24), none, false, []⟩,
    ⟨(some 26), .len true (.t 25), none, false, []⟩,
    ⟨(some 27), .bin .none .add (.t 23) (.t 26), none, false, []⟩,
    ⟨(some 28), .faddr 1 (.t 5), none, false, []⟩,
    ⟨(some 29), .load 1 false (.t 28), none, false, []⟩,
    ⟨(some 30), .bin .none .sub (.t 27) (.t 29), none, false, []⟩,
    ⟨(some 31), .mkslice 1 1 [(.bool false)] (.t 30) (.t 30), none, false, []⟩,
    ⟨(some 9), .mov (.t 31), none, false, []⟩] none [0, 1, 5, 9])
  (.seq (.seq (.ops [⟨(some 32), .mov (.t 0), none, false, []⟩,
    ⟨(some 33), .mov (.t 1), none, false, []⟩,
    ⟨(some 34), .call f_ref_inSet [(.t 32), (.t 33)], none, false, []⟩,
    ⟨(some 35), .len false (.t 34), none, false, []⟩,
    ⟨(some 36), .mov (.c (.int .i64 0)), none, false, []⟩] none [5, 9, 34, 35, 36])
  (.block 0 (.loop [5, 9, 34, 35] [36] 2
    (.seq (.ops [⟨(some 37), .bin .none .lss (.t 36) (.t 35), none, false, []⟩] none [5, 9, 34, 35, 36, 37])
    (.seq (.cond (.t 37)
      .skip
      (.exit 0))
    (.join [5, 9, 34, 35, 36] [] 2 (.block 1 (.seq (.ops [⟨(some 38), .mov (.t 36), none, false, []⟩,
        ⟨(some 39), .iaddr 1 none (.t 34) (.t 36), none, false, []⟩,
        ⟨(some 40), .load 1 false (.t 39), none, false, []⟩,
        ⟨(some 10), .mov (.t 38), none, false, []⟩,
        ⟨(some 11), .mov (.t 40), none, false, []⟩] none [5, 9, 10, 11, 34, 35, 36])
      (.seq (.ops [⟨(some 41), .mov (.t 11), none, false, []⟩,
        ⟨(some 42), .mov (.t 41), none, true, []⟩,
        ⟨(some 43), .mov (.t 10), (some (42, true)), false, []⟩,
        ⟨(some 44), .faddr 0 (.t 5), (some (42, true)), false, []⟩,
        ⟨(some 45), .load 1 false (.t 44), (some (42, true)), false, []⟩,
        ⟨(some 46), .bin .none .lss (.t 43) (.t 45), (some (42, true)), false, []⟩,
        ⟨(some 47), .mov (.t 46), (some (42, true)), true, []⟩,
        ⟨(some 48), .mov (.t 10), (some (47, false)), false, []⟩,
        ⟨(some 49), .faddr 0 (.t 5), (some (47, false)), false, []⟩,
        ⟨(some 50), .load 1 false (.t 49), (some (47, false)), false, []⟩,
        ⟨(some 51), .faddr 1 (.t 5), (some (47, false)), false, []⟩,
        ⟨(some 52), .load 1 false (.t 51), (some (47, false)), false, []⟩,
        ⟨(some 53), .bin .none .add (.t 50) (.t 52), (some (47, false)), false, []⟩,
        ⟨(some 54), .bin .none .geq (.t 48) (.t 53), (some (47, false)), false, []⟩,
        ⟨(some 55), .pick (.t 47) (.c (.bool true)) (.t 54), (some (42, true)), false, []⟩,
        ⟨(some 56), .pick (.t 42) (.t 55) (.c (.bool false)), none, false, []⟩] none [5, 9, 10, 34, 35, 36, 56])
      (.cond (.t 56)
        (.ops [⟨(some 57), .mov (.t 9), none, false, []⟩,
          ⟨(some 58), .load 3 true (.t 5), none, false, []⟩,
          ⟨(some 59), .mov (.t 10), none, false, []⟩,
          ⟨(some 60), .call f_ref_editPlace [(.t 58), (.t 59), (.c (.bool true))], none, false, []⟩,
          ⟨(some 61), .iaddr 1 none (.t 57) (.t 60), none, false, []⟩,
          ⟨none, .store 1 (.t 61) (.c (.bool true)), none, false, []⟩] none [5, 9, 34, 35, 36])
        .skip))))
    (.ops [⟨(some 62), .bin .none .add (.t 36) (.c (.int .i64 1)), none, false, []⟩,
      ⟨(some 36), .mov (.t 62), none, false, []⟩] none [5, 9, 34, 35, 36])))))))
  (.seq (.seq (.ops [⟨(some 63), .faddr 2 (.t 5), none, false, []⟩,
    ⟨(some 64), .load 1 false (.t 63), none, false, []⟩,
    ⟨(some 65), .len true (.t 64), none, false, []⟩,
    ⟨(some 66), .mov (.c (.int .i64 0)), none, false, []⟩] none [5, 9, 65, 66])
  (.block 2 (.loop [5, 9, 65] [66] 2
    (.seq (.ops [⟨(some 67), .bin .none .lss (.t 66) (.t 65), none, false, []⟩] none [5, 9, 65, 66, 67])
    (.seq (.cond (.t 67)
      .skip
      (.exit 2))
    (.seq (.block 3 (.seq (.ops [⟨(some 68), .mov (.t 66), none, false, []⟩,
      ⟨(some 12), .mov (.t 68), none, false, []⟩] none [5, 9, 12, 65, 66])
    (.ops [⟨(some 69), .mov (.t 9), none, false, []⟩,
      ⟨(some 70), .faddr 0 (.t 5), none, false, []⟩,
      ⟨(some 71), .load 1 false (.t 70), none, false, []⟩,
      ⟨(some 72), .mov (.t 12), none, false, []⟩,
      ⟨(some 73), .bin .none .add (.t 71) (.t 72), none, false, []⟩,
      ⟨(some 74), .iaddr 1 none (.t 69) (.t 73), none, false, []⟩,
      ⟨none, .store 1 (.t 74) (.c (.bool true)), none, false, []⟩] none [5, 9, 65, 66])))
    (.ops [⟨(some 75), .bin .none .add (.t 66) (.c (.int .i64 1)), none, false, []⟩,
      ⟨(some 66), .mov (.t 75), none, false, []⟩] none [5, 9, 65, 66])))))))
  (.seq (.ops [⟨(some 76), .mov (.t 9), none, false, []⟩,
    ⟨(some 77), .call f_ref_setOf [(.t 76)], none, false, []⟩,
    ⟨(some 78), .extract (.t 77) 0, none, false, []⟩,
    ⟨(some 79), .extract (.t 77) 1, none, false, []⟩,
    ⟨(some 6), .mov (.t 78), none, false, []⟩,
    ⟨(some 7), .mov (.t 79), none, false, []⟩] none [6, 7])
  .ret)))))))
def ref_SpansShift_r : List RRes := [.tmp 6, .tmp 7]
def ref_SpansShift_hi : Hi := ⟨[(31, .bool), (5, (.st (.cons (.int .i64) (.cons (.int .i64) (.cons .str .nil)))))], [(0, "size"), (1, "l"), (2, "e"), (3, "size"), (4, "l"), (5, "e"), (8, "f"), (9, "out"), (10, "i"), (11, "is"), (12, "i")]⟩
def ref_SpansShift_an : An := (.seq .d (.seq .d (.seq .d (.seq .d (.seq (.seq .d (.loop [9] [] [] .d)) (.seq (.seq .d (.loop [9] [] [] .d)) .d))))))
def ref_SpansShift_fi : Fi := ⟨80, ref_SpansShift_c, ref_SpansShift_r, ref_SpansShift_an, ref_SpansShift_hi, none⟩
theorem ref_SpansShift_ok : FiOk Try.prog f_ref_SpansShift ref_SpansShift_fi :=
  ⟨fun _ => by kernel_rfl, fun _ h hlen => fun_sound (by kernel_rfl) (fn := Try.f9) (draw_sound _ _) Try.func9 rfl (by kernel_rfl : comp Try.prog 80 _ ref_SpansShift_c = some ref_SpansShift_c) (by kernel_rfl : cRes Try.prog Try.f9.results.toList = some ref_SpansShift_r) hlen h, fun _ h => nomatch h⟩

/-- fustian/fustianlaw.sameSpans: slots [0 a, 1 b, 2 a, 3 b, 5 i] -/
def law_sameSpans_c : SCode :=
  (.seq (.ops [⟨(some 4), .mov (.c (.bool false)), none, false, []⟩] none [0, 1])
  (.seq (.seq (.ops [⟨(some 6), .mov (.t 0), none, false, []⟩,
    ⟨(some 7), .len false (.t 6), none, false, []⟩,
    ⟨(some 8), .mov (.t 1), none, false, []⟩,
    ⟨(some 9), .len false (.t 8), none, false, []⟩,
    ⟨(some 10), .bin .none .neq (.t 7) (.t 9), none, false, []⟩] none [0, 1, 10])
  (.cond (.t 10)
    (.seq (.ops [⟨(some 4), .mov (.c (.bool false)), none, false, []⟩] none [4])
    .ret)
    .skip))
  (.seq (.seq (.ops [⟨(some 5), .mov (.c (.int .i64 0)), none, false, []⟩] none [0, 1, 5])
  (.block 0 (.loop [0, 1] [5] 0
    (.seq (.seq (.ops [⟨(some 11), .mov (.t 5), none, false, []⟩,
      ⟨(some 12), .mov (.t 0), none, false, []⟩,
      ⟨(some 13), .len false (.t 12), none, false, []⟩,
      ⟨(some 14), .bin .none .lss (.t 11) (.t 13), none, false, []⟩] none [0, 1, 5, 14])
    (.cond (.t 14)
      .skip
      (.exit 0)))
    (.seq (.block 1 (.seq (.ops [⟨(some 17), .mov (.t 0), none, false, []⟩,
      ⟨(some 18), .mov (.t 5), none, false, []⟩,
      ⟨(some 19), .iaddr 2 none (.t 17) (.t 18), none, false, []⟩,
      ⟨(some 20), .load 2 true (.t 19), none, false, []⟩,
      ⟨(some 21), .mov (.t 1), none, false, []⟩,
      ⟨(some 22), .mov (.t 5), none, false, []⟩,
      ⟨(some 23), .iaddr 2 none (.t 21) (.t 22), none, false, []⟩,
      ⟨(some 24), .load 2 true (.t 23), none, false, []⟩,
      ⟨(some 25), .bin (.agg [.int, .int]) .neq (.t 20) (.t 24), none, false, []⟩] (some (0, 0, [0, 1, 2, 3, 4, 5, 6, 7, 8])) [0, 1, 5, 25])
    (.cond (.t 25)
      (.seq (.ops [⟨(some 4), .mov (.c (.bool false)), none, false, []⟩] none [4])
      .ret)
      .skip)))
    (.ops [⟨(some 15), .mov (.t 5), none, false, []⟩,
      ⟨(some 16), .bin .none .add (.t 15) (.c (.int .i64 1)), none, false, []⟩,
      ⟨(some 5), .mov (.t 16), none, false, []⟩] none [0, 1, 5]))))))
  (.seq (.ops [⟨(some 4), .mov (.c (.bool true)), none, false, []⟩] none [4])
  .ret))))
def law_sameSpans_r : List RRes := [.tmp 4]
def law_sameSpans_hi : Hi := ⟨[], [(0, "a"), (1, "b"), (2, "a"), (3, "b"), (5, "i")]⟩
def law_sameSpans_an : An := (.seq .d (.seq .d (.seq (.seq .d (.loop [] [] [] .d)) .d)))
def law_sameSpans_fi : Fi := ⟨26, law_sameSpans_c, law_sameSpans_r, law_sameSpans_an, law_sameSpans_hi, none⟩
theorem law_sameSpans_ok : FiOk Try.prog f_law_sameSpans law_sameSpans_fi :=
  ⟨fun _ => by kernel_rfl, fun _ h hlen => fun_sound (by kernel_rfl) (fn := Try.f7) (draw_sound _ _) Try.func7 rfl (by kernel_rfl : comp Try.prog 26 _ law_sameSpans_c = some law_sameSpans_c) (by kernel_rfl : cRes Try.prog Try.f7.results.toList = some law_sameSpans_r) hlen h, fun _ h => nomatch h⟩

/-- fustian/fustianlaw.SpansShifts: slots [0 size, 1 l, 2 e, 3 size, 4 l, 5 e, 7 x, 8 f, 9 y, 10 g] -/
def law_SpansShifts_c : SCode :=
  (.seq (.ops [⟨(some 5), .box 0 (.t 2), none, false, []⟩,
    ⟨(some 6), .mov (.c (.bool false)), none, false, []⟩] none [0, 1, 5])
  (.seq (.ops [⟨(some 12), .mov (.t 0), none, false, []⟩,
    ⟨(some 13), .mov (.t 1), none, false, []⟩,
    ⟨(some 14), .load 3 true (.t 5), none, false, []⟩,
    ⟨(some 15), .call f_spans_Shift [(.t 12), (.t 13), (.t 14)], none, false, []⟩,
    ⟨(some 11), .mov (.t 15), none, false, []⟩,
    ⟨(some 16), .extract (.t 11) 0, none, false, []⟩,
    ⟨(some 17), .extract (.t 11) 1, none, false, []⟩,
    ⟨(some 7), .mov (.t 16), none, false, []⟩,
    ⟨(some 8), .mov (.t 17), none, false, []⟩] none [0, 1, 5, 7, 8])
  (.seq (.ops [⟨(some 19), .mov (.t 0), none, false, []⟩,
    ⟨(some 20), .mov (.t 1), none, false, []⟩,
    ⟨(some 21), .load 3 true (.t 5), none, false, []⟩,
    ⟨(some 22), .call f_ref_SpansShift [(.t 19), (.t 20), (.t 21)], none, false, []⟩,
    ⟨(some 18), .mov (.t 22), none, false, []⟩,
    ⟨(some 23), .extract (.t 18) 0, none, false, []⟩,
    ⟨(some 24), .extract (.t 18) 1, none, false, []⟩,
    ⟨(some 9), .mov (.t 23), none, false, []⟩,
    ⟨(some 10), .mov (.t 24), none, false, []⟩] none [7, 8, 9, 10])
  (.seq (.ops [⟨(some 25), .mov (.t 7), none, false, []⟩,
    ⟨(some 26), .mov (.t 9), none, false, []⟩,
    ⟨(some 27), .call f_law_sameSpans [(.t 25), (.t 26)], none, false, []⟩,
    ⟨(some 28), .mov (.t 27), none, true, []⟩,
    ⟨(some 29), .mov (.t 8), (some (28, true)), false, []⟩,
    ⟨(some 30), .mov (.t 10), (some (28, true)), false, []⟩,
    ⟨(some 31), .bin .none .eql (.t 29) (.t 30), (some (28, true)), false, []⟩,
    ⟨(some 32), .pick (.t 28) (.t 31) (.c (.bool false)), none, false, []⟩,
    ⟨(some 6), .mov (.t 32), none, false, []⟩] none [6])
  .ret))))
def law_SpansShifts_r : List RRes := [.tmp 6]
def law_SpansShifts_hi : Hi := ⟨[(5, (.st (.cons (.int .i64) (.cons (.int .i64) (.cons .str .nil)))))], [(0, "size"), (1, "l"), (2, "e"), (3, "size"), (4, "l"), (5, "e"), (7, "x"), (8, "f"), (9, "y"), (10, "g")]⟩
def law_SpansShifts_an : An := .d
def law_SpansShifts_fi : Fi := ⟨33, law_SpansShifts_c, law_SpansShifts_r, law_SpansShifts_an, law_SpansShifts_hi, none⟩
theorem law_SpansShifts_ok : FiOk Try.prog f_law_SpansShifts law_SpansShifts_fi :=
  ⟨fun _ => by kernel_rfl, fun _ h hlen => fun_sound (by kernel_rfl) (fn := Try.f4) (draw_sound _ _) Try.func4 rfl (by kernel_rfl : comp Try.prog 33 _ law_SpansShifts_c = some law_SpansShifts_c) (by kernel_rfl : cRes Try.prog Try.f4.results.toList = some law_SpansShifts_r) hlen h, fun _ h => nomatch h⟩

/-- slices.DeleteFunc[[]fustian/api.Span,fustian/api.Span]: slots [0 s, 1 del, 2 s, 3 del, 5 i, 6 j, 7 v] -/
def slices_DeleteFunc___api_Span_api_Span__c : SCode :=
  (.seq (.ops [⟨(some 4), .mov (.c .nils), none, false, []⟩] none [0, 1])
  (.seq (.ops [⟨(some 8), .mov (.t 0), none, false, []⟩,
    ⟨(some 9), .mov (.t 1), none, false, []⟩,
    ⟨(some 10), .call f_slices_IndexFunc___api_Span_api_Span_ [(.t 8), (.t 9)], none, false, []⟩,
    ⟨(some 5), .mov (.t 10), none, false, []⟩] none [0, 1, 5])
  (.seq (.seq (.ops [⟨(some 11), .mov (.t 5), none, false, []⟩,
    ⟨(some 12), .bin .none .eql (.t 11) (.c (.int .i64 (-1))), none, false, []⟩] none [0, 1, 5, 12])
  (.cond (.t 12)
    (.seq (.ops [⟨(some 13), .mov (.t 0), none, false, []⟩,
      ⟨(some 4), .mov (.t 13), none, false, []⟩] none [4])
    .ret)
    .skip))
  (.seq (.seq (.ops [⟨(some 14), .mov (.t 5), none, false, []⟩,
    ⟨(some 15), .bin .none .add (.t 14) (.c (.int .i64 1)), none, false, []⟩,
    ⟨(some 6), .mov (.t 15), none, false, []⟩] none [0, 1, 5, 6])
  (.block 0 (.loop [0, 1] [5, 6] 0
    (.seq (.seq (.ops [⟨(some 16), .mov (.t 6), none, false, []⟩,
      ⟨(some 17), .mov (.t 0), none, false, []⟩,
      ⟨(some 18), .len false (.t 17), none, false, []⟩,
      ⟨(some 19), .bin .none .lss (.t 16) (.t 18), none, false, []⟩] none [0, 1, 5, 6, 19])
    (.cond (.t 19)
      .skip
      (.exit 0)))
    (.join [0, 1, 6] [5] 1 (.block 1 (.seq (.ops [⟨(some 22), .mov (.t 0), none, false, []⟩,
        ⟨(some 23), .mov (.t 6), none, false, []⟩,
        ⟨(some 24), .iaddr 2 none (.t 22) (.t 23), none, false, []⟩,
        ⟨(some 25), .load 2 true (.t 24), none, false, []⟩,
        ⟨(some 7), .alloc 0 [(.int .i64 0), (.int .i64 0)], none, false, []⟩,
        ⟨none, .store 2 (.t 7) (.t 25), none, false, []⟩] none [0, 1, 5, 6, 7])
      (.seq (.ops [⟨(some 26), .mov (.t 1), none, false, []⟩,
        ⟨(some 27), .load 2 true (.t 7), none, false, []⟩,
        ⟨(some 28), .callv (.t 26) [(.t 27)], none, false, []⟩,
        ⟨(some 29), .not (.t 28), none, false, []⟩] none [0, 1, 5, 6, 7, 29])
      (.cond (.t 29)
        (.seq (.ops [⟨(some 30), .mov (.t 0), none, false, []⟩,
          ⟨(some 31), .mov (.t 5), none, false, []⟩,
          ⟨(some 32), .load 2 true (.t 7), none, false, []⟩,
          ⟨(some 33), .iaddr 2 none (.t 30) (.t 31), none, false, []⟩,
          ⟨none, .store 2 (.t 33) (.t 32), none, false, []⟩] none [0, 1, 5, 6])
        (.ops [⟨(some 34), .mov (.t 5), none, false, []⟩,
          ⟨(some 35), .bin .none .add (.t 34) (.c (.int .i64 1)), none, false, []⟩,
          ⟨(some 5), .mov (.t 35), none, false, []⟩] none [0, 1, 5, 6]))
        .skip))))
    (.ops [⟨(some 20), .mov (.t 6), none, false, []⟩,
      ⟨(some 21), .bin .none .add (.t 20) (.c (.int .i64 1)), none, false, []⟩,
      ⟨(some 6), .mov (.t 21), none, false, []⟩] none [0, 1, 5, 6]))))))
  (.seq (.ops [⟨(some 36), .mov (.t 0), none, false, []⟩,
    ⟨(some 37), .mov (.t 5), none, false, []⟩,
    ⟨(some 38), .slice 2 (.t 36) (some (.t 37)) none, none, false, []⟩,
    ⟨none, .clear 2 [(.int .i64 0), (.int .i64 0)] (.t 38), none, false, []⟩] none [0, 5])
  (.seq (.ops [⟨(some 39), .mov (.t 0), none, false, []⟩,
    ⟨(some 40), .mov (.t 5), none, false, []⟩,
    ⟨(some 41), .slice 2 (.t 39) none (some (.t 40)), none, false, []⟩,
    ⟨(some 4), .mov (.t 41), none, false, []⟩] none [4])
  .ret))))))
def slices_DeleteFunc___api_Span_api_Span__r : List RRes := [.tmp 4]
def slices_DeleteFunc___api_Span_api_Span__hi : Hi := ⟨[(7, (.st (.cons (.int .i64) (.cons (.int .i64) .nil))))], [(0, "s"), (1, "del"), (2, "s"), (3, "del"), (5, "i"), (6, "j"), (7, "v")]⟩
def slices_DeleteFunc___api_Span_api_Span__an : An := (.seq .d (.seq .d (.seq .d (.seq (.seq .d (.loop [1, 0] [] [] .d)) .d))))
def slices_DeleteFunc___api_Span_api_Span__fi : Fi := ⟨42, slices_DeleteFunc___api_Span_api_Span__c, slices_DeleteFunc___api_Span_api_Span__r, slices_DeleteFunc___api_Span_api_Span__an, slices_DeleteFunc___api_Span_api_Span__hi, none⟩
theorem slices_DeleteFunc___api_Span_api_Span__ok : FiOk Try.prog f_slices_DeleteFunc___api_Span_api_Span_ slices_DeleteFunc___api_Span_api_Span__fi :=
  ⟨fun _ => by kernel_rfl, fun _ h hlen => fun_sound (by kernel_rfl) (fn := Try.f30) (draw_sound _ _) Try.func30 rfl (by kernel_rfl : comp Try.prog 42 _ slices_DeleteFunc___api_Span_api_Span__c = some slices_DeleteFunc___api_Span_api_Span__c) (by kernel_rfl : cRes Try.prog Try.f30.results.toList = some slices_DeleteFunc___api_Span_api_Span__r) hlen h, fun _ h => nomatch h⟩

/-- slices.IndexFunc[[]fustian/api.Span,fustian/api.Span]: slots [0 s, 1 f, 2 s, 3 f, 5 i] -/
def slices_IndexFunc___api_Span_api_Span__c : SCode :=
  (.seq (.ops [⟨(some 4), .mov (.c (.int .i64 0)), none, false, []⟩] none [0, 1])
  (.seq (.seq (.ops [⟨(some 6), .mov (.t 0), none, false, []⟩,
    ⟨(some 7), .len false (.t 6), none, false, []⟩,
    ⟨(some 8), .mov (.c (.int .i64 0)), none, false, []⟩] none [0, 1, 7, 8])
  (.block 0 (.loop [0, 1, 7] [8] 0
    (.seq (.ops [⟨(some 9), .bin .none .lss (.t 8) (.t 7), none, false, []⟩] none [0, 1, 7, 8, 9])
    (.seq (.cond (.t 9)
      .skip
      (.exit 0))
    (.seq (.block 1 (.seq (.ops [⟨(some 10), .mov (.t 8), none, false, []⟩,
      ⟨(some 5), .mov (.t 10), none, false, []⟩] none [0, 1, 5, 7, 8])
    (.seq (.ops [⟨(some 11), .mov (.t 1), none, false, []⟩,
      ⟨(some 12), .mov (.t 0), none, false, []⟩,
      ⟨(some 13), .mov (.t 5), none, false, []⟩,
      ⟨(some 14), .iaddr 2 none (.t 12) (.t 13), none, false, []⟩,
      ⟨(some 15), .load 2 true (.t 14), none, false, []⟩,
      ⟨(some 16), .callv (.t 11) [(.t 15)], none, false, []⟩] none [0, 1, 5, 7, 8, 16])
    (.cond (.t 16)
      (.seq (.ops [⟨(some 17), .mov (.t 5), none, false, []⟩,
        ⟨(some 4), .mov (.t 17), none, false, []⟩] none [4])
      .ret)
      .skip))))
    (.ops [⟨(some 18), .bin .none .add (.t 8) (.c (.int .i64 1)), none, false, []⟩,
      ⟨(some 8), .mov (.t 18), none, false, []⟩] none [0, 1, 7, 8])))))))
  (.seq (.ops [⟨(some 4), .mov (.c (.int .i64 (-1))), none, false, []⟩] none [4])
  .ret)))
def slices_IndexFunc___api_Span_api_Span__r : List RRes := [.tmp 4]
def slices_IndexFunc___api_Span_api_Span__hi : Hi := ⟨[], [(0, "s"), (1, "f"), (2, "s"), (3, "f"), (5, "i")]⟩
def slices_IndexFunc___api_Span_api_Span__an : An := (.seq .d (.seq (.seq .d (.loop [1] [] [] .d)) .d))
def slices_IndexFunc___api_Span_api_Span__fi : Fi := ⟨19, slices_IndexFunc___api_Span_api_Span__c, slices_IndexFunc___api_Span_api_Span__r, slices_IndexFunc___api_Span_api_Span__an, slices_IndexFunc___api_Span_api_Span__hi, none⟩
theorem slices_IndexFunc___api_Span_api_Span__ok : FiOk Try.prog f_slices_IndexFunc___api_Span_api_Span_ slices_IndexFunc___api_Span_api_Span__fi :=
  ⟨fun _ => by kernel_rfl, fun _ h hlen => fun_sound (by kernel_rfl) (fn := Try.f33) (draw_sound _ _) Try.func33 rfl (by kernel_rfl : comp Try.prog 19 _ slices_IndexFunc___api_Span_api_Span__c = some slices_IndexFunc___api_Span_api_Span__c) (by kernel_rfl : cRes Try.prog Try.f33.results.toList = some slices_IndexFunc___api_Span_api_Span__r) hlen h, fun _ h => nomatch h⟩

/-- fustian/spans.Without$1: slots [0 x, 1 x] -/
def spans_Without_1_c : SCode :=
  (.seq (.ops [⟨(some 1), .box 0 (.t 0), none, false, []⟩,
    ⟨(some 2), .mov (.c (.bool false)), none, false, []⟩] none [1])
  (.seq (.ops [⟨(some 3), .faddr 0 (.t 1), none, false, []⟩,
    ⟨(some 4), .load 1 false (.t 3), none, false, []⟩,
    ⟨(some 5), .faddr 1 (.t 1), none, false, []⟩,
    ⟨(some 6), .load 1 false (.t 5), none, false, []⟩,
    ⟨(some 7), .bin .none .geq (.t 4) (.t 6), none, false, []⟩,
    ⟨(some 2), .mov (.t 7), none, false, []⟩] none [2])
  .ret))
def spans_Without_1_r : List RRes := [.tmp 2]
def spans_Without_1_hi : Hi := ⟨[(1, (.st (.cons (.int .i64) (.cons (.int .i64) .nil))))], [(0, "x"), (1, "x")]⟩
def spans_Without_1_an : An := .d
def spans_Without_1_fi : Fi := ⟨8, spans_Without_1_c, spans_Without_1_r, spans_Without_1_an, spans_Without_1_hi, none⟩
theorem spans_Without_1_ok : FiOk Try.prog f_spans_Without_1 spans_Without_1_fi :=
  ⟨fun _ => by kernel_rfl, fun _ h hlen => fun_sound (by kernel_rfl) (fn := Try.f31) (draw_sound _ _) Try.func31 rfl (by kernel_rfl : comp Try.prog 8 _ spans_Without_1_c = some spans_Without_1_c) (by kernel_rfl : cRes Try.prog Try.f31.results.toList = some spans_Without_1_r) hlen h, fun _ h => nomatch h⟩

/-- fustian/spans.full: slots [0 l, 1 l] -/
def spans_full_c : SCode :=
  (.seq (.ops [⟨(some 2), .mov (.c .nils), none, false, []⟩,
    ⟨(some 3), .mov (.c (.int .i64 0)), none, false, []⟩] none [0])
  (.seq (.seq (.ops [⟨(some 4), .mov (.t 0), none, false, []⟩,
    ⟨(some 5), .len false (.t 4), none, false, []⟩,
    ⟨(some 6), .bin .none .gtr (.t 5) (.c (.int .i64 40)), none, false, []⟩] none [0, 6])
  (.cond (.t 6)
    (.seq (.ops [⟨(some 2), .mov (.c .nils), none, false, []⟩,
      ⟨(some 3), .mov (.c (.int .i64 8)), none, false, []⟩] none [2, 3])
    .ret)
    .skip))
  (.seq (.ops [⟨(some 7), .mov (.t 0), none, false, []⟩,
    ⟨(some 2), .mov (.t 7), none, false, []⟩,
    ⟨(some 3), .mov (.c (.int .i64 0)), none, false, []⟩] none [2, 3])
  .ret)))
def spans_full_r : List RRes := [.tmp 2, .tmp 3]
def spans_full_hi : Hi := ⟨[], [(0, "l"), (1, "l")]⟩
def spans_full_an : An := .d
def spans_full_fi : Fi := ⟨8, spans_full_c, spans_full_r, spans_full_an, spans_full_hi, none⟩
theorem spans_full_ok : FiOk Try.prog f_spans_full spans_full_fi :=
  ⟨fun _ => by kernel_rfl, fun _ h hlen => fun_sound (by kernel_rfl) (fn := Try.f11) (draw_sound _ _) Try.func11 rfl (by kernel_rfl : comp Try.prog 8 _ spans_full_c = some spans_full_c) (by kernel_rfl : cRes Try.prog Try.f11.results.toList = some spans_full_r) hlen h, fun _ h => nomatch h⟩

end Go.Proofs.Ytogjhebilbbdjaa
