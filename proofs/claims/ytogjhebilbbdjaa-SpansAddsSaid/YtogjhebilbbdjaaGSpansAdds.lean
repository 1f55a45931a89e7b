/- The functions' simplified code, printed by a program of the claim's author; each is checked against the program's own code. Conditions: none. -/
import Derived.Test.YtogjhebilbbdjaaProg
import Derived.Test.YtogjhebilbbdjaaVyM
set_option linter.unusedVariables false
set_option maxRecDepth 100000
namespace Go.Proofs.Ytogjhebilbbdjaa
open Go.Vc
abbrev f_gosem_cut_init : Nat := 2
abbrev f_law_SpansAdds : Nat := 3
abbrev f_law_SpansShifts : Nat := 4
abbrev f_spans_Add : Nat := 5
abbrev f_ref_SpansSet : Nat := 6
abbrev f_law_sameSpans : Nat := 7
abbrev f_spans_Shift : Nat := 8
abbrev f_ref_SpansShift : Nat := 9
abbrev f_spans_fault : Nat := 10
abbrev f_spans_full : Nat := 11
abbrev f_spans_With : Nat := 12
abbrev f_ref_spansFault : Nat := 13
abbrev f_ref_inSet : Nat := 14
abbrev f_ref_setOf : Nat := 15
abbrev f_spans_May : Nat := 16
abbrev f_edit_Check : Nat := 17
abbrev f_spans_Shifted : Nat := 18
abbrev f_ref_SpansMay : Nat := 19
abbrev f_ref_EditFault : Nat := 20
abbrev f_ref_editPlace : Nat := 21
abbrev f_slices_BinarySearchFunc___api_Span_api_Span_int_ : Nat := 22
abbrev f_spans_With_1 : Nat := 23
abbrev f_spans_Joined : Nat := 24
abbrev f_slices_Insert___api_Span_api_Span_ : Nat := 25
abbrev f_slices_Clone___api_Span_api_Span_ : Nat := 26
abbrev f_spans_Without : Nat := 27
abbrev f_slices_rotateRight_api_Span_ : Nat := 29
abbrev f_slices_DeleteFunc___api_Span_api_Span_ : Nat := 30
abbrev f_spans_Without_1 : Nat := 31
abbrev f_slices_rotateLeft_api_Span_ : Nat := 32
abbrev f_slices_IndexFunc___api_Span_api_Span_ : Nat := 33
abbrev f_slices_Reverse___api_Span_api_Span_ : Nat := 34

/-- fustian/spans.May: slots [0 size, 1 l, 2 size, 3 l, 5 last, 6 _, 7 s] -/
def spans_May_c : SCode :=
  (.seq (.ops [⟨(some 4), .mov (.c (.bool false)), none, false, []⟩] none [0, 1])
  (.seq (.seq (.ops [⟨(some 8), .mov (.t 0), none, false, []⟩,
    ⟨(some 9), .bin .none .lss (.t 8) (.c (.int .i64 0)), none, false, []⟩,
    ⟨(some 10), .mov (.t 9), none, true, []⟩,
    ⟨(some 11), .mov (.t 0), (some (10, false)), false, []⟩,
    ⟨(some 12), .bin .none .gtr (.t 11) (.c (.int .i64 600)), (some (10, false)), false, []⟩,
    ⟨(some 13), .pick (.t 10) (.c (.bool true)) (.t 12), none, false, []⟩,
    ⟨(some 14), .mov (.t 13), none, true, []⟩,
    ⟨(some 15), .mov (.t 1), (some (14, false)), false, []⟩,
    ⟨(some 16), .len false (.t 15), (some (14, false)), false, []⟩,
    ⟨(some 17), .bin .none .gtr (.t 16) (.c (.int .i64 40)), (some (14, false)), false, []⟩,
    ⟨(some 18), .pick (.t 14) (.c (.bool true)) (.t 17), none, false, []⟩] none [0, 1, 18])
  (.cond (.t 18)
    (.seq (.ops [⟨(some 4), .mov (.c (.bool false)), none, false, []⟩] none [4])
    .ret)
    .skip))
  (.seq (.ops [⟨(some 5), .mov (.c (.int .i64 (-1))), none, false, []⟩] none [0, 1, 5])
  (.seq (.seq (.ops [⟨(some 19), .mov (.t 1), none, false, []⟩,
    ⟨(some 20), .len false (.t 19), none, false, []⟩,
    ⟨(some 21), .mov (.c (.int .i64 0)), none, false, []⟩] none [0, 5, 19, 20, 21])
  (.block 0 (.loop [0, 19, 20] [5, 21] 0
    (.seq (.ops [⟨(some 22), .bin .none .lss (.t 21) (.t 20), none, false, []⟩] none [0, 5, 19, 20, 21, 22])
    (.seq (.cond (.t 22)
      .skip
      (.exit 0))
    (.seq (.block 1 (.seq (.ops [⟨(some 23), .iaddr 2 none (.t 19) (.t 21), none, false, []⟩,
      ⟨(some 24), .load 2 true (.t 23), none, false, []⟩,
      ⟨(some 7), .alloc 0 [(.int .i64 0), (.int .i64 0)], none, false, []⟩,
      ⟨none, .store 2 (.t 7) (.t 24), none, false, []⟩] none [0, 5, 7, 19, 20, 21])
    (.seq (.seq (.ops [⟨(some 25), .faddr 0 (.t 7), none, false, []⟩,
      ⟨(some 26), .load 1 false (.t 25), none, false, []⟩,
      ⟨(some 27), .mov (.t 5), none, false, []⟩,
      ⟨(some 28), .bin .none .leq (.t 26) (.t 27), none, false, []⟩,
      ⟨(some 29), .mov (.t 28), none, true, []⟩,
      ⟨(some 30), .faddr 0 (.t 7), (some (29, false)), false, []⟩,
      ⟨(some 31), .load 1 false (.t 30), (some (29, false)), false, []⟩,
      ⟨(some 32), .faddr 1 (.t 7), (some (29, false)), false, []⟩,
      ⟨(some 33), .load 1 false (.t 32), (some (29, false)), false, []⟩,
      ⟨(some 34), .bin .none .geq (.t 31) (.t 33), (some (29, false)), false, []⟩,
      ⟨(some 35), .pick (.t 29) (.c (.bool true)) (.t 34), none, false, []⟩,
      ⟨(some 36), .mov (.t 35), none, true, []⟩,
      ⟨(some 37), .faddr 1 (.t 7), (some (36, false)), false, []⟩,
      ⟨(some 38), .load 1 false (.t 37), (some (36, false)), false, []⟩,
      ⟨(some 39), .mov (.t 0), (some (36, false)), false, []⟩,
      ⟨(some 40), .bin .none .gtr (.t 38) (.t 39), (some (36, false)), false, []⟩,
      ⟨(some 41), .pick (.t 36) (.c (.bool true)) (.t 40), none, false, []⟩] none [0, 7, 19, 20, 21, 41])
    (.cond (.t 41)
      (.seq (.ops [⟨(some 4), .mov (.c (.bool false)), none, false, []⟩] none [4])
      .ret)
      .skip))
    (.ops [⟨(some 42), .faddr 1 (.t 7), none, false, []⟩,
      ⟨(some 43), .load 1 false (.t 42), none, false, []⟩,
      ⟨(some 5), .mov (.t 43), none, false, []⟩] none [0, 5, 19, 20, 21]))))
    (.ops [⟨(some 44), .bin .none .add (.t 21) (.c (.int .i64 1)), none, false, []⟩,
      ⟨(some 21), .mov (.t 44), none, false, []⟩] none [0, 5, 19, 20, 21])))))))
  (.seq (.ops [⟨(some 4), .mov (.c (.bool true)), none, false, []⟩] none [4])
  .ret)))))
def spans_May_r : List RRes := [.tmp 4]
def spans_May_hi : Hi := ⟨[(7, (.st (.cons (.int .i64) (.cons (.int .i64) .nil))))], [(0, "size"), (1, "l"), (2, "size"), (3, "l"), (5, "last"), (7, "s")]⟩
def spans_May_an : An := (.seq .d (.seq .d (.seq .d (.seq (.seq .d (.loop [] [] [] .d)) .d))))
def spans_May_fi : Fi := ⟨45, spans_May_c, spans_May_r, spans_May_an, spans_May_hi, none⟩
theorem spans_May_ok : FiOk Try.prog f_spans_May spans_May_fi :=
  ⟨fun _ => by kernel_rfl, fun _ h hlen => fun_sound (by kernel_rfl) (fn := Try.f16) (draw_sound _ _) Try.func16 rfl (by kernel_rfl : comp Try.prog 45 _ spans_May_c = some spans_May_c) (by kernel_rfl : cRes Try.prog Try.f16.results.toList = some spans_May_r) hlen h, fun _ h => nomatch h⟩

/-- fustian/spans.fault: slots [0 size, 1 l, 2 s, 3 size, 4 l, 5 s] -/
def spans_fault_c : SCode :=
  (.seq (.ops [⟨(some 5), .box 0 (.t 2), none, false, []⟩,
    ⟨(some 6), .mov (.c (.int .i64 0)), none, false, []⟩] none [0, 1, 5])
  (.seq (.block 0 (.seq (.ops [⟨(some 8), .mov (.t 0), none, false, []⟩,
    ⟨(some 9), .mov (.t 1), none, false, []⟩,
    ⟨(some 10), .call f_spans_May [(.t 8), (.t 9)], none, false, []⟩,
    ⟨(some 11), .not (.t 10), none, false, []⟩,
    ⟨(some 7), .mov (.t 11), none, false, []⟩] none [0, 5, 7])
  (.cond (.t 7)
    (.seq (.ops [⟨(some 6), .mov (.c (.int .i64 4)), none, false, []⟩] none [6])
    .ret)
    (.seq (.ops [⟨(some 13), .faddr 0 (.t 5), none, false, []⟩,
      ⟨(some 14), .load 1 false (.t 13), none, false, []⟩,
      ⟨(some 15), .bin .none .lss (.t 14) (.c (.int .i64 0)), none, false, []⟩,
      ⟨(some 16), .mov (.t 15), none, true, []⟩,
      ⟨(some 17), .faddr 0 (.t 5), (some (16, false)), false, []⟩,
      ⟨(some 18), .load 1 false (.t 17), (some (16, false)), false, []⟩,
      ⟨(some 19), .faddr 1 (.t 5), (some (16, false)), false, []⟩,
      ⟨(some 20), .load 1 false (.t 19), (some (16, false)), false, []⟩,
      ⟨(some 21), .bin .none .gtr (.t 18) (.t 20), (some (16, false)), false, []⟩,
      ⟨(some 22), .pick (.t 16) (.c (.bool true)) (.t 21), none, false, []⟩,
      ⟨(some 23), .mov (.t 22), none, true, []⟩,
      ⟨(some 24), .faddr 1 (.t 5), (some (23, false)), false, []⟩,
      ⟨(some 25), .load 1 false (.t 24), (some (23, false)), false, []⟩,
      ⟨(some 26), .mov (.t 0), (some (23, false)), false, []⟩,
      ⟨(some 27), .bin .none .gtr (.t 25) (.t 26), (some (23, false)), false, []⟩,
      ⟨(some 28), .pick (.t 23) (.c (.bool true)) (.t 27), none, false, []⟩,
      ⟨(some 12), .mov (.t 28), none, false, []⟩] none [12])
    (.cond (.t 12)
      (.seq (.ops [⟨(some 6), .mov (.c (.int .i64 2)), none, false, []⟩] none [6])
      .ret)
      .skip)))))
  (.seq (.ops [⟨(some 6), .mov (.c (.int .i64 0)), none, false, []⟩] none [6])
  .ret)))
def spans_fault_r : List RRes := [.tmp 6]
def spans_fault_hi : Hi := ⟨[(5, (.st (.cons (.int .i64) (.cons (.int .i64) .nil))))], [(0, "size"), (1, "l"), (2, "s"), (3, "size"), (4, "l"), (5, "s")]⟩
def spans_fault_an : An := .d
def spans_fault_fi : Fi := ⟨29, spans_fault_c, spans_fault_r, spans_fault_an, spans_fault_hi, none⟩
theorem spans_fault_ok : FiOk Try.prog f_spans_fault spans_fault_fi :=
  ⟨fun _ => by kernel_rfl, fun _ h hlen => fun_sound (by kernel_rfl) (fn := Try.f10) (draw_sound _ _) Try.func10 rfl (by kernel_rfl : comp Try.prog 29 _ spans_fault_c = some spans_fault_c) (by kernel_rfl : cRes Try.prog Try.f10.results.toList = some spans_fault_r) hlen h, fun _ h => nomatch h⟩

/-- fustian/spans.Joined: slots [0 l, 1 l, 3 out, 4 _, 5 s, 6 n] -/
def spans_Joined_c : SCode :=
  (.seq (.ops [⟨(some 2), .mov (.c .nils), none, false, []⟩] none [0])
  (.seq (.ops [⟨(some 3), .newnil 2, none, false, []⟩] none [0, 3])
  (.seq (.seq (.ops [⟨(some 7), .mov (.t 0), none, false, []⟩,
    ⟨(some 8), .len false (.t 7), none, false, []⟩,
    ⟨(some 9), .mov (.c (.int .i64 0)), none, false, []⟩] none [3, 7, 8, 9])
  (.block 0 (.loop [7, 8] [3, 9] 1
    (.seq (.ops [⟨(some 10), .bin .none .lss (.t 9) (.t 8), none, false, []⟩] none [3, 7, 8, 9, 10])
    (.seq (.cond (.t 10)
      .skip
      (.exit 0))
    (.join [7, 8, 9] [3] 2 (.block 1 (.seq (.ops [⟨(some 11), .iaddr 2 none (.t 7) (.t 9), none, false, []⟩,
        ⟨(some 12), .load 2 true (.t 11), none, false, []⟩,
        ⟨(some 5), .alloc 0 [(.int .i64 0), (.int .i64 0)], none, false, []⟩,
        ⟨none, .store 2 (.t 5) (.t 12), none, false, []⟩] none [3, 5, 7, 8, 9])
      (.seq (.ops [⟨(some 13), .mov (.t 3), none, false, []⟩,
        ⟨(some 14), .len false (.t 13), none, false, []⟩,
        ⟨(some 6), .mov (.t 14), none, false, []⟩] none [3, 5, 6, 7, 8, 9])
      (.block 2 (.seq (.ops [⟨(some 20), .faddr 0 (.t 5), none, false, []⟩,
        ⟨(some 21), .load 1 false (.t 20), none, false, []⟩,
        ⟨(some 22), .faddr 1 (.t 5), none, false, []⟩,
        ⟨(some 23), .load 1 false (.t 22), none, false, []⟩,
        ⟨(some 24), .bin .none .eql (.t 21) (.t 23), none, false, []⟩,
        ⟨(some 19), .mov (.t 24), none, false, []⟩] none [3, 5, 6, 7, 8, 9, 19])
      (.cond (.t 19)
        .skip
        (.seq (.ops [⟨(some 26), .mov (.t 6), none, false, []⟩,
          ⟨(some 27), .bin .none .gtr (.t 26) (.c (.int .i64 0)), none, false, []⟩,
          ⟨(some 28), .mov (.t 27), none, true, []⟩,
          ⟨(some 29), .mov (.t 3), (some (28, true)), false, []⟩,
          ⟨(some 30), .mov (.t 6), (some (28, true)), false, []⟩,
          ⟨(some 31), .bin .none .sub (.t 30) (.c (.int .i64 1)), (some (28, true)), false, []⟩,
          ⟨(some 32), .iaddr 2 none (.t 29) (.t 31), (some (28, true)), false, []⟩,
          ⟨(some 33), .faddr 1 (.t 32), (some (28, true)), false, []⟩,
          ⟨(some 34), .load 1 false (.t 33), (some (28, true)), false, []⟩,
          ⟨(some 35), .faddr 0 (.t 5), (some (28, true)), false, []⟩,
          ⟨(some 36), .load 1 false (.t 35), (some (28, true)), false, []⟩,
          ⟨(some 37), .bin .none .geq (.t 34) (.t 36), (some (28, true)), false, []⟩,
          ⟨(some 38), .pick (.t 28) (.t 37) (.c (.bool false)), none, false, []⟩,
          ⟨(some 25), .mov (.t 38), none, false, []⟩] (some (0, 0, [0, 1, 2, 3, 4, 5, 6, 7, 8, 9, 10, 11, 12, 13])) [3, 5, 6, 7, 8, 9, 25])
        (.cond (.t 25)
          (.ops [⟨(some 39), .mov (.t 3), none, false, []⟩,
            ⟨(some 40), .mov (.t 6), none, false, []⟩,
            ⟨(some 41), .bin .none .sub (.t 40) (.c (.int .i64 1)), none, false, []⟩,
            ⟨(some 42), .mov (.t 3), none, false, []⟩,
            ⟨(some 43), .mov (.t 6), none, false, []⟩,
            ⟨(some 44), .bin .none .sub (.t 43) (.c (.int .i64 1)), none, false, []⟩,
            ⟨(some 45), .iaddr 2 none (.t 42) (.t 44), none, false, []⟩,
            ⟨(some 46), .faddr 1 (.t 45), none, false, []⟩,
            ⟨(some 47), .load 1 false (.t 46), none, false, []⟩,
            ⟨(some 48), .faddr 1 (.t 5), none, false, []⟩,
            ⟨(some 49), .load 1 false (.t 48), none, false, []⟩,
            ⟨(some 50), .max [(.t 47), (.t 49)], none, false, []⟩,
            ⟨(some 51), .iaddr 2 none (.t 39) (.t 41), none, false, []⟩,
            ⟨(some 52), .faddr 1 (.t 51), none, false, []⟩,
            ⟨none, .store 1 (.t 52) (.t 50), none, false, []⟩] (some (0, 0, [0, 1, 2, 3, 4, 5, 6, 7, 8, 9, 10, 11, 12, 13, 14])) [3, 7, 8, 9])
          (.ops [⟨(some 15), .mov (.t 3), none, false, []⟩,
            ⟨(some 16), .load 2 true (.t 5), none, false, []⟩,
            ⟨(some 17), .bslice true 1 2 [(.int .i64 0), (.int .i64 0)] [(0, 2, (.t 16))], none, false, []⟩,
            ⟨(some 18), .append 2 16 (.t 15) (.t 17), none, false, []⟩,
            ⟨(some 3), .mov (.t 18), none, false, []⟩] none [3, 7, 8, 9])))))))))
    (.ops [⟨(some 53), .bin .none .add (.t 9) (.c (.int .i64 1)), none, false, []⟩,
      ⟨(some 9), .mov (.t 53), none, false, []⟩] none [3, 7, 8, 9])))))))
  (.seq (.ops [⟨(some 54), .mov (.t 3), none, false, []⟩,
    ⟨(some 2), .mov (.t 54), none, false, []⟩] none [2])
  .ret))))
def spans_Joined_r : List RRes := [.tmp 2]
def spans_Joined_hi : Hi := ⟨[(3, (.st (.cons (.int .i64) (.cons (.int .i64) .nil)))), (17, (.st (.cons (.int .i64) (.cons (.int .i64) .nil)))), (18, (.st (.cons (.int .i64) (.cons (.int .i64) .nil)))), (5, (.st (.cons (.int .i64) (.cons (.int .i64) .nil))))], [(0, "l"), (1, "l"), (3, "out"), (5, "s"), (6, "n")]⟩
def spans_Joined_an : An := (.seq .d (.seq .d (.seq (.seq .d (.loop [3] [] [] .d)) .d)))
def spans_Joined_fi : Fi := ⟨55, spans_Joined_c, spans_Joined_r, spans_Joined_an, spans_Joined_hi, none⟩
theorem spans_Joined_ok : FiOk Try.prog f_spans_Joined spans_Joined_fi :=
  ⟨fun _ => by kernel_rfl, fun _ h hlen => fun_sound (by kernel_rfl) (fn := Try.f24) (draw_sound _ _) Try.func24 rfl (by kernel_rfl : comp Try.prog 55 _ spans_Joined_c = some spans_Joined_c) (by kernel_rfl : cRes Try.prog Try.f24.results.toList = some spans_Joined_r) hlen h, fun _ h => nomatch h⟩

/-- fustian/spans.With: slots [0 l, 1 s, 2 l, 3 s, 5 i, 6 _] -/
def spans_With_c : SCode :=
  (.seq (.ops [⟨(some 3), .box 0 (.t 1), none, false, []⟩,
    ⟨(some 4), .mov (.c .nils), none, false, []⟩] none [0, 3])
  (.seq (.ops [⟨(some 8), .mov (.t 0), none, false, []⟩,
    ⟨(some 9), .faddr 0 (.t 3), none, false, []⟩,
    ⟨(some 10), .load 1 false (.t 9), none, false, []⟩,
    ⟨(some 11), .call f_slices_BinarySearchFunc___api_Span_api_Span_int_ [(.t 8), (.t 10), (.c (.fn (.func f_spans_With_1) [] []))], none, false, []⟩,
    ⟨(some 7), .mov (.t 11), none, false, []⟩,
    ⟨(some 12), .extract (.t 7) 0, none, false, []⟩,
    ⟨(some 13), .extract (.t 7) 1, none, false, []⟩,
    ⟨(some 5), .mov (.t 12), none, false, []⟩,
    ⟨(some 6), .mov (.t 13), none, false, []⟩] none [0, 3, 5])
  (.seq (.ops [⟨(some 14), .mov (.t 0), none, false, []⟩,
    ⟨(some 16), .mov (.t 5), none, false, []⟩,
    ⟨(some 17), .load 2 true (.t 3), none, false, []⟩,
    ⟨(some 18), .bslice true 1 2 [(.int .i64 0), (.int .i64 0)] [(0, 2, (.t 17))], none, false, []⟩,
    ⟨(some 15), .call f_slices_Clone___api_Span_api_Span_ [(.t 14)], none, false, [(17, 2, true, (.t 3))]⟩,
    ⟨none, .again 17 2 true (.t 3), none, false, []⟩,
    ⟨(some 19), .call f_slices_Insert___api_Span_api_Span_ [(.t 15), (.t 16), (.t 18)], none, false, []⟩,
    ⟨(some 20), .call f_spans_Joined [(.t 19)], none, false, []⟩,
    ⟨(some 4), .mov (.t 20), none, false, []⟩] (some (0, 0, [0, 2, 3, 4, 1, 5, 6, 7])) [4])
  .ret)))
def spans_With_r : List RRes := [.tmp 4]
def spans_With_hi : Hi := ⟨[(18, (.st (.cons (.int .i64) (.cons (.int .i64) .nil)))), (3, (.st (.cons (.int .i64) (.cons (.int .i64) .nil))))], [(0, "l"), (1, "s"), (2, "l"), (3, "s"), (5, "i")]⟩
def spans_With_an : An := .d
def spans_With_fi : Fi := ⟨21, spans_With_c, spans_With_r, spans_With_an, spans_With_hi, none⟩
theorem spans_With_ok : FiOk Try.prog f_spans_With spans_With_fi :=
  ⟨fun _ => by kernel_rfl, fun _ h hlen => fun_sound (by kernel_rfl) (fn := Try.f12) (draw_sound _ _) Try.func12 rfl (by kernel_rfl : comp Try.prog 21 _ spans_With_c = some spans_With_c) (by kernel_rfl : cRes Try.prog Try.f12.results.toList = some spans_With_r) hlen h, fun _ h => nomatch h⟩

/-- fustian/spans.Add: slots [0 size, 1 l, 2 s, 3 size, 4 l, 5 s, 8 e] -/
def spans_Add_c : SCode :=
  (.seq (.ops [⟨(some 5), .box 0 (.t 2), none, false, []⟩,
    ⟨(some 6), .mov (.c .nils), none, false, []⟩,
    ⟨(some 7), .mov (.c (.int .i64 0)), none, false, []⟩] none [0, 1, 5])
  (.seq (.seq (.ops [⟨(some 9), .mov (.t 0), none, false, []⟩,
    ⟨(some 10), .mov (.t 1), none, false, []⟩,
    ⟨(some 11), .load 2 true (.t 5), none, false, []⟩,
    ⟨(some 12), .call f_spans_fault [(.t 9), (.t 10), (.t 11)], none, false, []⟩,
    ⟨(some 8), .mov (.t 12), none, false, []⟩] none [1, 5, 8])
  (.seq (.ops [⟨(some 13), .mov (.t 8), none, false, []⟩,
    ⟨(some 14), .bin .none .neq (.t 13) (.c (.int .i64 0)), none, false, []⟩] none [1, 5, 8, 14])
  (.cond (.t 14)
    (.seq (.ops [⟨(some 15), .mov (.t 8), none, false, []⟩,
      ⟨(some 6), .mov (.c .nils), none, false, []⟩,
      ⟨(some 7), .mov (.t 15), none, false, []⟩] none [6, 7])
    .ret)
    .skip)))
  (.seq (.ops [⟨(some 16), .mov (.t 1), none, false, []⟩,
    ⟨(some 17), .load 2 true (.t 5), none, false, []⟩,
    ⟨(some 18), .call f_spans_With [(.t 16), (.t 17)], none, false, []⟩,
    ⟨(some 19), .call f_spans_full [(.t 18)], none, false, []⟩,
    ⟨(some 20), .extract (.t 19) 0, none, false, []⟩,
    ⟨(some 21), .extract (.t 19) 1, none, false, []⟩,
    ⟨(some 6), .mov (.t 20), none, false, []⟩,
    ⟨(some 7), .mov (.t 21), none, false, []⟩] none [6, 7])
  .ret)))
def spans_Add_r : List RRes := [.tmp 6, .tmp 7]
def spans_Add_hi : Hi := ⟨[(5, (.st (.cons (.int .i64) (.cons (.int .i64) .nil))))], [(0, "size"), (1, "l"), (2, "s"), (3, "size"), (4, "l"), (5, "s"), (8, "e")]⟩
def spans_Add_an : An := .d
def spans_Add_fi : Fi := ⟨22, spans_Add_c, spans_Add_r, spans_Add_an, spans_Add_hi, none⟩
theorem spans_Add_ok : FiOk Try.prog f_spans_Add spans_Add_fi :=
  ⟨fun _ => by kernel_rfl, fun _ h hlen => fun_sound (by kernel_rfl) (fn := Try.f5) (draw_sound _ _) Try.func5 rfl (by kernel_rfl : comp Try.prog 22 _ spans_Add_c = some spans_Add_c) (by kernel_rfl : cRes Try.prog Try.f5.results.toList = some spans_Add_r) hlen h, fun _ h => nomatch h⟩

/-- fustian/fustianref.SpansMay: slots [0 size, 1 l, 2 size, 3 l, 5 i, 6 s] -/
def ref_SpansMay_c : SCode :=
  (.seq (.ops [⟨(some 4), .mov (.c (.bool false)), none, false, []⟩] none [0, 1])
  (.seq (.seq (.ops [⟨(some 7), .mov (.t 0), none, false, []⟩,
    ⟨(some 8), .bin .none .lss (.t 7) (.c (.int .i64 0)), none, false, []⟩,
    ⟨(some 9), .mov (.t 8), none, true, []⟩,
    ⟨(some 10), .mov (.t 0), (some (9, false)), false, []⟩,
    ⟨(some 11), .bin .none .gtr (.t 10) (.c (.int .i64 600)), (some (9, false)), false, []⟩,
    ⟨(some 12), .pick (.t 9) (.c (.bool true)) (.t 11), none, false, []⟩,
    ⟨(some 13), .mov (.t 12), none, true, []⟩,
    ⟨(some 14), .mov (.t 1), (some (13, false)), false, []⟩,
    ⟨(some 15), .len false (.t 14), (some (13, false)), false, []⟩,
    ⟨(some 16), .bin .none .gtr (.t 15) (.c (.int .i64 40)), (some (13, false)), false, []⟩,
    ⟨(some 17), .pick (.t 13) (.c (.bool true)) (.t 16), none, false, []⟩] none [0, 1, 17])
  (.cond (.t 17)
    (.seq (.ops [⟨(some 4), .mov (.c (.bool false)), none, false, []⟩] none [4])
    .ret)
    .skip))
  (.seq (.seq (.ops [⟨(some 18), .mov (.t 1), none, false, []⟩,
    ⟨(some 19), .len false (.t 18), none, false, []⟩,
    ⟨(some 20), .mov (.c (.int .i64 0)), none, false, []⟩] none [0, 1, 18, 19, 20])
  (.block 0 (.loop [0, 1, 18, 19] [20] 0
    (.seq (.ops [⟨(some 21), .bin .none .lss (.t 20) (.t 19), none, false, []⟩] none [0, 1, 18, 19, 20, 21])
    (.seq (.cond (.t 21)
      .skip
      (.exit 0))
    (.seq (.block 1 (.seq (.ops [⟨(some 22), .mov (.t 20), none, false, []⟩,
      ⟨(some 23), .iaddr 2 none (.t 18) (.t 20), none, false, []⟩,
      ⟨(some 24), .load 2 true (.t 23), none, false, []⟩,
      ⟨(some 6), .alloc 0 [(.int .i64 0), (.int .i64 0)], none, false, []⟩,
      ⟨(some 5), .mov (.t 22), none, false, []⟩,
      ⟨none, .store 2 (.t 6) (.t 24), none, false, []⟩] none [0, 1, 5, 6, 18, 19, 20])
    (.seq (.ops [⟨(some 25), .faddr 0 (.t 6), none, false, []⟩,
      ⟨(some 26), .load 1 false (.t 25), none, false, []⟩,
      ⟨(some 27), .bin .none .lss (.t 26) (.c (.int .i64 0)), none, false, []⟩,
      ⟨(some 28), .mov (.t 27), none, true, []⟩,
      ⟨(some 29), .faddr 1 (.t 6), (some (28, false)), false, []⟩,
      ⟨(some 30), .load 1 false (.t 29), (some (28, false)), false, []⟩,
      ⟨(some 31), .faddr 0 (.t 6), (some (28, false)), false, []⟩,
      ⟨(some 32), .load 1 false (.t 31), (some (28, false)), false, []⟩,
      ⟨(some 33), .bin .none .leq (.t 30) (.t 32), (some (28, false)), false, []⟩,
      ⟨(some 34), .pick (.t 28) (.c (.bool true)) (.t 33), none, false, []⟩,
      ⟨(some 35), .mov (.t 34), none, true, []⟩,
      ⟨(some 36), .faddr 1 (.t 6), (some (35, false)), false, []⟩,
      ⟨(some 37), .load 1 false (.t 36), (some (35, false)), false, []⟩,
      ⟨(some 38), .mov (.t 0), (some (35, false)), false, []⟩,
      ⟨(some 39), .bin .none .gtr (.t 37) (.t 38), (some (35, false)), false, []⟩,
      ⟨(some 40), .pick (.t 35) (.c (.bool true)) (.t 39), none, false, []⟩,
      ⟨(some 41), .mov (.t 40), none, true, []⟩,
      ⟨(some 42), .mov (.t 5), (some (41, false)), false, []⟩,
      ⟨(some 43), .bin .none .gtr (.t 42) (.c (.int .i64 0)), (some (41, false)), false, []⟩,
      ⟨(some 44), .mov (.t 43), (some (41, false)), true, []⟩,
      ⟨(some 45), .mov (.t 1), (some (44, true)), false, []⟩,
      ⟨(some 46), .mov (.t 5), (some (44, true)), false, []⟩,
      ⟨(some 47), .bin .none .sub (.t 46) (.c (.int .i64 1)), (some (44, true)), false, []⟩,
      ⟨(some 48), .iaddr 2 none (.t 45) (.t 47), (some (44, true)), false, []⟩,
      ⟨(some 49), .faddr 1 (.t 48), (some (44, true)), false, []⟩,
      ⟨(some 50), .load 1 false (.t 49), (some (44, true)), false, []⟩,
      ⟨(some 51), .faddr 0 (.t 6), (some (44, true)), false, []⟩,
      ⟨(some 52), .load 1 false (.t 51), (some (44, true)), false, []⟩,
      ⟨(some 53), .bin .none .geq (.t 50) (.t 52), (some (44, true)), false, []⟩,
      ⟨(some 54), .pick (.t 44) (.t 53) (.c (.bool false)), (some (41, false)), false, []⟩,
      ⟨(some 55), .pick (.t 41) (.c (.bool true)) (.t 54), none, false, []⟩] (some (0, 0, [0, 1, 2, 3, 4, 5, 6, 7, 8, 9, 10, 11, 12, 13, 14, 15, 16, 17, 18, 19, 20, 21, 22, 23, 24, 25, 26, 27, 28, 29, 30])) [0, 1, 18, 19, 20, 55])
    (.cond (.t 55)
      (.seq (.ops [⟨(some 4), .mov (.c (.bool false)), none, false, []⟩] none [4])
      .ret)
      .skip))))
    (.ops [⟨(some 56), .bin .none .add (.t 20) (.c (.int .i64 1)), none, false, []⟩,
      ⟨(some 20), .mov (.t 56), none, false, []⟩] none [0, 1, 18, 19, 20])))))))
  (.seq (.ops [⟨(some 4), .mov (.c (.bool true)), none, false, []⟩] none [4])
  .ret))))
def ref_SpansMay_r : List RRes := [.tmp 4]
def ref_SpansMay_hi : Hi := ⟨[(6, (.st (.cons (.int .i64) (.cons (.int .i64) .nil))))], [(0, "size"), (1, "l"), (2, "size"), (3, "l"), (5, "i"), (6, "s")]⟩
def ref_SpansMay_an : An := (.seq .d (.seq .d (.seq (.seq .d (.loop [] [] [] .d)) .d)))
def ref_SpansMay_fi : Fi := ⟨57, ref_SpansMay_c, ref_SpansMay_r, ref_SpansMay_an, ref_SpansMay_hi, none⟩
theorem ref_SpansMay_ok : FiOk Try.prog f_ref_SpansMay ref_SpansMay_fi :=
  ⟨fun _ => by kernel_rfl, fun _ h hlen => fun_sound (by kernel_rfl) (fn := Try.f19) (draw_sound _ _) Try.func19 rfl (by kernel_rfl : comp Try.prog 57 _ ref_SpansMay_c = some ref_SpansMay_c) (by kernel_rfl : cRes Try.prog Try.f19.results.toList = some ref_SpansMay_r) hlen h, fun _ h => nomatch h⟩

/-- fustian/fustianref.spansFault: slots [0 size, 1 l, 2 s, 3 size, 4 l, 5 s] -/
def ref_spansFault_c : SCode :=
  (.seq (.ops [⟨(some 5), .box 0 (.t 2), none, false, []⟩,
    ⟨(some 6), .mov (.c (.int .i64 0)), none, false, []⟩] none [0, 1, 5])
  (.seq (.seq (.ops [⟨(some 7), .mov (.t 0), none, false, []⟩,
    ⟨(some 8), .mov (.t 1), none, false, []⟩,
    ⟨(some 9), .call f_ref_SpansMay [(.t 7), (.t 8)], none, false, []⟩,
    ⟨(some 10), .not (.t 9), none, false, []⟩] none [0, 5, 10])
  (.cond (.t 10)
    (.seq (.ops [⟨(some 6), .mov (.c (.int .i64 4)), none, false, []⟩] none [6])
    .ret)
    .skip))
  (.seq (.seq (.ops [⟨(some 11), .faddr 0 (.t 5), none, false, []⟩,
    ⟨(some 12), .load 1 false (.t 11), none, false, []⟩,
    ⟨(some 13), .bin .none .lss (.t 12) (.c (.int .i64 0)), none, false, []⟩,
    ⟨(some 14), .mov (.t 13), none, true, []⟩,
    ⟨(some 15), .faddr 1 (.t 5), (some (14, false)), false, []⟩,
    ⟨(some 16), .load 1 false (.t 15), (some (14, false)), false, []⟩,
    ⟨(some 17), .faddr 0 (.t 5), (some (14, false)), false, []⟩,
    ⟨(some 18), .load 1 false (.t 17), (some (14, false)), false, []⟩,
    ⟨(some 19), .bin .none .lss (.t 16) (.t 18), (some (14, false)), false, []⟩,
    ⟨(some 20), .pick (.t 14) (.c (.bool true)) (.t 19), none, false, []⟩,
    ⟨(some 21), .mov (.t 20), none, true, []⟩,
    ⟨(some 22), .faddr 1 (.t 5), (some (21, false)), false, []⟩,
    ⟨(some 23), .load 1 false (.t 22), (some (21, false)), false, []⟩,
    ⟨(some 24), .mov (.t 0), (some (21, false)), false, []⟩,
    ⟨(some 25), .bin .none .gtr (.t 23) (.t 24), (some (21, false)), false, []⟩,
    ⟨(some 26), .pick (.t 21) (.c (.bool true)) (.t 25), none, false, []⟩] none [26])
  (.cond (.t 26)
    (.seq (.ops [⟨(some 6), .mov (.c (.int .i64 2)), none, false, []⟩] none [6])
    .ret)
    .skip))
  (.seq (.ops [⟨(some 6), .mov (.c (.int .i64 0)), none, false, []⟩] none [6])
  .ret))))
def ref_spansFault_r : List RRes := [.tmp 6]
def ref_spansFault_hi : Hi := ⟨[(5, (.st (.cons (.int .i64) (.cons (.int .i64) .nil))))], [(0, "size"), (1, "l"), (2, "s"), (3, "size"), (4, "l"), (5, "s")]⟩
def ref_spansFault_an : An := .d
def ref_spansFault_fi : Fi := ⟨27, ref_spansFault_c, ref_spansFault_r, ref_spansFault_an, ref_spansFault_hi, none⟩
theorem ref_spansFault_ok : FiOk Try.prog f_ref_spansFault ref_spansFault_fi :=
  ⟨fun _ => by kernel_rfl, fun _ h hlen => fun_sound (by kernel_rfl) (fn := Try.f13) (draw_sound _ _) Try.func13 rfl (by kernel_rfl : comp Try.prog 27 _ ref_spansFault_c = some ref_spansFault_c) (by kernel_rfl : cRes Try.prog Try.f13.results.toList = some ref_spansFault_r) hlen h, fun _ h => nomatch h⟩

/-- fustian/fustianref.inSet: slots [0 size, 1 l, 2 size, 3 l, 5 out, 6 _, 7 s, 8 i] -/
def ref_inSet_c : SCode :=
  (.seq (.ops [⟨(some 4), .mov (.c .nils), none, false, []⟩] none [0, 1])
  (.seq (.ops [⟨(some 9), .mov (.t 0), none, false, []⟩,
    ⟨(some 10), .mkslice 1 1 [(.bool false)] (.t 9) (.t 9), none, false, []⟩,
    ⟨(some 5), .mov (.t 10), none, false, []⟩] none [1, 5])
  (.seq (.seq (.ops [⟨(some 11), .mov (.t 1), none, false, []⟩,
    ⟨(some 12), .len false (.t 11), none, false, []⟩,
    ⟨(some 13), .mov (.c (.int .i64 0)), none, false, []⟩] none [5, 11, 12, 13])
  (.block 0 (.loop [5, 11, 12] [13] 1
    (.seq (.ops [⟨(some 14), .bin .none .lss (.t 13) (.t 12), none, false, []⟩] none [5, 11, 12, 13, 14])
    (.seq (.cond (.t 14)
      .skip
      (.exit 0))
    (.seq (.block 1 (.seq (.ops [⟨(some 15), .iaddr 2 none (.t 11) (.t 13), none, false, []⟩,
      ⟨(some 16), .load 2 true (.t 15), none, false, []⟩,
      ⟨(some 7), .alloc 0 [(.int .i64 0), (.int .i64 0)], none, false, []⟩,
      ⟨none, .store 2 (.t 7) (.t 16), none, false, []⟩] none [5, 7, 11, 12, 13])
    (.seq (.ops [⟨(some 17), .faddr 0 (.t 7), none, false, []⟩,
      ⟨(some 18), .load 1 false (.t 17), none, false, []⟩,
      ⟨(some 8), .mov (.t 18), none, false, []⟩] none [5, 7, 8, 11, 12, 13])
    (.block 2 (.loop [5, 7, 11, 12, 13] [8] 2
      (.seq (.seq (.ops [⟨(some 19), .mov (.t 8), none, false, []⟩,
        ⟨(some 20), .faddr 1 (.t 7), none, false, []⟩,
        ⟨(some 21), .load 1 false (.t 20), none, false, []⟩,
        ⟨(some 22), .bin .none .lss (.t 19) (.t 21), none, false, []⟩] none [5, 7, 8, 11, 12, 13, 22])
      (.cond (.t 22)
        .skip
        (.exit 2)))
      (.seq (.block 3 (.ops [⟨(some 25), .mov (.t 5), none, false, []⟩,
        ⟨(some 26), .mov (.t 8), none, false, []⟩,
        ⟨(some 27), .iaddr 1 none (.t 25) (.t 26), none, false, []⟩,
        ⟨none, .store 1 (.t 27) (.c (.bool true)), none, false, []⟩] none [5, 7, 8, 11, 12, 13]))
      (.ops [⟨(some 23), .mov (.t 8), none, false, []⟩,
        ⟨(some 24), .bin .none .add (.t 23) (.c (.int .i64 1)), none, false, []⟩,
        ⟨(some 8), .mov (.t 24), none, false, []⟩] none [5, 7, 8, 11, 12, 13]))))))))
    (.ops [⟨(some 28), .bin .none .add (.t 13) (.c (.int .i64 1)), none, false, []⟩,
      ⟨(some 13), .mov (.t 28), none, false, []⟩] none [5, 11, 12, 13])))))))
  (.seq (.ops [⟨(some 29), .mov (.t 5), none, false, []⟩,
    ⟨(some 4), .mov (.t 29), none, false, []⟩] none [4])
  .ret))))
def ref_inSet_r : List RRes := [.tmp 4]
def ref_inSet_hi : Hi := ⟨[(10, .bool), (7, (.st (.cons (.int .i64) (.cons (.int .i64) .nil))))], [(0, "size"), (1, "l"), (2, "size"), (3, "l"), (5, "out"), (7, "s"), (8, "i")]⟩
def ref_inSet_an : An := (.seq .d (.seq .d (.seq (.seq .d (.loop [5] [] [] (.seq .d (.seq .d (.seq (.seq .d (.seq .d (.loop [5] [] [] .d))) .d))))) .d)))
def ref_inSet_fi : Fi := ⟨30, ref_inSet_c, ref_inSet_r, ref_inSet_an, ref_inSet_hi, none⟩
theorem ref_inSet_ok : FiOk Try.prog f_ref_inSet ref_inSet_fi :=
  ⟨fun _ => by kernel_rfl, fun _ h hlen => fun_sound (by kernel_rfl) (fn := Try.f14) (draw_sound _ _) Try.func14 rfl (by kernel_rfl : comp Try.prog 30 _ ref_inSet_c = some ref_inSet_c) (by kernel_rfl : cRes Try.prog Try.f14.results.toList = some ref_inSet_r) hlen h, fun _ h => nomatch h⟩

/-- fustian/fustianref.setOf: slots [0 in, 1 in, 4 out, 5 i, 6 is] -/
def ref_setOf_c : SCode :=
  (.seq (.ops [⟨(some 2), .mov (.c .nils), none, false, []⟩,
    ⟨(some 3), .mov (.c (.int .i64 0)), none, false, []⟩] none [0])
  (.seq (.ops [⟨(some 4), .newnil 2, none, false, []⟩] none [0, 4])
  (.seq (.seq (.ops [⟨(some 7), .mov (.t 0), none, false, []⟩,
    ⟨(some 8), .len false (.t 7), none, false, []⟩,
    ⟨(some 9), .mov (.c (.int .i64 0)), none, false, []⟩] none [0, 4, 7, 8, 9])
  (.block 0 (.loop [0, 7, 8] [4, 9] 1
    (.seq (.ops [⟨(some 10), .bin .none .lss (.t 9) (.t 8), none, false, []⟩] none [0, 4, 7, 8, 9, 10])
    (.seq (.cond (.t 10)
      .skip
      (.exit 0))
    (.join [0, 7, 8, 9] [4] 1 (.block 1 (.seq (.ops [⟨(some 11), .mov (.t 9), none, false, []⟩,
        ⟨(some 12), .iaddr 1 none (.t 7) (.t 9), none, false, []⟩,
        ⟨(some 13), .load 1 false (.t 12), none, false, []⟩,
        ⟨(some 5), .mov (.t 11), none, false, []⟩,
        ⟨(some 6), .mov (.t 13), none, false, []⟩] none [0, 4, 5, 6, 7, 8, 9])
      (.seq (.seq (.ops [⟨(some 14), .mov (.t 6), none, false, []⟩,
        ⟨(some 15), .not (.t 14), none, false, []⟩] none [0, 4, 5, 7, 8, 9, 15])
      (.cond (.t 15)
        (.exit 1)
        .skip))
      (.seq (.ops [⟨(some 16), .mov (.t 5), none, false, []⟩,
        ⟨(some 17), .bin .none .gtr (.t 16) (.c (.int .i64 0)), none, false, []⟩,
        ⟨(some 18), .mov (.t 17), none, true, []⟩,
        ⟨(some 19), .mov (.t 0), (some (18, true)), false, []⟩,
        ⟨(some 20), .mov (.t 5), (some (18, true)), false, []⟩,
        ⟨(some 21), .bin .none .sub (.t 20) (.c (.int .i64 1)), (some (18, true)), false, []⟩,
        ⟨(some 22), .iaddr 1 none (.t 19) (.t 21), (some (18, true)), false, []⟩,
        ⟨(some 23), .load 1 false (.t 22), (some (18, true)), false, []⟩,
        ⟨(some 24), .pick (.t 18) (.t 23) (.c (.bool false)), none, false, []⟩] none [0, 4, 5, 7, 8, 9, 24])
      (.cond (.t 24)
        (.ops [⟨(some 25), .mov (.t 4), none, false, []⟩,
          ⟨(some 26), .mov (.t 4), none, false, []⟩,
          ⟨(some 27), .len false (.t 26), none, false, []⟩,
          ⟨(some 28), .bin .none .sub (.t 27) (.c (.int .i64 1)), none, false, []⟩,
          ⟨(some 29), .mov (.t 5), none, false, []⟩,
          ⟨(some 30), .bin .none .add (.t 29) (.c (.int .i64 1)), none, false, []⟩,
          ⟨(some 31), .iaddr 2 none (.t 25) (.t 28), none, false, []⟩,
          ⟨(some 32), .faddr 1 (.t 31), none, false, []⟩,
          ⟨none, .store 1 (.t 32) (.t 30), none, false, []⟩] none [0, 4, 7, 8, 9])
        (.ops [⟨(some 33), .mov (.t 4), none, false, []⟩,
          ⟨(some 34), .mov (.t 5), none, false, []⟩,
          ⟨(some 35), .mov (.t 5), none, false, []⟩,
          ⟨(some 36), .bin .none .add (.t 35) (.c (.int .i64 1)), none, false, []⟩,
          ⟨(some 37), .build [(.int .i64 0), (.int .i64 0)] [(0, 1, (.t 34)), (1, 1, (.t 36))], none, false, []⟩,
          ⟨(some 38), .bslice true 1 2 [(.int .i64 0), (.int .i64 0)] [(0, 2, (.t 37))], none, false, []⟩,
          ⟨(some 39), .append 2 16 (.t 33) (.t 38), none, false, []⟩,
          ⟨(some 4), .mov (.t 39), none, false, []⟩] none [0, 4, 7, 8, 9]))))))
    (.ops [⟨(some 40), .bin .none .add (.t 9) (.c (.int .i64 1)), none, false, []⟩,
      ⟨(some 9), .mov (.t 40), none, false, []⟩] none [0, 4, 7, 8, 9])))))))
  (.seq (.seq (.ops [⟨(some 41), .mov (.t 4), none, false, []⟩,
    ⟨(some 42), .len false (.t 41), none, false, []⟩,
    ⟨(some 43), .bin .none .gtr (.t 42) (.c (.int .i64 40)), none, false, []⟩] none [4, 43])
  (.cond (.t 43)
    (.seq (.ops [⟨(some 2), .mov (.c .nils), none, false, []⟩,
      ⟨(some 3), .mov (.c (.int .i64 8)), none, false, []⟩] none [2, 3])
    .ret)
    .skip))
  (.seq (.ops [⟨(some 44), .mov (.t 4), none, false, []⟩,
    ⟨(some 2), .mov (.t 44), none, false, []⟩,
    ⟨(some 3), .mov (.c (.int .i64 0)), none, false, []⟩] none [2, 3])
  .ret)))))
def ref_setOf_r : List RRes := [.tmp 2, .tmp 3]
def ref_setOf_hi : Hi := ⟨[(4, (.st (.cons (.int .i64) (.cons (.int .i64) .nil)))), (38, (.st (.cons (.int .i64) (.cons (.int .i64) .nil)))), (39, (.st (.cons (.int .i64) (.cons (.int .i64) .nil))))], [(0, "in"), (1, "in"), (4, "out"), (5, "i"), (6, "is")]⟩
def ref_setOf_an : An := (.seq .d (.seq .d (.seq (.seq .d (.loop [4] [] [] .d)) .d)))
def ref_setOf_fi : Fi := ⟨45, ref_setOf_c, ref_setOf_r, ref_setOf_an, ref_setOf_hi, none⟩
theorem ref_setOf_ok : FiOk Try.prog f_ref_setOf ref_setOf_fi :=
  ⟨fun _ => by kernel_rfl, fun _ h hlen => fun_sound (by kernel_rfl) (fn := Try.f15) (draw_sound _ _) Try.func15 rfl (by kernel_rfl : comp Try.prog 45 _ ref_setOf_c = some ref_setOf_c) (by kernel_rfl : cRes Try.prog Try.f15.results.toList = some ref_setOf_r) hlen h, fun _ h => nomatch h⟩

/-- fustian/fustianref.SpansSet: slots [0 size, 1 l, 2 s, 3 add, 4 size, 5 l, 6 s, 7 add, 10 e, 11 in, 12 i] -/
def ref_SpansSet_c : SCode :=
  (.seq (.ops [⟨(some 6), .box 0 (.t 2), none, false, []⟩,
    ⟨(some 8), .mov (.c .nils), none, false, []⟩,
    ⟨(some 9), .mov (.c (.int .i64 0)), none, false, []⟩] none [0, 1, 3, 6])
  (.seq (.seq (.ops [⟨(some 13), .mov (.t 0), none, false, []⟩,
    ⟨(some 14), .mov (.t 1), none, false, []⟩,
    ⟨(some 15), .load 2 true (.t 6), none, false, []⟩,
    ⟨(some 16), .call f_ref_spansFault [(.t 13), (.t 14), (.t 15)], none, false, []⟩,
    ⟨(some 10), .mov (.t 16), none, false, []⟩] none [0, 1, 3, 6, 10])
  (.seq (.ops [⟨(some 17), .mov (.t 10), none, false, []⟩,
    ⟨(some 18), .bin .none .neq (.t 17) (.c (.int .i64 0)), none, false, []⟩] none [0, 1, 3, 6, 10, 18])
  (.cond (.t 18)
    (.seq (.ops [⟨(some 19), .mov (.t 10), none, false, []⟩,
      ⟨(some 8), .mov (.c .nils), none, false, []⟩,
      ⟨(some 9), .mov (.t 19), none, false, []⟩] none [8, 9])
    .ret)
    .skip)))
  (.seq (.ops [⟨(some 20), .mov (.t 0), none, false, []⟩,
    ⟨(some 21), .mov (.t 1), none, false, []⟩,
    ⟨(some 22), .call f_ref_inSet [(.t 20), (.t 21)], none, false, []⟩,
    ⟨(some 11), .mov (.t 22), none, false, []⟩] none [3, 6, 11])
  (.seq (.seq (.ops [⟨(some 23), .faddr 0 (.t 6), none, false, []⟩,
    ⟨(some 24), .load 1 false (.t 23), none, false, []⟩,
    ⟨(some 12), .mov (.t 24), none, false, []⟩] none [3, 6, 11, 12])
  (.block 0 (.loop [3, 6, 11] [12] 1
    (.seq (.seq (.ops [⟨(some 25), .mov (.t 12), none, false, []⟩,
      ⟨(some 26), .faddr 1 (.t 6), none, false, []⟩,
      ⟨(some 27), .load 1 false (.t 26), none, false, []⟩,
      ⟨(some 28), .bin .none .lss (.t 25) (.t 27), none, false, []⟩] none [3, 6, 11, 12, 28])
    (.cond (.t 28)
      .skip
      (.exit 0)))
    (.seq (.block 1 (.ops [⟨(some 31), .mov (.t 11), none, false, []⟩,
      ⟨(some 32), .mov (.t 12), none, false, []⟩,
      ⟨(some 33), .mov (.t 3), none, false, []⟩,
      ⟨(some 34), .iaddr 1 none (.t 31) (.t 32), none, false, []⟩,
      ⟨none, .store 1 (.t 34) (.t 33), none, false, []⟩] none [3, 6, 11, 12]))
    (.ops [⟨(some 29), .mov (.t 12), none, false, []⟩,
      ⟨(some 30), .bin .none .add (.t 29) (.c (.int .i64 1)), none, false, []⟩,
      ⟨(some 12), .mov (.t 30), none, false, []⟩] none [3, 6, 11, 12]))))))
  (.seq (.ops [⟨(some 35), .mov (.t 11), none, false, []⟩,
    ⟨(some 36), .call f_ref_setOf [(.t 35)], none, false, []⟩,
    ⟨(some 37), .extract (.t 36) 0, none, false, []⟩,
    ⟨(some 38), .extract (.t 36) 1, none, false, []⟩,
    ⟨(some 8), .mov (.t 37), none, false, []⟩,
    ⟨(some 9), .mov (.t 38), none, false, []⟩] none [8, 9])
  .ret)))))
def ref_SpansSet_r : List RRes := [.tmp 8, .tmp 9]
def ref_SpansSet_hi : Hi := ⟨[(6, (.st (.cons (.int .i64) (.cons (.int .i64) .nil))))], [(0, "size"), (1, "l"), (2, "s"), (3, "add"), (4, "size"), (5, "l"), (6, "s"), (7, "add"), (10, "e"), (11, "in"), (12, "i")]⟩
def ref_SpansSet_an : An := (.seq .d (.seq .d (.seq .d (.seq (.seq .d (.loop [11] [] [] .d)) .d))))
def ref_SpansSet_fi : Fi := ⟨39, ref_SpansSet_c, ref_SpansSet_r, ref_SpansSet_an, ref_SpansSet_hi, none⟩
theorem ref_SpansSet_ok : FiOk Try.prog f_ref_SpansSet ref_SpansSet_fi :=
  ⟨fun _ => by kernel_rfl, fun _ h hlen => fun_sound (by kernel_rfl) (fn := Try.f6) (draw_sound _ _) Try.func6 rfl (by kernel_rfl : comp Try.prog 39 _ ref_SpansSet_c = some ref_SpansSet_c) (by kernel_rfl : cRes Try.prog Try.f6.results.toList = some ref_SpansSet_r) hlen h, fun _ h => nomatch h⟩

/-- fustian/fustianlaw.sameSpans: slots [0 a, 1 b, 2 a, 3 b, 5 i] -/
def law_sameSpans_c : SCode :=
  (.seq (.ops [⟨(some 4), .mov (.c (.bool false)), none, false, []⟩] none [0, 1])
  (.seq (.seq (.ops [⟨(some 6), .mov (.t 0), none, false, []⟩,
    ⟨(some 7), .len false (.t 6), none, false, []⟩,
    ⟨(some 8), .mov (.t 1), none, false, []⟩,
    ⟨(some 9), .len false (.t 8), none, false, []⟩,
    ⟨(some 10), .bin .none .neq (.t 7) (.t 9), none, false, []⟩] none [0, 1, 10])
  (.cond (.t 10)
    (.seq (.ops [⟨(some 4), .mov (.c (.bool false)), none, false, []⟩] none [4])
    .ret)
    .skip))
  (.seq (.seq (.ops [⟨(some 5), .mov (.c (.int .i64 0)), none, false, []⟩] none [0, 1, 5])
  (.block 0 (.loop [0, 1] [5] 0
    (.seq (.seq (.ops [⟨(some 11), .mov (.t 5), none, false, []⟩,
      ⟨(some 12), .mov (.t 0), none, false, []⟩,
      ⟨(some 13), .len false (.t 12), none, false, []⟩,
      ⟨(some 14), .bin .none .lss (.t 11) (.t 13), none, false, []⟩] none [0, 1, 5, 14])
    (.cond (.t 14)
      .skip
      (.exit 0)))
    (.seq (.block 1 (.seq (.ops [⟨(some 17), .mov (.t 0), none, false, []⟩,
      ⟨(some 18), .mov (.t 5), none, false, []⟩,
      ⟨(some 19), .iaddr 2 none (.t 17) (.t 18), none, false, []⟩,
      ⟨(some 20), .load 2 true (.t 19), none, false, []⟩,
      ⟨(some 21), .mov (.t 1), none, false, []⟩,
      ⟨(some 22), .mov (.t 5), none, false, []⟩,
      ⟨(some 23), .iaddr 2 none (.t 21) (.t 22), none, false, []⟩,
      ⟨(some 24), .load 2 true (.t 23), none, false, []⟩,
      ⟨(some 25), .bin (.agg [.int, .int]) .neq (.t 20) (.t 24), none, false, []⟩] (some (0, 0, [0, 1, 2, 3, 4, 5, 6, 7, 8])) [0, 1, 5, 25])
    (.cond (.t 25)
      (.seq (.ops [⟨(some 4), .mov (.c (.bool false)), none, false, []⟩] none [4])
      .ret)
      .skip)))
    (.ops [⟨(some 15), .mov (.t 5), none, false, []⟩,
      ⟨(some 16), .bin .none .add (.t 15) (.c (.int .i64 1)), none, false, []⟩,
      ⟨(some 5), .mov (.t 16), none, false, []⟩] none [0, 1, 5]))))))
  (.seq (.ops [⟨(some 4), .mov (.c (.bool true)), none, false, []⟩] none [4])
  .ret))))
def law_sameSpans_r : List RRes := [.tmp 4]
def law_sameSpans_hi : Hi := ⟨[], [(0, "a"), (1, "b"), (2, "a"), (3, "b"), (5, "i")]⟩
def law_sameSpans_an : An := (.seq .d (.seq .d (.seq (.seq .d (.loop [] [] [] .d)) .d)))
def law_sameSpans_fi : Fi := ⟨26, law_sameSpans_c, law_sameSpans_r, law_sameSpans_an, law_sameSpans_hi, none⟩
theorem law_sameSpans_ok : FiOk Try.prog f_law_sameSpans law_sameSpans_fi :=
  ⟨fun _ => by kernel_rfl, fun _ h hlen => fun_sound (by kernel_rfl) (fn := Try.f7) (draw_sound _ _) Try.func7 rfl (by kernel_rfl : comp Try.prog 26 _ law_sameSpans_c = some law_sameSpans_c) (by kernel_rfl : cRes Try.prog Try.f7.results.toList = some law_sameSpans_r) hlen h, fun _ h => nomatch h⟩

/-- fustian/fustianlaw.SpansAdds: slots [0 size, 1 l, 2 s, 3 size, 4 l, 5 s, 7 x, 8 e, 9 y, 10 f] -/
def law_SpansAdds_c : SCode :=
  (.seq (.ops [⟨(some 5), .box 0 (.t 2), none, false, []⟩,
    ⟨(some 6), .mov (.c (.bool false)), none, false, []⟩] none [0, 1, 5])
  (.seq (.ops [⟨(some 12), .mov (.t 0), none, false, []⟩,
    ⟨(some 13), .mov (.t 1), none, false, []⟩,
    ⟨(some 14), .load 2 true (.t 5), none, false, []⟩,
    ⟨(some 15), .call f_spans_Add [(.t 12), (.t 13), (.t 14)], none, false, []⟩,
    ⟨(some 11), .mov (.t 15), none, false, []⟩,
    ⟨(some 16), .extract (.t 11) 0, none, false, []⟩,
    ⟨(some 17), .extract (.t 11) 1, none, false, []⟩,
    ⟨(some 7), .mov (.t 16), none, false, []⟩,
    ⟨(some 8), .mov (.t 17), none, false, []⟩] none [0, 1, 5, 7, 8])
  (.seq (.ops [⟨(some 19), .mov (.t 0), none, false, []⟩,
    ⟨(some 20), .mov (.t 1), none, false, []⟩,
    ⟨(some 21), .load 2 true (.t 5), none, false, []⟩,
    ⟨(some 22), .call f_ref_SpansSet [(.t 19), (.t 20), (.t 21), (.c (.bool true))], none, false, []⟩,
    ⟨(some 18), .mov (.t 22), none, false, []⟩,
    ⟨(some 23), .extract (.t 18) 0, none, false, []⟩,
    ⟨(some 24), .extract (.t 18) 1, none, false, []⟩,
    ⟨(some 9), .mov (.t 23), none, false, []⟩,
    ⟨(some 10), .mov (.t 24), none, false, []⟩] none [7, 8, 9, 10])
  (.seq (.ops [⟨(some 25), .mov (.t 7), none, false, []⟩,
    ⟨(some 26), .mov (.t 9), none, false, []⟩,
    ⟨(some 27), .call f_law_sameSpans [(.t 25), (.t 26)], none, false, []⟩,
    ⟨(some 28), .mov (.t 27), none, true, []⟩,
    ⟨(some 29), .mov (.t 8), (some (28, true)), false, []⟩,
    ⟨(some 30), .mov (.t 10), (some (28, true)), false, []⟩,
    ⟨(some 31), .bin .none .eql (.t 29) (.t 30), (some (28, true)), false, []⟩,
    ⟨(some 32), .pick (.t 28) (.t 31) (.c (.bool false)), none, false, []⟩,
    ⟨(some 6), .mov (.t 32), none, false, []⟩] none [6])
  .ret))))
def law_SpansAdds_r : List RRes := [.tmp 6]
def law_SpansAdds_hi : Hi := ⟨[(5, (.st (.cons (.int .i64) (.cons (.int .i64) .nil))))], [(0, "size"), (1, "l"), (2, "s"), (3, "size"), (4, "l"), (5, "s"), (7, "x"), (8, "e"), (9, "y"), (10, "f")]⟩
def law_SpansAdds_an : An := .d
def law_SpansAdds_fi : Fi := ⟨33, law_SpansAdds_c, law_SpansAdds_r, law_SpansAdds_an, law_SpansAdds_hi, none⟩
theorem law_SpansAdds_ok : FiOk Try.prog f_law_SpansAdds law_SpansAdds_fi :=
  ⟨fun _ => by kernel_rfl, fun _ h hlen => fun_sound (by kernel_rfl) (fn := Try.f3) (draw_sound _ _) Try.func3 rfl (by kernel_rfl : comp Try.prog 33 _ law_SpansAdds_c = some law_SpansAdds_c) (by kernel_rfl : cRes Try.prog Try.f3.results.toList = some law_SpansAdds_r) hlen h, fun _ h => nomatch h⟩

/-- fustian/spans.full: slots [0 l, 1 l] -/
def spans_full_c : SCode :=
  (.seq (.ops [⟨(some 2), .mov (.c .nils), none, false, []⟩,
    ⟨(some 3), .mov (.c (.int .i64 0)), none, false, []⟩] none [0])
  (.seq (.seq (.ops [⟨(some 4), .mov (.t 0), none, false, []⟩,
    ⟨(some 5), .len false (.t 4), none, false, []⟩,
    ⟨(some 6), .bin .none .gtr (.t 5) (.c (.int .i64 40)), none, false, []⟩] none [0, 6])
  (.cond (.t 6)
    (.seq (.ops [⟨(some 2), .mov (.c .nils), none, false, []⟩,
      ⟨(some 3), .mov (.c (.int .i64 8)), none, false, []⟩] none [2, 3])
    .ret)
    .skip))
  (.seq (.ops [⟨(some 7), .mov (.t 0), none, false, []⟩,
    ⟨(some 2), .mov (.t 7), none, false, []⟩,
    ⟨(some 3), .mov (.c (.int .i64 0)), none, false, []⟩] none [2, 3])
  .ret)))
def spans_full_r : List RRes := [.tmp 2, .tmp 3]
def spans_full_hi : Hi := ⟨[], [(0, "l"), (1, "l")]⟩
def spans_full_an : An := .d
def spans_full_fi : Fi := ⟨8, spans_full_c, spans_full_r, spans_full_an, spans_full_hi, none⟩
theorem spans_full_ok : FiOk Try.prog f_spans_full spans_full_fi :=
  ⟨fun _ => by kernel_rfl, fun _ h hlen => fun_sound (by kernel_rfl) (fn := Try.f11) (draw_sound _ _) Try.func11 rfl (by kernel_rfl : comp Try.prog 8 _ spans_full_c = some spans_full_c) (by kernel_rfl : cRes Try.prog Try.f11.results.toList = some spans_full_r) hlen h, fun _ h => nomatch h⟩

end Go.Proofs.Ytogjhebilbbdjaa
