/- The functions' simplified code, printed by a program of the claim's author; each is checked against the program's own code. Conditions: none. -/
import Derived.Test.YtgnhlecfladigaaProg
import Derived.Test.YtgnhlecfladigaaVyM
set_option linter.unusedVariables false
set_option maxRecDepth 100000
namespace Go.Proofs.Ytgnhlecfladigaa
open Go.Vc
abbrev f_gosem_cut_init : Nat := 2
abbrev f_law_Names : Nat := 3
abbrev f_law_PolyMays : Nat := 4
abbrev f_law_PosMays : Nat := 5
abbrev f_law_PolyOfs : Nat := 6
abbrev f_law_PolyJoins : Nat := 7
abbrev f_law_EditChecks : Nat := 8
abbrev f_law_SpansMays : Nat := 9
abbrev f_law_LinesStarts : Nat := 10
abbrev f_law_MarksNears : Nat := 11
abbrev f_law_PosJoins : Nat := 12
abbrev f_law_EditPlaces : Nat := 13
abbrev f_law_FindBorders : Nat := 14
abbrev f_poly_May : Nat := 15
abbrev f_ref_PolyMay : Nat := 16
abbrev f_pos_May : Nat := 17
abbrev f_ref_PosMay : Nat := 18
abbrev f_poly_Of : Nat := 19
abbrev f_ref_PolyOf : Nat := 20
abbrev f_poly_Join : Nat := 21
abbrev f_ref_PolyJoin : Nat := 22
abbrev f_edit_Check : Nat := 23
abbrev f_ref_EditFault : Nat := 24
abbrev f_spans_May : Nat := 25
abbrev f_ref_SpansMay : Nat := 26
abbrev f_lines_Starts : Nat := 27
abbrev f_ref_LinesStarts : Nat := 28
abbrev f_law_sameInts : Nat := 29
abbrev f_marks_Near : Nat := 30
abbrev f_ref_MarksNear : Nat := 31
abbrev f_pos_Join : Nat := 32
abbrev f_ref_PosJoin : Nat := 33
abbrev f_edit_Place : Nat := 34
abbrev f_ref_EditPlace : Nat := 35
abbrev f_find_Border : Nat := 36
abbrev f_ref_FindBorder : Nat := 37
abbrev f_lines_Of : Nat := 38
abbrev f_ref_cutLines : Nat := 39
abbrev f_edit_Moved : Nat := 40
abbrev f_ref_editPlace : Nat := 41
abbrev f_find_border : Nat := 42

/-- fustian/spans.May: slots [0 size, 1 l, 2 size, 3 l, 5 last, 6 _, 7 s] -/
def spans_May_c : SCode :=
  (.seq (.ops [⟨(some 4), .mov (.c (.bool false)), none, false⟩] none [0, 1])
  (.seq (.seq (.ops [⟨(some 8), .mov (.t 0), none, false⟩,
    ⟨(some 9), .bin .none .lss (.t 8) (.c (.int .i64 0)), none, false⟩,
    ⟨(some 10), .mov (.t 9), none, true⟩,
    ⟨(some 11), .mov (.t 0), (some (10, false)), false⟩,
    ⟨(some 12), .bin .none .gtr (.t 11) (.c (.int .i64 600)), (some (10, false)), false⟩,
    ⟨(some 13), .pick (.t 10) (.c (.bool true)) (.t 12), none, false⟩,
    ⟨(some 14), .mov (.t 13), none, true⟩,
    ⟨(some 15), .mov (.t 1), (some (14, false)), false⟩,
    ⟨(some 16), .len false (.t 15), (some (14, false)), false⟩,
    ⟨(some 17), .bin .none .gtr (.t 16) (.c (.int .i64 40)), (some (14, false)), false⟩,
    ⟨(some 18), .pick (.t 14) (.c (.bool true)) (.t 17), none, false⟩] none [0, 1, 18])
  (.cond (.t 18)
    (.seq (.ops [⟨(some 4), .mov (.c (.bool false)), none, false⟩] none [4])
    .ret)
    .skip))
  (.seq (.ops [⟨(some 5), .mov (.c (.int .i64 (-1))), none, false⟩] none [0, 1, 5])
  (.seq (.seq (.ops [⟨(some 19), .mov (.t 1), none, false⟩,
    ⟨(some 20), .len false (.t 19), none, false⟩,
    ⟨(some 21), .mov (.c (.int .i64 0)), none, false⟩] none [0, 5, 19, 20, 21])
  (.block 0 (.loop [0, 19, 20] [5, 21] 0
    (.seq (.ops [⟨(some 22), .bin .none .lss (.t 21) (.t 20), none, false⟩] none [0, 5, 19, 20, 21, 22])
    (.seq (.cond (.t 22)
      .skip
      (.exit 0))
    (.seq (.block 1 (.seq (.ops [⟨(some 23), .iaddr 2 none (.t 19) (.t 21), none, false⟩,
      ⟨(some 24), .load 2 true (.t 23), none, false⟩,
      ⟨(some 7), .alloc 0 [(.int .i64 0), (.int .i64 0)], none, false⟩,
      ⟨none, .store 2 (.t 7) (.t 24), none, false⟩] none [0, 5, 7, 19, 20, 21])
    (.seq (.seq (.ops [⟨(some 25), .faddr 0 (.t 7), none, false⟩,
      ⟨(some 26), .load 1 false (.t 25), none, false⟩,
      ⟨(some 27), .mov (.t 5), none, false⟩,
      ⟨(some 28), .bin .none .leq (.t 26) (.t 27), none, false⟩,
      ⟨(some 29), .mov (.t 28), none, true⟩,
      ⟨(some 30), .faddr 0 (.t 7), (some (29, false)), false⟩,
      ⟨(some 31), .load 1 false (.t 30), (some (29, false)), false⟩,
      ⟨(some 32), .faddr 1 (.t 7), (some (29, false)), false⟩,
      ⟨(some 33), .load 1 false (.t 32), (some (29, false)), false⟩,
      ⟨(some 34), .bin .none .geq (.t 31) (.t 33), (some (29, false)), false⟩,
      ⟨(some 35), .pick (.t 29) (.c (.bool true)) (.t 34), none, false⟩,
      ⟨(some 36), .mov (.t 35), none, true⟩,
      ⟨(some 37), .faddr 1 (.t 7), (some (36, false)), false⟩,
      ⟨(some 38), .load 1 false (.t 37), (some (36, false)), false⟩,
      ⟨(some 39), .mov (.t 0), (some (36, false)), false⟩,
      ⟨(some 40), .bin .none .gtr (.t 38) (.t 39), (some (36, false)), false⟩,
      ⟨(some 41), .pick (.t 36) (.c (.bool true)) (.t 40), none, false⟩] none [0, 7, 19, 20, 21, 41])
    (.cond (.t 41)
      (.seq (.ops [⟨(some 4), .mov (.c (.bool false)), none, false⟩] none [4])
      .ret)
      .skip))
    (.ops [⟨(some 42), .faddr 1 (.t 7), none, false⟩,
      ⟨(some 43), .load 1 false (.t 42), none, false⟩,
      ⟨(some 5), .mov (.t 43), none, false⟩] none [0, 5, 19, 20, 21]))))
    (.ops [⟨(some 44), .bin .none .add (.t 21) (.c (.int .i64 1)), none, false⟩,
      ⟨(some 21), .mov (.t 44), none, false⟩] none [0, 5, 19, 20, 21])))))))
  (.seq (.ops [⟨(some 4), .mov (.c (.bool true)), none, false⟩] none [4])
  .ret)))))
def spans_May_r : List RRes := [.tmp 4]
def spans_May_hi : Hi := ⟨[], [(0, "size"), (1, "l"), (2, "size"), (3, "l"), (5, "last"), (7, "s")]⟩
def spans_May_an : An := (.seq .d (.seq .d (.seq .d (.seq (.seq .d (.loop [] [] [] .d)) .d))))
def spans_May_fi : Fi := ⟨45, spans_May_c, spans_May_r, spans_May_an, spans_May_hi⟩
theorem spans_May_ok : FiOk Try.prog f_spans_May spans_May_fi :=
  ⟨by kernel_rfl, fun h hlen => fun_sound (fn := Try.f25) (draw_sound _ _) Try.func25 rfl (by kernel_rfl : comp Try.prog 45 _ spans_May_c = some spans_May_c) (by kernel_rfl : cRes Try.prog Try.f25.results.toList = some spans_May_r) hlen h⟩

/-- fustian/fustianref.SpansMay: slots [0 size, 1 l, 2 size, 3 l, 5 i, 6 s] -/
def ref_SpansMay_c : SCode :=
  (.seq (.ops [⟨(some 4), .mov (.c (.bool false)), none, false⟩] none [0, 1])
  (.seq (.seq (.ops [⟨(some 7), .mov (.t 0), none, false⟩,
    ⟨(some 8), .bin .none .lss (.t 7) (.c (.int .i64 0)), none, false⟩,
    ⟨(some 9), .mov (.t 8), none, true⟩,
    ⟨(some 10), .mov (.t 0), (some (9, false)), false⟩,
    ⟨(some 11), .bin .none .gtr (.t 10) (.c (.int .i64 600)), (some (9, false)), false⟩,
    ⟨(some 12), .pick (.t 9) (.c (.bool true)) (.t 11), none, false⟩,
    ⟨(some 13), .mov (.t 12), none, true⟩,
    ⟨(some 14), .mov (.t 1), (some (13, false)), false⟩,
    ⟨(some 15), .len false (.t 14), (some (13, false)), false⟩,
    ⟨(some 16), .bin .none .gtr (.t 15) (.c (.int .i64 40)), (some (13, false)), false⟩,
    ⟨(some 17), .pick (.t 13) (.c (.bool true)) (.t 16), none, false⟩] none [0, 1, 17])
  (.cond (.t 17)
    (.seq (.ops [⟨(some 4), .mov (.c (.bool false)), none, false⟩] none [4])
    .ret)
    .skip))
  (.seq (.seq (.ops [⟨(some 18), .mov (.t 1), none, false⟩,
    ⟨(some 19), .len false (.t 18), none, false⟩,
    ⟨(some 20), .mov (.c (.int .i64 0)), none, false⟩] none [0, 1, 18, 19, 20])
  (.block 0 (.loop [0, 1, 18, 19] [20] 0
    (.seq (.ops [⟨(some 21), .bin .none .lss (.t 20) (.t 19), none, false⟩] none [0, 1, 18, 19, 20, 21])
    (.seq (.cond (.t 21)
      .skip
      (.exit 0))
    (.seq (.block 1 (.seq (.ops [⟨(some 22), .mov (.t 20), none, false⟩,
      ⟨(some 23), .iaddr 2 none (.t 18) (.t 20), none, false⟩,
      ⟨(some 24), .load 2 true (.t 23), none, false⟩,
      ⟨(some 6), .alloc 0 [(.int .i64 0), (.int .i64 0)], none, false⟩,
      ⟨(some 5), .mov (.t 22), none, false⟩,
      ⟨none, .store 2 (.t 6) (.t 24), none, false⟩] none [0, 1, 5, 6, 18, 19, 20])
    (.seq (.ops [⟨(some 25), .faddr 0 (.t 6), none, false⟩,
      ⟨(some 26), .load 1 false (.t 25), none, false⟩,
      ⟨(some 27), .bin .none .lss (.t 26) (.c (.int .i64 0)), none, false⟩,
      ⟨(some 28), .mov (.t 27), none, true⟩,
      ⟨(some 29), .faddr 1 (.t 6), (some (28, false)), false⟩,
      ⟨(some 30), .load 1 false (.t 29), (some (28, false)), false⟩,
      ⟨(some 31), .faddr 0 (.t 6), (some (28, false)), false⟩,
      ⟨(some 32), .load 1 false (.t 31), (some (28, false)), false⟩,
      ⟨(some 33), .bin .none .leq (.t 30) (.t 32), (some (28, false)), false⟩,
      ⟨(some 34), .pick (.t 28) (.c (.bool true)) (.t 33), none, false⟩,
      ⟨(some 35), .mov (.t 34), none, true⟩,
      ⟨(some 36), .faddr 1 (.t 6), (some (35, false)), false⟩,
      ⟨(some 37), .load 1 false (.t 36), (some (35, false)), false⟩,
      ⟨(some 38), .mov (.t 0), (some (35, false)), false⟩,
      ⟨(some 39), .bin .none .gtr (.t 37) (.t 38), (some (35, false)), false⟩,
      ⟨(some 40), .pick (.t 35) (.c (.bool true)) (.t 39), none, false⟩,
      ⟨(some 41), .mov (.t 40), none, true⟩,
      ⟨(some 42), .mov (.t 5), (some (41, false)), false⟩,
      ⟨(some 43), .bin .none .gtr (.t 42) (.c (.int .i64 0)), (some (41, false)), false⟩,
      ⟨(some 44), .mov (.t 43), (some (41, false)), true⟩,
      ⟨(some 45), .mov (.t 1), (some (44, true)), false⟩,
      ⟨(some 46), .mov (.t 5), (some (44, true)), false⟩,
      ⟨(some 47), .bin .none .sub (.t 46) (.c (.int .i64 1)), (some (44, true)), false⟩,
      ⟨(some 48), .iaddr 2 none (.t 45) (.t 47), (some (44, true)), false⟩,
      ⟨(some 49), .faddr 1 (.t 48), (some (44, true)), false⟩,
      ⟨(some 50), .load 1 false (.t 49), (some (44, true)), false⟩,
      ⟨(some 51), .faddr 0 (.t 6), (some (44, true)), false⟩,
      ⟨(some 52), .load 1 false (.t 51), (some (44, true)), false⟩,
      ⟨(some 53), .bin .none .geq (.t 50) (.t 52), (some (44, true)), false⟩,
      ⟨(some 54), .pick (.t 44) (.t 53) (.c (.bool false)), (some (41, false)), false⟩,
      ⟨(some 55), .pick (.t 41) (.c (.bool true)) (.t 54), none, false⟩] (some 28) [0, 1, 18, 19, 20, 55])
    (.cond (.t 55)
      (.seq (.ops [⟨(some 4), .mov (.c (.bool false)), none, false⟩] none [4])
      .ret)
      .skip))))
    (.ops [⟨(some 56), .bin .none .add (.t 20) (.c (.int .i64 1)), none, false⟩,
      ⟨(some 20), .mov (.t 56), none, false⟩] none [0, 1, 18, 19, 20])))))))
  (.seq (.ops [⟨(some 4), .mov (.c (.bool true)), none, false⟩] none [4])
  .ret))))
def ref_SpansMay_r : List RRes := [.tmp 4]
def ref_SpansMay_hi : Hi := ⟨[], [(0, "size"), (1, "l"), (2, "size"), (3, "l"), (5, "i"), (6, "s")]⟩
def ref_SpansMay_an : An := (.seq .d (.seq .d (.seq (.seq .d (.loop [] [] [] .d)) .d)))
def ref_SpansMay_fi : Fi := ⟨57, ref_SpansMay_c, ref_SpansMay_r, ref_SpansMay_an, ref_SpansMay_hi⟩
theorem ref_SpansMay_ok : FiOk Try.prog f_ref_SpansMay ref_SpansMay_fi :=
  ⟨by kernel_rfl, fun h hlen => fun_sound (fn := Try.f26) (draw_sound _ _) Try.func26 rfl (by kernel_rfl : comp Try.prog 57 _ ref_SpansMay_c = some ref_SpansMay_c) (by kernel_rfl : cRes Try.prog Try.f26.results.toList = some ref_SpansMay_r) hlen h⟩

/-- fustian/fustianlaw.SpansMays: slots [0 size, 1 l, 2 size, 3 l] -/
def law_SpansMays_c : SCode :=
  (.seq (.ops [⟨(some 4), .mov (.c (.bool false)), none, false⟩] none [0, 1])
  (.seq (.ops [⟨(some 5), .mov (.t 0), none, false⟩,
    ⟨(some 6), .mov (.t 1), none, false⟩,
    ⟨(some 7), .call f_spans_May [(.t 5), (.t 6)], none, false⟩,
    ⟨(some 8), .mov (.t 0), none, false⟩,
    ⟨(some 9), .mov (.t 1), none, false⟩,
    ⟨(some 10), .call f_ref_SpansMay [(.t 8), (.t 9)], none, false⟩,
    ⟨(some 11), .bin .bool .eql (.t 7) (.t 10), none, false⟩,
    ⟨(some 4), .mov (.t 11), none, false⟩] none [4])
  .ret))
def law_SpansMays_r : List RRes := [.tmp 4]
def law_SpansMays_hi : Hi := ⟨[], [(0, "size"), (1, "l"), (2, "size"), (3, "l")]⟩
def law_SpansMays_an : An := .d
def law_SpansMays_fi : Fi := ⟨12, law_SpansMays_c, law_SpansMays_r, law_SpansMays_an, law_SpansMays_hi⟩
theorem law_SpansMays_ok : FiOk Try.prog f_law_SpansMays law_SpansMays_fi :=
  ⟨by kernel_rfl, fun h hlen => fun_sound (fn := Try.f9) (draw_sound _ _) Try.func9 rfl (by kernel_rfl : comp Try.prog 12 _ law_SpansMays_c = some law_SpansMays_c) (by kernel_rfl : cRes Try.prog Try.f9.results.toList = some law_SpansMays_r) hlen h⟩

end Go.Proofs.Ytgnhlecfladigaa
