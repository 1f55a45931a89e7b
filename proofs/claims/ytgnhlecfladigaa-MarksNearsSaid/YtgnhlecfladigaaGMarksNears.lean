/- The functions' simplified code, printed by a program of the claim's author; each is checked against the program's own code. Conditions: none. -/
import Derived.Test.YtgnhlecfladigaaProg
import Derived.Test.YtgnhlecfladigaaVyM
set_option linter.unusedVariables false
set_option maxRecDepth 100000
namespace Go.Proofs.Ytgnhlecfladigaa
open Go.Vc
abbrev f_gosem_cut_init : Nat := 2
abbrev f_law_Names : Nat := 3
abbrev f_law_PolyMays : Nat := 4
abbrev f_law_PosMays : Nat := 5
abbrev f_law_PolyOfs : Nat := 6
abbrev f_law_PolyJoins : Nat := 7
abbrev f_law_EditChecks : Nat := 8
abbrev f_law_SpansMays : Nat := 9
abbrev f_law_LinesStarts : Nat := 10
abbrev f_law_MarksNears : Nat := 11
abbrev f_law_PosJoins : Nat := 12
abbrev f_law_EditPlaces : Nat := 13
abbrev f_law_FindBorders : Nat := 14
abbrev f_poly_May : Nat := 15
abbrev f_ref_PolyMay : Nat := 16
abbrev f_pos_May : Nat := 17
abbrev f_ref_PosMay : Nat := 18
abbrev f_poly_Of : Nat := 19
abbrev f_ref_PolyOf : Nat := 20
abbrev f_poly_Join : Nat := 21
abbrev f_ref_PolyJoin : Nat := 22
abbrev f_edit_Check : Nat := 23
abbrev f_ref_EditFault : Nat := 24
abbrev f_spans_May : Nat := 25
abbrev f_ref_SpansMay : Nat := 26
abbrev f_lines_Starts : Nat := 27
abbrev f_ref_LinesStarts : Nat := 28
abbrev f_law_sameInts : Nat := 29
abbrev f_marks_Near : Nat := 30
abbrev f_ref_MarksNear : Nat := 31
abbrev f_pos_Join : Nat := 32
abbrev f_ref_PosJoin : Nat := 33
abbrev f_edit_Place : Nat := 34
abbrev f_ref_EditPlace : Nat := 35
abbrev f_find_Border : Nat := 36
abbrev f_ref_FindBorder : Nat := 37
abbrev f_lines_Of : Nat := 38
abbrev f_ref_cutLines : Nat := 39
abbrev f_edit_Moved : Nat := 40
abbrev f_ref_editPlace : Nat := 41
abbrev f_find_border : Nat := 42

/-- fustian/marks.Near: slots [0 ms, 1 at, 2 right, 3 ms, 4 at, 5 right, 8 best, 9 i, 10 m] -/
def marks_Near_c : SCode :=
  (.seq (.ops [⟨(some 6), .mov (.c (.int .i64 0)), none, false⟩,
    ⟨(some 7), .mov (.c (.int .i64 0)), none, false⟩] none [0, 1, 2])
  (.seq (.seq (.ops [⟨(some 11), .mov (.t 0), none, false⟩,
    ⟨(some 12), .len false (.t 11), none, false⟩,
    ⟨(some 13), .bin .none .gtr (.t 12) (.c (.int .i64 60)), none, false⟩] none [0, 1, 2, 13])
  (.cond (.t 13)
    (.seq (.ops [⟨(some 6), .mov (.c (.int .i64 0)), none, false⟩,
      ⟨(some 7), .mov (.c (.int .i64 1)), none, false⟩] none [6, 7])
    .ret)
    .skip))
  (.seq (.ops [⟨(some 8), .mov (.c (.int .i64 (-1))), none, false⟩] none [0, 1, 2, 8])
  (.seq (.seq (.ops [⟨(some 14), .mov (.t 0), none, false⟩,
    ⟨(some 15), .len false (.t 14), none, false⟩,
    ⟨(some 16), .mov (.c (.int .i64 0)), none, false⟩] none [0, 1, 2, 8, 14, 15, 16])
  (.block 0 (.loop [0, 1, 2, 14, 15] [8, 16] 0
    (.seq (.ops [⟨(some 17), .bin .none .lss (.t 16) (.t 15), none, false⟩] none [0, 1, 2, 8, 14, 15, 16, 17])
    (.seq (.cond (.t 17)
      .skip
      (.exit 0))
    (.join [0, 1, 2, 14, 15, 16] [8] 1 (.block 1 (.seq (.ops [⟨(some 18), .mov (.t 16), none, false⟩,
        ⟨(some 19), .iaddr 2 none (.t 14) (.t 16), none, false⟩,
        ⟨(some 20), .load 2 true (.t 19), none, false⟩,
        ⟨(some 10), .alloc 0 [(.int .i64 0), (.bool false)], none, false⟩,
        ⟨(some 9), .mov (.t 18), none, false⟩,
        ⟨none, .store 2 (.t 10) (.t 20), none, false⟩] none [0, 1, 2, 8, 9, 10, 14, 15, 16])
      (.block 2 (.join [0, 1, 2, 8, 9, 10, 14, 15, 16] [21] 1 (.seq (.ops [⟨(some 22), .mov (.t 2), none, false⟩,
          ⟨(some 23), .mov (.t 22), none, true⟩,
          ⟨(some 24), .faddr 0 (.t 10), (some (23, true)), false⟩,
          ⟨(some 25), .load 1 false (.t 24), (some (23, true)), false⟩,
          ⟨(some 26), .mov (.t 1), (some (23, true)), false⟩,
          ⟨(some 27), .bin .none .lss (.t 25) (.t 26), (some (23, true)), false⟩,
          ⟨(some 28), .pick (.t 23) (.t 27) (.c (.bool false)), none, false⟩,
          ⟨(some 21), .mov (.t 28), none, false⟩] none [0, 1, 2, 8, 9, 10, 14, 15, 16, 21])
        (.cond (.t 21)
          .skip
          (.ops [⟨(some 29), .mov (.t 2), none, false⟩,
            ⟨(some 30), .not (.t 29), none, false⟩,
            ⟨(some 31), .mov (.t 30), none, true⟩,
            ⟨(some 32), .faddr 0 (.t 10), (some (31, true)), false⟩,
            ⟨(some 33), .load 1 false (.t 32), (some (31, true)), false⟩,
            ⟨(some 34), .mov (.t 1), (some (31, true)), false⟩,
            ⟨(some 35), .bin .none .gtr (.t 33) (.t 34), (some (31, true)), false⟩,
            ⟨(some 36), .pick (.t 31) (.t 35) (.c (.bool false)), none, false⟩,
            ⟨(some 21), .mov (.t 36), none, false⟩] none [0, 1, 2, 8, 9, 10, 14, 15, 16, 21])))
      (.cond (.t 21)
        .skip
        (.join [0, 1, 2, 8, 9, 14, 15, 16] [37] 1 (.seq (.ops [⟨(some 38), .mov (.t 8), none, false⟩,
            ⟨(some 39), .bin .none .lss (.t 38) (.c (.int .i64 0)), none, false⟩,
            ⟨(some 37), .mov (.t 39), none, false⟩] none [0, 1, 2, 8, 9, 10, 14, 15, 16, 37])
          (.cond (.t 37)
            .skip
            (.seq (.ops [⟨(some 40), .mov (.t 2), none, false⟩,
              ⟨(some 41), .mov (.t 40), none, true⟩,
              ⟨(some 42), .faddr 0 (.t 10), (some (41, true)), false⟩,
              ⟨(some 43), .load 1 false (.t 42), (some (41, true)), false⟩,
              ⟨(some 44), .mov (.t 0), (some (41, true)), false⟩,
              ⟨(some 45), .mov (.t 8), (some (41, true)), false⟩,
              ⟨(some 46), .iaddr 2 none (.t 44) (.t 45), (some (41, true)), false⟩,
              ⟨(some 47), .faddr 0 (.t 46), (some (41, true)), false⟩,
              ⟨(some 48), .load 1 false (.t 47), (some (41, true)), false⟩,
              ⟨(some 49), .bin .none .lss (.t 43) (.t 48), (some (41, true)), false⟩,
              ⟨(some 50), .pick (.t 41) (.t 49) (.c (.bool false)), none, false⟩,
              ⟨(some 37), .mov (.t 50), none, false⟩] (some 9) [0, 1, 2, 8, 9, 10, 14, 15, 16, 37])
            (.cond (.t 37)
              .skip
              (.ops [⟨(some 51), .mov (.t 2), none, false⟩,
                ⟨(some 52), .not (.t 51), none, false⟩,
                ⟨(some 53), .mov (.t 52), none, true⟩,
                ⟨(some 54), .faddr 0 (.t 10), (some (53, true)), false⟩,
                ⟨(some 55), .load 1 false (.t 54), (some (53, true)), false⟩,
                ⟨(some 56), .mov (.t 0), (some (53, true)), false⟩,
                ⟨(some 57), .mov (.t 8), (some (53, true)), false⟩,
                ⟨(some 58), .iaddr 2 none (.t 56) (.t 57), (some (53, true)), false⟩,
                ⟨(some 59), .faddr 0 (.t 58), (some (53, true)), false⟩,
                ⟨(some 60), .load 1 false (.t 59), (some (53, true)), false⟩,
                ⟨(some 61), .bin .none .gtr (.t 55) (.t 60), (some (53, true)), false⟩,
                ⟨(some 62), .pick (.t 53) (.t 61) (.c (.bool false)), none, false⟩,
                ⟨(some 37), .mov (.t 62), none, false⟩] (some 10) [0, 1, 2, 8, 9, 14, 15, 16, 37])))))
        (.cond (.t 37)
          (.ops [⟨(some 63), .mov (.t 9), none, false⟩,
            ⟨(some 8), .mov (.t 63), none, false⟩] none [0, 1, 2, 8, 14, 15, 16])
          .skip)))))))
    (.ops [⟨(some 64), .bin .none .add (.t 16) (.c (.int .i64 1)), none, false⟩,
      ⟨(some 16), .mov (.t 64), none, false⟩] none [0, 1, 2, 8, 14, 15, 16])))))))
  (.seq (.seq (.ops [⟨(some 65), .mov (.t 8), none, false⟩,
    ⟨(some 66), .bin .none .lss (.t 65) (.c (.int .i64 0)), none, false⟩] none [8, 66])
  (.cond (.t 66)
    (.seq (.ops [⟨(some 6), .mov (.c (.int .i64 0)), none, false⟩,
      ⟨(some 7), .mov (.c (.int .i64 7)), none, false⟩] none [6, 7])
    .ret)
    .skip))
  (.seq (.ops [⟨(some 67), .mov (.t 8), none, false⟩,
    ⟨(some 6), .mov (.t 67), none, false⟩,
    ⟨(some 7), .mov (.c (.int .i64 0)), none, false⟩] none [6, 7])
  .ret))))))
def marks_Near_r : List RRes := [.tmp 6, .tmp 7]
def marks_Near_hi : Hi := ⟨[], [(0, "ms"), (1, "at"), (2, "right"), (3, "ms"), (4, "at"), (5, "right"), (8, "best"), (9, "i"), (10, "m")]⟩
def marks_Near_an : An := (.seq .d (.seq .d (.seq .d (.seq (.seq .d (.loop [] [] [] .d)) .d))))
def marks_Near_fi : Fi := ⟨68, marks_Near_c, marks_Near_r, marks_Near_an, marks_Near_hi⟩
theorem marks_Near_ok : FiOk Try.prog f_marks_Near marks_Near_fi :=
  ⟨by kernel_rfl, fun h hlen => fun_sound (fn := Try.f30) (draw_sound _ _) Try.func30 rfl (by kernel_rfl : comp Try.prog 68 _ marks_Near_c = some marks_Near_c) (by kernel_rfl : cRes Try.prog Try.f30.results.toList = some marks_Near_r) hlen h⟩

/-- fustian/fustianref.MarksNear: slots [0 ms, 1 at, 2 right, 3 ms, 4 at, 5 right, 8 found, 9 best, 10 i, 11 x] -/
def ref_MarksNear_c : SCode :=
  (.seq (.ops [⟨(some 6), .mov (.c (.int .i64 0)), none, false⟩,
    ⟨(some 7), .mov (.c (.int .i64 0)), none, false⟩] none [0, 1, 2])
  (.seq (.seq (.ops [⟨(some 12), .mov (.t 0), none, false⟩,
    ⟨(some 13), .len false (.t 12), none, false⟩,
    ⟨(some 14), .bin .none .gtr (.t 13) (.c (.int .i64 60)), none, false⟩] none [0, 1, 2, 14])
  (.cond (.t 14)
    (.seq (.ops [⟨(some 6), .mov (.c (.int .i64 0)), none, false⟩,
      ⟨(some 7), .mov (.c (.int .i64 1)), none, false⟩] none [6, 7])
    .ret)
    .skip))
  (.seq (.ops [⟨(some 8), .mov (.c (.bool false)), none, false⟩] none [0, 1, 2, 8])
  (.seq (.ops [⟨(some 9), .mov (.c (.int .i64 0)), none, false⟩] none [0, 1, 2, 8, 9])
  (.seq (.seq (.ops [⟨(some 15), .mov (.t 0), none, false⟩,
    ⟨(some 16), .len false (.t 15), none, false⟩,
    ⟨(some 17), .bin .none .sub (.t 16) (.c (.int .i64 1)), none, false⟩,
    ⟨(some 10), .mov (.t 17), none, false⟩] none [0, 1, 2, 8, 9, 10])
  (.block 0 (.loop [0, 1, 2] [8, 9, 10] 0
    (.seq (.seq (.ops [⟨(some 18), .mov (.t 10), none, false⟩,
      ⟨(some 19), .bin .none .geq (.t 18) (.c (.int .i64 0)), none, false⟩] none [0, 1, 2, 8, 9, 10, 19])
    (.cond (.t 19)
      .skip
      (.exit 0)))
    (.join [0, 1, 2, 10] [8, 9] 0 (.block 1 (.seq (.ops [⟨(some 22), .mov (.t 0), none, false⟩,
        ⟨(some 23), .mov (.t 10), none, false⟩,
        ⟨(some 24), .iaddr 2 none (.t 22) (.t 23), none, false⟩,
        ⟨(some 25), .faddr 0 (.t 24), none, false⟩,
        ⟨(some 26), .load 1 false (.t 25), none, false⟩,
        ⟨(some 11), .mov (.t 26), none, false⟩] none [0, 1, 2, 8, 9, 10, 11])
      (.seq (.seq (.ops [⟨(some 27), .mov (.t 2), none, false⟩,
        ⟨(some 28), .mov (.t 27), none, true⟩,
        ⟨(some 29), .mov (.t 11), (some (28, true)), false⟩,
        ⟨(some 30), .mov (.t 1), (some (28, true)), false⟩,
        ⟨(some 31), .bin .none .lss (.t 29) (.t 30), (some (28, true)), false⟩,
        ⟨(some 32), .pick (.t 28) (.t 31) (.c (.bool false)), none, false⟩,
        ⟨(some 33), .mov (.t 32), none, true⟩,
        ⟨(some 34), .mov (.t 2), (some (33, false)), false⟩,
        ⟨(some 35), .not (.t 34), (some (33, false)), false⟩,
        ⟨(some 36), .mov (.t 35), (some (33, false)), true⟩,
        ⟨(some 37), .mov (.t 11), (some (36, true)), false⟩,
        ⟨(some 38), .mov (.t 1), (some (36, true)), false⟩,
        ⟨(some 39), .bin .none .gtr (.t 37) (.t 38), (some (36, true)), false⟩,
        ⟨(some 40), .pick (.t 36) (.t 39) (.c (.bool false)), (some (33, false)), false⟩,
        ⟨(some 41), .pick (.t 33) (.c (.bool true)) (.t 40), none, false⟩] none [0, 1, 2, 8, 9, 10, 11, 41])
      (.cond (.t 41)
        (.exit 1)
        .skip))
      (.seq (.ops [⟨(some 42), .mov (.t 8), none, false⟩,
        ⟨(some 43), .not (.t 42), none, false⟩,
        ⟨(some 44), .mov (.t 43), none, true⟩,
        ⟨(some 45), .mov (.t 2), (some (44, false)), false⟩,
        ⟨(some 46), .mov (.t 45), (some (44, false)), true⟩,
        ⟨(some 47), .mov (.t 11), (some (46, true)), false⟩,
        ⟨(some 48), .mov (.t 0), (some (46, true)), false⟩,
        ⟨(some 49), .mov (.t 9), (some (46, true)), false⟩,
        ⟨(some 50), .iaddr 2 none (.t 48) (.t 49), (some (46, true)), false⟩,
        ⟨(some 51), .faddr 0 (.t 50), (some (46, true)), false⟩,
        ⟨(some 52), .load 1 false (.t 51), (some (46, true)), false⟩,
        ⟨(some 53), .bin .none .leq (.t 47) (.t 52), (some (46, true)), false⟩,
        ⟨(some 54), .pick (.t 46) (.t 53) (.c (.bool false)), (some (44, false)), false⟩,
        ⟨(some 55), .pick (.t 44) (.c (.bool true)) (.t 54), none, false⟩,
        ⟨(some 56), .mov (.t 55), none, true⟩,
        ⟨(some 57), .mov (.t 2), (some (56, false)), false⟩,
        ⟨(some 58), .not (.t 57), (some (56, false)), false⟩,
        ⟨(some 59), .mov (.t 58), (some (56, false)), true⟩,
        ⟨(some 60), .mov (.t 11), (some (59, true)), false⟩,
        ⟨(some 61), .mov (.t 0), (some (59, true)), false⟩,
        ⟨(some 62), .mov (.t 9), (some (59, true)), false⟩,
        ⟨(some 63), .iaddr 2 none (.t 61) (.t 62), (some (59, true)), false⟩,
        ⟨(some 64), .faddr 0 (.t 63), (some (59, true)), false⟩,
        ⟨(some 65), .load 1 false (.t 64), (some (59, true)), false⟩,
        ⟨(some 66), .bin .none .geq (.t 60) (.t 65), (some (59, true)), false⟩,
        ⟨(some 67), .pick (.t 59) (.t 66) (.c (.bool false)), (some (56, false)), false⟩,
        ⟨(some 68), .pick (.t 56) (.c (.bool true)) (.t 67), none, false⟩] none [0, 1, 2, 8, 9, 10, 68])
      (.cond (.t 68)
        (.seq (.ops [⟨(some 69), .mov (.t 10), none, false⟩,
          ⟨(some 9), .mov (.t 69), none, false⟩] none [0, 1, 2, 9, 10])
        (.ops [⟨(some 8), .mov (.c (.bool true)), none, false⟩] none [0, 1, 2, 8, 9, 10]))
        .skip)))))
    (.ops [⟨(some 20), .mov (.t 10), none, false⟩,
      ⟨(some 21), .bin .none .sub (.t 20) (.c (.int .i64 1)), none, false⟩,
      ⟨(some 10), .mov (.t 21), none, false⟩] none [0, 1, 2, 8, 9, 10]))))))
  (.seq (.seq (.ops [⟨(some 70), .mov (.t 8), none, false⟩,
    ⟨(some 71), .not (.t 70), none, false⟩] none [9, 71])
  (.cond (.t 71)
    (.seq (.ops [⟨(some 6), .mov (.c (.int .i64 0)), none, false⟩,
      ⟨(some 7), .mov (.c (.int .i64 7)), none, false⟩] none [6, 7])
    .ret)
    .skip))
  (.seq (.ops [⟨(some 72), .mov (.t 9), none, false⟩,
    ⟨(some 6), .mov (.t 72), none, false⟩,
    ⟨(some 7), .mov (.c (.int .i64 0)), none, false⟩] none [6, 7])
  .ret)))))))
def ref_MarksNear_r : List RRes := [.tmp 6, .tmp 7]
def ref_MarksNear_hi : Hi := ⟨[], [(0, "ms"), (1, "at"), (2, "right"), (3, "ms"), (4, "at"), (5, "right"), (8, "found"), (9, "best"), (10, "i"), (11, "x")]⟩
def ref_MarksNear_an : An := (.seq .d (.seq .d (.seq .d (.seq .d (.seq (.seq .d (.loop [] [] [] .d)) .d)))))
def ref_MarksNear_fi : Fi := ⟨73, ref_MarksNear_c, ref_MarksNear_r, ref_MarksNear_an, ref_MarksNear_hi⟩
theorem ref_MarksNear_ok : FiOk Try.prog f_ref_MarksNear ref_MarksNear_fi :=
  ⟨by kernel_rfl, fun h hlen => fun_sound (fn := Try.f31) (draw_sound _ _) Try.func31 rfl (by kernel_rfl : comp Try.prog 73 _ ref_MarksNear_c = some ref_MarksNear_c) (by kernel_rfl : cRes Try.prog Try.f31.results.toList = some ref_MarksNear_r) hlen h⟩

/-- fustian/fustianlaw.MarksNears: slots [0 ms, 1 at, 2 right, 3 ms, 4 at, 5 right, 7 x, 8 e, 9 y, 10 f] -/
def law_MarksNears_c : SCode :=
  (.seq (.ops [⟨(some 6), .mov (.c (.bool false)), none, false⟩] none [0, 1, 2])
  (.seq (.ops [⟨(some 12), .mov (.t 0), none, false⟩,
    ⟨(some 13), .mov (.t 1), none, false⟩,
    ⟨(some 14), .mov (.t 2), none, false⟩,
    ⟨(some 15), .call f_marks_Near [(.t 12), (.t 13), (.t 14)], none, false⟩,
    ⟨(some 11), .mov (.t 15), none, false⟩,
    ⟨(some 16), .extract (.t 11) 0, none, false⟩,
    ⟨(some 17), .extract (.t 11) 1, none, false⟩,
    ⟨(some 7), .mov (.t 16), none, false⟩,
    ⟨(some 8), .mov (.t 17), none, false⟩] none [0, 1, 2, 7, 8])
  (.seq (.ops [⟨(some 19), .mov (.t 0), none, false⟩,
    ⟨(some 20), .mov (.t 1), none, false⟩,
    ⟨(some 21), .mov (.t 2), none, false⟩,
    ⟨(some 22), .call f_ref_MarksNear [(.t 19), (.t 20), (.t 21)], none, false⟩,
    ⟨(some 18), .mov (.t 22), none, false⟩,
    ⟨(some 23), .extract (.t 18) 0, none, false⟩,
    ⟨(some 24), .extract (.t 18) 1, none, false⟩,
    ⟨(some 9), .mov (.t 23), none, false⟩,
    ⟨(some 10), .mov (.t 24), none, false⟩] none [7, 8, 9, 10])
  (.seq (.ops [⟨(some 25), .mov (.t 7), none, false⟩,
    ⟨(some 26), .mov (.t 9), none, false⟩,
    ⟨(some 27), .bin .none .eql (.t 25) (.t 26), none, false⟩,
    ⟨(some 28), .mov (.t 27), none, true⟩,
    ⟨(some 29), .mov (.t 8), (some (28, true)), false⟩,
    ⟨(some 30), .mov (.t 10), (some (28, true)), false⟩,
    ⟨(some 31), .bin .none .eql (.t 29) (.t 30), (some (28, true)), false⟩,
    ⟨(some 32), .pick (.t 28) (.t 31) (.c (.bool false)), none, false⟩,
    ⟨(some 6), .mov (.t 32), none, false⟩] none [6])
  .ret))))
def law_MarksNears_r : List RRes := [.tmp 6]
def law_MarksNears_hi : Hi := ⟨[], [(0, "ms"), (1, "at"), (2, "right"), (3, "ms"), (4, "at"), (5, "right"), (7, "x"), (8, "e"), (9, "y"), (10, "f")]⟩
def law_MarksNears_an : An := .d
def law_MarksNears_fi : Fi := ⟨33, law_MarksNears_c, law_MarksNears_r, law_MarksNears_an, law_MarksNears_hi⟩
theorem law_MarksNears_ok : FiOk Try.prog f_law_MarksNears law_MarksNears_fi :=
  ⟨by kernel_rfl, fun h hlen => fun_sound (fn := Try.f11) (draw_sound _ _) Try.func11 rfl (by kernel_rfl : comp Try.prog 33 _ law_MarksNears_c = some law_MarksNears_c) (by kernel_rfl : cRes Try.prog Try.f11.results.toList = some law_MarksNears_r) hlen h⟩

end Go.Proofs.Ytgnhlecfladigaa
