/- The functions' simplified code, printed by a program of the claim's author; each is checked against the program's own code. Conditions: none. -/
import Derived.Test.YtgnhlecfladigaaProg
import Derived.Test.YtgnhlecfladigaaVyM
set_option linter.unusedVariables false
set_option maxRecDepth 100000
namespace Go.Proofs.Ytgnhlecfladigaa
open Go.Vc
abbrev f_gosem_cut_init : Nat := 2
abbrev f_law_Names : Nat := 3
abbrev f_law_PolyMays : Nat := 4
abbrev f_law_PosMays : Nat := 5
abbrev f_law_PolyOfs : Nat := 6
abbrev f_law_PolyJoins : Nat := 7
abbrev f_law_EditChecks : Nat := 8
abbrev f_law_SpansMays : Nat := 9
abbrev f_law_LinesStarts : Nat := 10
abbrev f_law_MarksNears : Nat := 11
abbrev f_law_PosJoins : Nat := 12
abbrev f_law_EditPlaces : Nat := 13
abbrev f_law_FindBorders : Nat := 14
abbrev f_poly_May : Nat := 15
abbrev f_ref_PolyMay : Nat := 16
abbrev f_pos_May : Nat := 17
abbrev f_ref_PosMay : Nat := 18
abbrev f_poly_Of : Nat := 19
abbrev f_ref_PolyOf : Nat := 20
abbrev f_poly_Join : Nat := 21
abbrev f_ref_PolyJoin : Nat := 22
abbrev f_edit_Check : Nat := 23
abbrev f_ref_EditFault : Nat := 24
abbrev f_spans_May : Nat := 25
abbrev f_ref_SpansMay : Nat := 26
abbrev f_lines_Starts : Nat := 27
abbrev f_ref_LinesStarts : Nat := 28
abbrev f_law_sameInts : Nat := 29
abbrev f_marks_Near : Nat := 30
abbrev f_ref_MarksNear : Nat := 31
abbrev f_pos_Join : Nat := 32
abbrev f_ref_PosJoin : Nat := 33
abbrev f_edit_Place : Nat := 34
abbrev f_ref_EditPlace : Nat := 35
abbrev f_find_Border : Nat := 36
abbrev f_ref_FindBorder : Nat := 37
abbrev f_lines_Of : Nat := 38
abbrev f_ref_cutLines : Nat := 39
abbrev f_edit_Moved : Nat := 40
abbrev f_ref_editPlace : Nat := 41
abbrev f_find_border : Nat := 42

/-- fustian/edit.Moved: slots [0 e, 1 at, 2 right, 3 e, 4 at, 5 right] -/
def edit_Moved_c : SCode :=
  (.seq (.ops [⟨(some 3), .box 0 (.t 0), none, false⟩,
    ⟨(some 6), .mov (.c (.int .i64 0)), none, false⟩] none [1, 2, 3])
  (.seq (.block 0 (.seq (.ops [⟨(some 8), .mov (.t 1), none, false⟩,
    ⟨(some 9), .faddr 0 (.t 3), none, false⟩,
    ⟨(some 10), .load 1 false (.t 9), none, false⟩,
    ⟨(some 11), .bin .none .lss (.t 8) (.t 10), none, false⟩,
    ⟨(some 7), .mov (.t 11), none, false⟩] none [1, 2, 3, 7])
  (.cond (.t 7)
    (.seq (.ops [⟨(some 12), .mov (.t 1), none, false⟩,
      ⟨(some 6), .mov (.t 12), none, false⟩] none [6])
    .ret)
    (.join [1, 2, 3] [13] 1 (.seq (.ops [⟨(some 14), .faddr 1 (.t 3), none, false⟩,
        ⟨(some 15), .load 1 false (.t 14), none, false⟩,
        ⟨(some 16), .bin .none .eql (.t 15) (.c (.int .i64 0)), none, false⟩,
        ⟨(some 17), .mov (.t 16), none, true⟩,
        ⟨(some 18), .mov (.t 1), (some (17, true)), false⟩,
        ⟨(some 19), .faddr 0 (.t 3), (some (17, true)), false⟩,
        ⟨(some 20), .load 1 false (.t 19), (some (17, true)), false⟩,
        ⟨(some 21), .bin .none .gtr (.t 18) (.t 20), (some (17, true)), false⟩,
        ⟨(some 22), .pick (.t 17) (.t 21) (.c (.bool false)), none, false⟩,
        ⟨(some 13), .mov (.t 22), none, false⟩] none [1, 2, 3, 13])
      (.cond (.t 13)
        .skip
        (.ops [⟨(some 23), .faddr 1 (.t 3), none, false⟩,
          ⟨(some 24), .load 1 false (.t 23), none, false⟩,
          ⟨(some 25), .bin .none .gtr (.t 24) (.c (.int .i64 0)), none, false⟩,
          ⟨(some 26), .mov (.t 25), none, true⟩,
          ⟨(some 27), .mov (.t 1), (some (26, true)), false⟩,
          ⟨(some 28), .faddr 0 (.t 3), (some (26, true)), false⟩,
          ⟨(some 29), .load 1 false (.t 28), (some (26, true)), false⟩,
          ⟨(some 30), .faddr 1 (.t 3), (some (26, true)), false⟩,
          ⟨(some 31), .load 1 false (.t 30), (some (26, true)), false⟩,
          ⟨(some 32), .bin .none .add (.t 29) (.t 31), (some (26, true)), false⟩,
          ⟨(some 33), .bin .none .geq (.t 27) (.t 32), (some (26, true)), false⟩,
          ⟨(some 34), .pick (.t 26) (.t 33) (.c (.bool false)), none, false⟩,
          ⟨(some 13), .mov (.t 34), none, false⟩] none [1, 2, 3, 13])))
    (.cond (.t 13)
      (.seq (.ops [⟨(some 35), .mov (.t 1), none, false⟩,
        ⟨(some 36), .faddr 2 (.t 3), none, false⟩,
        ⟨(some 37), .load 1 false (.t 36), none, false⟩,
        ⟨(some 38), .len true (.t 37), none, false⟩,
        ⟨(some 39), .bin .none .add (.t 35) (.t 38), none, false⟩,
        ⟨(some 40), .faddr 1 (.t 3), none, false⟩,
        ⟨(some 41), .load 1 false (.t 40), none, false⟩,
        ⟨(some 42), .bin .none .sub (.t 39) (.t 41), none, false⟩,
        ⟨(some 6), .mov (.t 42), none, false⟩] none [6])
      .ret)
      (.seq (.ops [⟨(some 44), .mov (.t 2), none, false⟩,
        ⟨(some 43), .mov (.t 44), none, false⟩] none [3, 43])
      (.cond (.t 43)
        (.seq (.ops [⟨(some 45), .faddr 0 (.t 3), none, false⟩,
          ⟨(some 46), .load 1 false (.t 45), none, false⟩,
          ⟨(some 47), .faddr 2 (.t 3), none, false⟩,
          ⟨(some 48), .load 1 false (.t 47), none, false⟩,
          ⟨(some 49), .len true (.t 48), none, false⟩,
          ⟨(some 50), .bin .none .add (.t 46) (.t 49), none, false⟩,
          ⟨(some 6), .mov (.t 50), none, false⟩] none [6])
        .ret)
        .skip)))))))
  (.seq (.ops [⟨(some 51), .faddr 0 (.t 3), none, false⟩,
    ⟨(some 52), .load 1 false (.t 51), none, false⟩,
    ⟨(some 6), .mov (.t 52), none, false⟩] none [6])
  .ret)))
def edit_Moved_r : List RRes := [.tmp 6]
def edit_Moved_hi : Hi := ⟨[], [(0, "e"), (1, "at"), (2, "right"), (3, "e"), (4, "at"), (5, "right")]⟩
def edit_Moved_an : An := .d
def edit_Moved_fi : Fi := ⟨53, edit_Moved_c, edit_Moved_r, edit_Moved_an, edit_Moved_hi⟩
theorem edit_Moved_ok : FiOk Try.prog f_edit_Moved edit_Moved_fi :=
  ⟨by kernel_rfl, fun h hlen => fun_sound (fn := Try.f40) (draw_sound _ _) Try.func40 rfl (by kernel_rfl : comp Try.prog 53 _ edit_Moved_c = some edit_Moved_c) (by kernel_rfl : cRes Try.prog Try.f40.results.toList = some edit_Moved_r) hlen h⟩

/-- fustian/edit.Place: slots [0 e, 1 at, 2 right, 3 e, 4 at, 5 right, 8 _, 9 n] -/
def edit_Place_c : SCode :=
  (.seq (.ops [⟨(some 3), .box 0 (.t 0), none, false⟩,
    ⟨(some 6), .mov (.c (.int .i64 0)), none, false⟩,
    ⟨(some 7), .mov (.c (.int .i64 0)), none, false⟩] none [1, 2, 3])
  (.seq (.seq (.ops [⟨(some 10), .faddr 0 (.t 3), none, false⟩,
    ⟨(some 11), .load 1 false (.t 10), none, false⟩,
    ⟨(some 12), .faddr 1 (.t 3), none, false⟩,
    ⟨(some 13), .load 1 false (.t 12), none, false⟩,
    ⟨(some 14), .mov (.t 1), none, false⟩,
    ⟨(some 15), .build [(.int .i64 0), (.int .i64 0), (.int .i64 0)] [(0, 1, (.t 11)), (1, 1, (.t 13)), (2, 1, (.t 14))], none, false⟩,
    ⟨(some 16), .mov (.c (.int .i64 0)), none, false⟩] none [1, 2, 3, 15, 16])
  (.block 0 (.loop [1, 2, 3, 15] [16] 1
    (.seq (.ops [⟨(some 17), .bin .none .lss (.t 16) (.c (.int .i64 3)), none, false⟩] none [1, 2, 3, 15, 16, 17])
    (.seq (.cond (.t 17)
      .skip
      (.exit 0))
    (.seq (.block 1 (.seq (.ops [⟨(some 18), .index 1 (some 3) false (.t 15) (.t 16), none, false⟩,
      ⟨(some 9), .mov (.t 18), none, false⟩] none [1, 2, 3, 9, 15, 16])
    (.seq (.ops [⟨(some 19), .mov (.t 9), none, false⟩,
      ⟨(some 20), .bin .none .lss (.t 19) (.c (.int .i64 0)), none, false⟩,
      ⟨(some 21), .mov (.t 20), none, true⟩,
      ⟨(some 22), .mov (.t 9), (some (21, false)), false⟩,
      ⟨(some 23), .bin .none .gtr (.t 22) (.c (.int .i64 1099511627776)), (some (21, false)), false⟩,
      ⟨(some 24), .pick (.t 21) (.c (.bool true)) (.t 23), none, false⟩] none [1, 2, 3, 15, 16, 24])
    (.cond (.t 24)
      (.seq (.ops [⟨(some 6), .mov (.c (.int .i64 0)), none, false⟩,
        ⟨(some 7), .mov (.c (.int .i64 2)), none, false⟩] none [6, 7])
      .ret)
      .skip))))
    (.ops [⟨(some 25), .bin .none .add (.t 16) (.c (.int .i64 1)), none, false⟩,
      ⟨(some 16), .mov (.t 25), none, false⟩] none [1, 2, 3, 15, 16])))))))
  (.seq (.ops [⟨(some 26), .load 3 true (.t 3), none, false⟩,
    ⟨(some 27), .mov (.t 1), none, false⟩,
    ⟨(some 28), .mov (.t 2), none, false⟩,
    ⟨(some 29), .call f_edit_Moved [(.t 26), (.t 27), (.t 28)], none, false⟩,
    ⟨(some 6), .mov (.t 29), none, false⟩,
    ⟨(some 7), .mov (.c (.int .i64 0)), none, false⟩] none [6, 7])
  .ret)))
def edit_Place_r : List RRes := [.tmp 6, .tmp 7]
def edit_Place_hi : Hi := ⟨[], [(0, "e"), (1, "at"), (2, "right"), (3, "e"), (4, "at"), (5, "right"), (9, "n")]⟩
def edit_Place_an : An := (.seq .d (.seq (.seq .d (.loop [] [] [] .d)) .d))
def edit_Place_fi : Fi := ⟨30, edit_Place_c, edit_Place_r, edit_Place_an, edit_Place_hi⟩
theorem edit_Place_ok : FiOk Try.prog f_edit_Place edit_Place_fi :=
  ⟨by kernel_rfl, fun h hlen => fun_sound (fn := Try.f34) (draw_sound _ _) Try.func34 rfl (by kernel_rfl : comp Try.prog 30 _ edit_Place_c = some edit_Place_c) (by kernel_rfl : cRes Try.prog Try.f34.results.toList = some edit_Place_r) hlen h⟩

/-- fustian/fustianref.editPlace: slots [0 e, 1 at, 2 right, 3 e, 4 at, 5 right] -/
def ref_editPlace_c : SCode :=
  (.seq (.ops [⟨(some 3), .box 0 (.t 0), none, false⟩,
    ⟨(some 6), .mov (.c (.int .i64 0)), none, false⟩] none [1, 2, 3])
  (.seq (.seq (.ops [⟨(some 7), .mov (.t 1), none, false⟩,
    ⟨(some 8), .faddr 0 (.t 3), none, false⟩,
    ⟨(some 9), .load 1 false (.t 8), none, false⟩,
    ⟨(some 10), .bin .none .lss (.t 7) (.t 9), none, false⟩] none [1, 2, 3, 10])
  (.cond (.t 10)
    (.seq (.ops [⟨(some 11), .mov (.t 1), none, false⟩,
      ⟨(some 6), .mov (.t 11), none, false⟩] none [6])
    .ret)
    .skip))
  (.seq (.seq (.ops [⟨(some 12), .mov (.t 1), none, false⟩,
    ⟨(some 13), .faddr 0 (.t 3), none, false⟩,
    ⟨(some 14), .load 1 false (.t 13), none, false⟩,
    ⟨(some 15), .faddr 1 (.t 3), none, false⟩,
    ⟨(some 16), .load 1 false (.t 15), none, false⟩,
    ⟨(some 17), .bin .none .add (.t 14) (.t 16), none, false⟩,
    ⟨(some 18), .bin .none .geq (.t 12) (.t 17), none, false⟩,
    ⟨(some 19), .mov (.t 18), none, true⟩,
    ⟨(some 20), .faddr 1 (.t 3), (some (19, true)), false⟩,
    ⟨(some 21), .load 1 false (.t 20), (some (19, true)), false⟩,
    ⟨(some 22), .bin .none .eql (.t 21) (.c (.int .i64 0)), (some (19, true)), false⟩,
    ⟨(some 23), .mov (.t 22), (some (19, true)), true⟩,
    ⟨(some 24), .mov (.t 1), (some (23, true)), false⟩,
    ⟨(some 25), .faddr 0 (.t 3), (some (23, true)), false⟩,
    ⟨(some 26), .load 1 false (.t 25), (some (23, true)), false⟩,
    ⟨(some 27), .bin .none .eql (.t 24) (.t 26), (some (23, true)), false⟩,
    ⟨(some 28), .pick (.t 23) (.t 27) (.c (.bool false)), (some (19, true)), false⟩,
    ⟨(some 29), .not (.t 28), (some (19, true)), false⟩,
    ⟨(some 30), .pick (.t 19) (.t 29) (.c (.bool false)), none, false⟩] none [1, 2, 3, 30])
  (.cond (.t 30)
    (.seq (.ops [⟨(some 31), .mov (.t 1), none, false⟩,
      ⟨(some 32), .faddr 1 (.t 3), none, false⟩,
      ⟨(some 33), .load 1 false (.t 32), none, false⟩,
      ⟨(some 34), .bin .none .sub (.t 31) (.t 33), none, false⟩,
      ⟨(some 35), .faddr 2 (.t 3), none, false⟩,
      ⟨(some 36), .load 1 false (.t 35), none, false⟩,
      ⟨(some 37), .len true (.t 36), none, false⟩,
      ⟨(some 38), .bin .none .add (.t 34) (.t 37), none, false⟩,
      ⟨(some 6), .mov (.t 38), none, false⟩] none [6])
    .ret)
    .skip))
  (.seq (.seq (.ops [⟨(some 39), .mov (.t 2), none, false⟩] none [3, 39])
  (.cond (.t 39)
    (.seq (.ops [⟨(some 40), .faddr 0 (.t 3), none, false⟩,
      ⟨(some 41), .load 1 false (.t 40), none, false⟩,
      ⟨(some 42), .faddr 2 (.t 3), none, false⟩,
      ⟨(some 43), .load 1 false (.t 42), none, false⟩,
      ⟨(some 44), .len true (.t 43), none, false⟩,
      ⟨(some 45), .bin .none .add (.t 41) (.t 44), none, false⟩,
      ⟨(some 6), .mov (.t 45), none, false⟩] none [6])
    .ret)
    .skip))
  (.seq (.ops [⟨(some 46), .faddr 0 (.t 3), none, false⟩,
    ⟨(some 47), .load 1 false (.t 46), none, false⟩,
    ⟨(some 6), .mov (.t 47), none, false⟩] none [6])
  .ret)))))
def ref_editPlace_r : List RRes := [.tmp 6]
def ref_editPlace_hi : Hi := ⟨[], [(0, "e"), (1, "at"), (2, "right"), (3, "e"), (4, "at"), (5, "right")]⟩
def ref_editPlace_an : An := .d
def ref_editPlace_fi : Fi := ⟨48, ref_editPlace_c, ref_editPlace_r, ref_editPlace_an, ref_editPlace_hi⟩
theorem ref_editPlace_ok : FiOk Try.prog f_ref_editPlace ref_editPlace_fi :=
  ⟨by kernel_rfl, fun h hlen => fun_sound (fn := Try.f41) (draw_sound _ _) Try.func41 rfl (by kernel_rfl : comp Try.prog 48 _ ref_editPlace_c = some ref_editPlace_c) (by kernel_rfl : cRes Try.prog Try.f41.results.toList = some ref_editPlace_r) hlen h⟩

/-- fustian/fustianref.EditPlace: slots [0 e, 1 at, 2 right, 3 e, 4 at, 5 right] -/
def ref_EditPlace_c : SCode :=
  (.seq (.ops [⟨(some 3), .box 0 (.t 0), none, false⟩,
    ⟨(some 6), .mov (.c (.int .i64 0)), none, false⟩,
    ⟨(some 7), .mov (.c (.int .i64 0)), none, false⟩] none [1, 2, 3])
  (.seq (.seq (.ops [⟨(some 8), .faddr 0 (.t 3), none, false⟩,
    ⟨(some 9), .load 1 false (.t 8), none, false⟩,
    ⟨(some 10), .bin .none .lss (.t 9) (.c (.int .i64 0)), none, false⟩,
    ⟨(some 11), .mov (.t 10), none, true⟩,
    ⟨(some 12), .faddr 1 (.t 3), (some (11, false)), false⟩,
    ⟨(some 13), .load 1 false (.t 12), (some (11, false)), false⟩,
    ⟨(some 14), .bin .none .lss (.t 13) (.c (.int .i64 0)), (some (11, false)), false⟩,
    ⟨(some 15), .pick (.t 11) (.c (.bool true)) (.t 14), none, false⟩,
    ⟨(some 16), .mov (.t 15), none, true⟩,
    ⟨(some 17), .mov (.t 1), (some (16, false)), false⟩,
    ⟨(some 18), .bin .none .lss (.t 17) (.c (.int .i64 0)), (some (16, false)), false⟩,
    ⟨(some 19), .pick (.t 16) (.c (.bool true)) (.t 18), none, false⟩,
    ⟨(some 20), .mov (.t 19), none, true⟩,
    ⟨(some 21), .faddr 0 (.t 3), (some (20, false)), false⟩,
    ⟨(some 22), .load 1 false (.t 21), (some (20, false)), false⟩,
    ⟨(some 23), .bin .none .gtr (.t 22) (.c (.int .i64 1099511627776)), (some (20, false)), false⟩,
    ⟨(some 24), .pick (.t 20) (.c (.bool true)) (.t 23), none, false⟩,
    ⟨(some 25), .mov (.t 24), none, true⟩,
    ⟨(some 26), .faddr 1 (.t 3), (some (25, false)), false⟩,
    ⟨(some 27), .load 1 false (.t 26), (some (25, false)), false⟩,
    ⟨(some 28), .bin .none .gtr (.t 27) (.c (.int .i64 1099511627776)), (some (25, false)), false⟩,
    ⟨(some 29), .pick (.t 25) (.c (.bool true)) (.t 28), none, false⟩,
    ⟨(some 30), .mov (.t 29), none, true⟩,
    ⟨(some 31), .mov (.t 1), (some (30, false)), false⟩,
    ⟨(some 32), .bin .none .gtr (.t 31) (.c (.int .i64 1099511627776)), (some (30, false)), false⟩,
    ⟨(some 33), .pick (.t 30) (.c (.bool true)) (.t 32), none, false⟩] none [1, 2, 3, 33])
  (.cond (.t 33)
    (.seq (.ops [⟨(some 6), .mov (.c (.int .i64 0)), none, false⟩,
      ⟨(some 7), .mov (.c (.int .i64 2)), none, false⟩] none [6, 7])
    .ret)
    .skip))
  (.seq (.ops [⟨(some 34), .load 3 true (.t 3), none, false⟩,
    ⟨(some 35), .mov (.t 1), none, false⟩,
    ⟨(some 36), .mov (.t 2), none, false⟩,
    ⟨(some 37), .call f_ref_editPlace [(.t 34), (.t 35), (.t 36)], none, false⟩,
    ⟨(some 6), .mov (.t 37), none, false⟩,
    ⟨(some 7), .mov (.c (.int .i64 0)), none, false⟩] none [6, 7])
  .ret)))
def ref_EditPlace_r : List RRes := [.tmp 6, .tmp 7]
def ref_EditPlace_hi : Hi := ⟨[], [(0, "e"), (1, "at"), (2, "right"), (3, "e"), (4, "at"), (5, "right")]⟩
def ref_EditPlace_an : An := .d
def ref_EditPlace_fi : Fi := ⟨38, ref_EditPlace_c, ref_EditPlace_r, ref_EditPlace_an, ref_EditPlace_hi⟩
theorem ref_EditPlace_ok : FiOk Try.prog f_ref_EditPlace ref_EditPlace_fi :=
  ⟨by kernel_rfl, fun h hlen => fun_sound (fn := Try.f35) (draw_sound _ _) Try.func35 rfl (by kernel_rfl : comp Try.prog 38 _ ref_EditPlace_c = some ref_EditPlace_c) (by kernel_rfl : cRes Try.prog Try.f35.results.toList = some ref_EditPlace_r) hlen h⟩

/-- fustian/fustianlaw.EditPlaces: slots [0 x, 1 at, 2 right, 3 x, 4 at, 5 right, 7 n, 8 e, 9 m, 10 f] -/
def law_EditPlaces_c : SCode :=
  (.seq (.ops [⟨(some 3), .box 0 (.t 0), none, false⟩,
    ⟨(some 6), .mov (.c (.bool false)), none, false⟩] none [1, 2, 3])
  (.seq (.ops [⟨(some 12), .load 3 true (.t 3), none, false⟩,
    ⟨(some 13), .mov (.t 1), none, false⟩,
    ⟨(some 14), .mov (.t 2), none, false⟩,
    ⟨(some 15), .call f_edit_Place [(.t 12), (.t 13), (.t 14)], none, false⟩,
    ⟨(some 11), .mov (.t 15), none, false⟩,
    ⟨(some 16), .extract (.t 11) 0, none, false⟩,
    ⟨(some 17), .extract (.t 11) 1, none, false⟩,
    ⟨(some 7), .mov (.t 16), none, false⟩,
    ⟨(some 8), .mov (.t 17), none, false⟩] none [1, 2, 3, 7, 8])
  (.seq (.ops [⟨(some 19), .load 3 true (.t 3), none, false⟩,
    ⟨(some 20), .mov (.t 1), none, false⟩,
    ⟨(some 21), .mov (.t 2), none, false⟩,
    ⟨(some 22), .call f_ref_EditPlace [(.t 19), (.t 20), (.t 21)], none, false⟩,
    ⟨(some 18), .mov (.t 22), none, false⟩,
    ⟨(some 23), .extract (.t 18) 0, none, false⟩,
    ⟨(some 24), .extract (.t 18) 1, none, false⟩,
    ⟨(some 9), .mov (.t 23), none, false⟩,
    ⟨(some 10), .mov (.t 24), none, false⟩] none [7, 8, 9, 10])
  (.seq (.ops [⟨(some 25), .mov (.t 7), none, false⟩,
    ⟨(some 26), .mov (.t 9), none, false⟩,
    ⟨(some 27), .bin .none .eql (.t 25) (.t 26), none, false⟩,
    ⟨(some 28), .mov (.t 27), none, true⟩,
    ⟨(some 29), .mov (.t 8), (some (28, true)), false⟩,
    ⟨(some 30), .mov (.t 10), (some (28, true)), false⟩,
    ⟨(some 31), .bin .none .eql (.t 29) (.t 30), (some (28, true)), false⟩,
    ⟨(some 32), .pick (.t 28) (.t 31) (.c (.bool false)), none, false⟩,
    ⟨(some 6), .mov (.t 32), none, false⟩] none [6])
  .ret))))
def law_EditPlaces_r : List RRes := [.tmp 6]
def law_EditPlaces_hi : Hi := ⟨[], [(0, "x"), (1, "at"), (2, "right"), (3, "x"), (4, "at"), (5, "right"), (7, "n"), (8, "e"), (9, "m"), (10, "f")]⟩
def law_EditPlaces_an : An := .d
def law_EditPlaces_fi : Fi := ⟨33, law_EditPlaces_c, law_EditPlaces_r, law_EditPlaces_an, law_EditPlaces_hi⟩
theorem law_EditPlaces_ok : FiOk Try.prog f_law_EditPlaces law_EditPlaces_fi :=
  ⟨by kernel_rfl, fun h hlen => fun_sound (fn := Try.f13) (draw_sound _ _) Try.func13 rfl (by kernel_rfl : comp Try.prog 33 _ law_EditPlaces_c = some law_EditPlaces_c) (by kernel_rfl : cRes Try.prog Try.f13.results.toList = some law_EditPlaces_r) hlen h⟩

end Go.Proofs.Ytgnhlecfladigaa
