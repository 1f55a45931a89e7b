/- The functions' simplified code, printed by a program of the claim's author; each is checked against the program's own code. Conditions: none. -/
import Derived.Test.YtgnhlecfladigaaProg
import Derived.Test.YtgnhlecfladigaaVyM
set_option linter.unusedVariables false
set_option maxRecDepth 100000
namespace Go.Proofs.Ytgnhlecfladigaa
open Go.Vc
abbrev f_gosem_cut_init : Nat := 2
abbrev f_law_Names : Nat := 3
abbrev f_law_PolyMays : Nat := 4
abbrev f_law_PosMays : Nat := 5
abbrev f_law_PolyOfs : Nat := 6
abbrev f_law_PolyJoins : Nat := 7
abbrev f_law_EditChecks : Nat := 8
abbrev f_law_SpansMays : Nat := 9
abbrev f_law_LinesStarts : Nat := 10
abbrev f_law_MarksNears : Nat := 11
abbrev f_law_PosJoins : Nat := 12
abbrev f_law_EditPlaces : Nat := 13
abbrev f_law_FindBorders : Nat := 14
abbrev f_poly_May : Nat := 15
abbrev f_ref_PolyMay : Nat := 16
abbrev f_pos_May : Nat := 17
abbrev f_ref_PosMay : Nat := 18
abbrev f_poly_Of : Nat := 19
abbrev f_ref_PolyOf : Nat := 20
abbrev f_poly_Join : Nat := 21
abbrev f_ref_PolyJoin : Nat := 22
abbrev f_edit_Check : Nat := 23
abbrev f_ref_EditFault : Nat := 24
abbrev f_spans_May : Nat := 25
abbrev f_ref_SpansMay : Nat := 26
abbrev f_lines_Starts : Nat := 27
abbrev f_ref_LinesStarts : Nat := 28
abbrev f_law_sameInts : Nat := 29
abbrev f_marks_Near : Nat := 30
abbrev f_ref_MarksNear : Nat := 31
abbrev f_pos_Join : Nat := 32
abbrev f_ref_PosJoin : Nat := 33
abbrev f_edit_Place : Nat := 34
abbrev f_ref_EditPlace : Nat := 35
abbrev f_find_Border : Nat := 36
abbrev f_ref_FindBorder : Nat := 37
abbrev f_lines_Of : Nat := 38
abbrev f_ref_cutLines : Nat := 39
abbrev f_edit_Moved : Nat := 40
abbrev f_ref_editPlace : Nat := 41
abbrev f_find_border : Nat := 42

/-- fustian/edit.Check: slots [0 size, 1 e, 2 size, 3 e] -/
def edit_Check_c : SCode :=
  (.seq (.ops [⟨(some 3), .box 0 (.t 1), none, false⟩,
    ⟨(some 4), .mov (.c (.int .i64 0)), none, false⟩] none [0, 3])
  (.seq (.block 0 (.seq (.ops [⟨(some 6), .mov (.t 0), none, false⟩,
    ⟨(some 7), .bin .none .lss (.t 6) (.c (.int .i64 0)), none, false⟩,
    ⟨(some 8), .mov (.t 7), none, true⟩,
    ⟨(some 9), .mov (.t 0), (some (8, false)), false⟩,
    ⟨(some 10), .bin .none .gtr (.t 9) (.c (.int .i64 600)), (some (8, false)), false⟩,
    ⟨(some 11), .pick (.t 8) (.c (.bool true)) (.t 10), none, false⟩,
    ⟨(some 12), .mov (.t 11), none, true⟩,
    ⟨(some 13), .faddr 0 (.t 3), (some (12, false)), false⟩,
    ⟨(some 14), .load 1 false (.t 13), (some (12, false)), false⟩,
    ⟨(some 15), .bin .none .lss (.t 14) (.c (.int .i64 0)), (some (12, false)), false⟩,
    ⟨(some 16), .pick (.t 12) (.c (.bool true)) (.t 15), none, false⟩,
    ⟨(some 17), .mov (.t 16), none, true⟩,
    ⟨(some 18), .faddr 0 (.t 3), (some (17, false)), false⟩,
    ⟨(some 19), .load 1 false (.t 18), (some (17, false)), false⟩,
    ⟨(some 20), .mov (.t 0), (some (17, false)), false⟩,
    ⟨(some 21), .bin .none .gtr (.t 19) (.t 20), (some (17, false)), false⟩,
    ⟨(some 22), .pick (.t 17) (.c (.bool true)) (.t 21), none, false⟩,
    ⟨(some 23), .mov (.t 22), none, true⟩,
    ⟨(some 24), .faddr 1 (.t 3), (some (23, false)), false⟩,
    ⟨(some 25), .load 1 false (.t 24), (some (23, false)), false⟩,
    ⟨(some 26), .bin .none .lss (.t 25) (.c (.int .i64 0)), (some (23, false)), false⟩,
    ⟨(some 27), .pick (.t 23) (.c (.bool true)) (.t 26), none, false⟩,
    ⟨(some 28), .mov (.t 27), none, true⟩,
    ⟨(some 29), .faddr 1 (.t 3), (some (28, false)), false⟩,
    ⟨(some 30), .load 1 false (.t 29), (some (28, false)), false⟩,
    ⟨(some 31), .mov (.t 0), (some (28, false)), false⟩,
    ⟨(some 32), .faddr 0 (.t 3), (some (28, false)), false⟩,
    ⟨(some 33), .load 1 false (.t 32), (some (28, false)), false⟩,
    ⟨(some 34), .bin .none .sub (.t 31) (.t 33), (some (28, false)), false⟩,
    ⟨(some 35), .bin .none .gtr (.t 30) (.t 34), (some (28, false)), false⟩,
    ⟨(some 36), .pick (.t 28) (.c (.bool true)) (.t 35), none, false⟩,
    ⟨(some 5), .mov (.t 36), none, false⟩] none [0, 3, 5])
  (.cond (.t 5)
    (.seq (.ops [⟨(some 4), .mov (.c (.int .i64 2)), none, false⟩] none [4])
    .ret)
    (.seq (.ops [⟨(some 38), .mov (.t 0), none, false⟩,
      ⟨(some 39), .faddr 1 (.t 3), none, false⟩,
      ⟨(some 40), .load 1 false (.t 39), none, false⟩,
      ⟨(some 41), .bin .none .sub (.t 38) (.t 40), none, false⟩,
      ⟨(some 42), .faddr 2 (.t 3), none, false⟩,
      ⟨(some 43), .load 1 false (.t 42), none, false⟩,
      ⟨(some 44), .len true (.t 43), none, false⟩,
      ⟨(some 45), .bin .none .add (.t 41) (.t 44), none, false⟩,
      ⟨(some 46), .bin .none .gtr (.t 45) (.c (.int .i64 600)), none, false⟩,
      ⟨(some 37), .mov (.t 46), none, false⟩] none [37])
    (.cond (.t 37)
      (.seq (.ops [⟨(some 4), .mov (.c (.int .i64 1)), none, false⟩] none [4])
      .ret)
      .skip)))))
  (.seq (.ops [⟨(some 4), .mov (.c (.int .i64 0)), none, false⟩] none [4])
  .ret)))
def edit_Check_r : List RRes := [.tmp 4]
def edit_Check_hi : Hi := ⟨[], [(0, "size"), (1, "e"), (2, "size"), (3, "e")]⟩
def edit_Check_an : An := .d
def edit_Check_fi : Fi := ⟨47, edit_Check_c, edit_Check_r, edit_Check_an, edit_Check_hi⟩
theorem edit_Check_ok : FiOk Try.prog f_edit_Check edit_Check_fi :=
  ⟨by kernel_rfl, fun h hlen => fun_sound (fn := Try.f23) (draw_sound _ _) Try.func23 rfl (by kernel_rfl : comp Try.prog 47 _ edit_Check_c = some edit_Check_c) (by kernel_rfl : cRes Try.prog Try.f23.results.toList = some edit_Check_r) hlen h⟩

/-- fustian/fustianref.EditFault: slots [0 size, 1 e, 2 size, 3 e] -/
def ref_EditFault_c : SCode :=
  (.seq (.ops [⟨(some 3), .box 0 (.t 1), none, false⟩,
    ⟨(some 4), .mov (.c (.int .i64 0)), none, false⟩] none [0, 3])
  (.seq (.seq (.ops [⟨(some 5), .mov (.t 0), none, false⟩,
    ⟨(some 6), .bin .none .lss (.t 5) (.c (.int .i64 0)), none, false⟩,
    ⟨(some 7), .mov (.t 6), none, true⟩,
    ⟨(some 8), .mov (.t 0), (some (7, false)), false⟩,
    ⟨(some 9), .bin .none .gtr (.t 8) (.c (.int .i64 600)), (some (7, false)), false⟩,
    ⟨(some 10), .pick (.t 7) (.c (.bool true)) (.t 9), none, false⟩,
    ⟨(some 11), .mov (.t 10), none, true⟩,
    ⟨(some 12), .faddr 0 (.t 3), (some (11, false)), false⟩,
    ⟨(some 13), .load 1 false (.t 12), (some (11, false)), false⟩,
    ⟨(some 14), .bin .none .lss (.t 13) (.c (.int .i64 0)), (some (11, false)), false⟩,
    ⟨(some 15), .pick (.t 11) (.c (.bool true)) (.t 14), none, false⟩,
    ⟨(some 16), .mov (.t 15), none, true⟩,
    ⟨(some 17), .faddr 1 (.t 3), (some (16, false)), false⟩,
    ⟨(some 18), .load 1 false (.t 17), (some (16, false)), false⟩,
    ⟨(some 19), .bin .none .lss (.t 18) (.c (.int .i64 0)), (some (16, false)), false⟩,
    ⟨(some 20), .pick (.t 16) (.c (.bool true)) (.t 19), none, false⟩,
    ⟨(some 21), .mov (.t 20), none, true⟩,
    ⟨(some 22), .faddr 0 (.t 3), (some (21, false)), false⟩,
    ⟨(some 23), .load 1 false (.t 22), (some (21, false)), false⟩,
    ⟨(some 24), .mov (.t 0), (some (21, false)), false⟩,
    ⟨(some 25), .bin .none .gtr (.t 23) (.t 24), (some (21, false)), false⟩,
    ⟨(some 26), .pick (.t 21) (.c (.bool true)) (.t 25), none, false⟩,
    ⟨(some 27), .mov (.t 26), none, true⟩,
    ⟨(some 28), .faddr 1 (.t 3), (some (27, false)), false⟩,
    ⟨(some 29), .load 1 false (.t 28), (some (27, false)), false⟩,
    ⟨(some 30), .mov (.t 0), (some (27, false)), false⟩,
    ⟨(some 31), .bin .none .gtr (.t 29) (.t 30), (some (27, false)), false⟩,
    ⟨(some 32), .pick (.t 27) (.c (.bool true)) (.t 31), none, false⟩,
    ⟨(some 33), .mov (.t 32), none, true⟩,
    ⟨(some 34), .faddr 0 (.t 3), (some (33, false)), false⟩,
    ⟨(some 35), .load 1 false (.t 34), (some (33, false)), false⟩,
    ⟨(some 36), .faddr 1 (.t 3), (some (33, false)), false⟩,
    ⟨(some 37), .load 1 false (.t 36), (some (33, false)), false⟩,
    ⟨(some 38), .bin .none .add (.t 35) (.t 37), (some (33, false)), false⟩,
    ⟨(some 39), .mov (.t 0), (some (33, false)), false⟩,
    ⟨(some 40), .bin .none .gtr (.t 38) (.t 39), (some (33, false)), false⟩,
    ⟨(some 41), .pick (.t 33) (.c (.bool true)) (.t 40), none, false⟩] none [0, 3, 41])
  (.cond (.t 41)
    (.seq (.ops [⟨(some 4), .mov (.c (.int .i64 2)), none, false⟩] none [4])
    .ret)
    .skip))
  (.seq (.seq (.ops [⟨(some 42), .mov (.t 0), none, false⟩,
    ⟨(some 43), .faddr 2 (.t 3), none, false⟩,
    ⟨(some 44), .load 1 false (.t 43), none, false⟩,
    ⟨(some 45), .len true (.t 44), none, false⟩,
    ⟨(some 46), .bin .none .add (.t 42) (.t 45), none, false⟩,
    ⟨(some 47), .faddr 1 (.t 3), none, false⟩,
    ⟨(some 48), .load 1 false (.t 47), none, false⟩,
    ⟨(some 49), .bin .none .sub (.t 46) (.t 48), none, false⟩,
    ⟨(some 50), .bin .none .gtr (.t 49) (.c (.int .i64 600)), none, false⟩] none [50])
  (.cond (.t 50)
    (.seq (.ops [⟨(some 4), .mov (.c (.int .i64 1)), none, false⟩] none [4])
    .ret)
    .skip))
  (.seq (.ops [⟨(some 4), .mov (.c (.int .i64 0)), none, false⟩] none [4])
  .ret))))
def ref_EditFault_r : List RRes := [.tmp 4]
def ref_EditFault_hi : Hi := ⟨[], [(0, "size"), (1, "e"), (2, "size"), (3, "e")]⟩
def ref_EditFault_an : An := .d
def ref_EditFault_fi : Fi := ⟨51, ref_EditFault_c, ref_EditFault_r, ref_EditFault_an, ref_EditFault_hi⟩
theorem ref_EditFault_ok : FiOk Try.prog f_ref_EditFault ref_EditFault_fi :=
  ⟨by kernel_rfl, fun h hlen => fun_sound (fn := Try.f24) (draw_sound _ _) Try.func24 rfl (by kernel_rfl : comp Try.prog 51 _ ref_EditFault_c = some ref_EditFault_c) (by kernel_rfl : cRes Try.prog Try.f24.results.toList = some ref_EditFault_r) hlen h⟩

/-- fustian/fustianlaw.EditChecks: slots [0 size, 1 e, 2 size, 3 e] -/
def law_EditChecks_c : SCode :=
  (.seq (.ops [⟨(some 3), .box 0 (.t 1), none, false⟩,
    ⟨(some 4), .mov (.c (.bool false)), none, false⟩] none [0, 3])
  (.seq (.ops [⟨(some 5), .mov (.t 0), none, false⟩,
    ⟨(some 6), .load 3 true (.t 3), none, false⟩,
    ⟨(some 7), .call f_edit_Check [(.t 5), (.t 6)], none, false⟩,
    ⟨(some 8), .mov (.t 0), none, false⟩,
    ⟨(some 9), .load 3 true (.t 3), none, false⟩,
    ⟨(some 10), .call f_ref_EditFault [(.t 8), (.t 9)], none, false⟩,
    ⟨(some 11), .bin .none .eql (.t 7) (.t 10), none, false⟩,
    ⟨(some 4), .mov (.t 11), none, false⟩] (some 5) [4])
  .ret))
def law_EditChecks_r : List RRes := [.tmp 4]
def law_EditChecks_hi : Hi := ⟨[], [(0, "size"), (1, "e"), (2, "size"), (3, "e")]⟩
def law_EditChecks_an : An := .d
def law_EditChecks_fi : Fi := ⟨12, law_EditChecks_c, law_EditChecks_r, law_EditChecks_an, law_EditChecks_hi⟩
theorem law_EditChecks_ok : FiOk Try.prog f_law_EditChecks law_EditChecks_fi :=
  ⟨by kernel_rfl, fun h hlen => fun_sound (fn := Try.f8) (draw_sound _ _) Try.func8 rfl (by kernel_rfl : comp Try.prog 12 _ law_EditChecks_c = some law_EditChecks_c) (by kernel_rfl : cRes Try.prog Try.f8.results.toList = some law_EditChecks_r) hlen h⟩

end Go.Proofs.Ytgnhlecfladigaa
