/- The functions' simplified code, printed by a program of the claim's author; each is checked against the program's own code. Conditions: none. -/
import Derived.Test.YtgnhlecfladigaaProg
import Derived.Test.YtgnhlecfladigaaVyM
set_option linter.unusedVariables false
set_option maxRecDepth 100000
namespace Go.Proofs.Ytgnhlecfladigaa
open Go.Vc
abbrev f_gosem_cut_init : Nat := 2
abbrev f_law_Names : Nat := 3
abbrev f_law_PolyMays : Nat := 4
abbrev f_law_PosMays : Nat := 5
abbrev f_law_PolyOfs : Nat := 6
abbrev f_law_PolyJoins : Nat := 7
abbrev f_law_EditChecks : Nat := 8
abbrev f_law_SpansMays : Nat := 9
abbrev f_law_LinesStarts : Nat := 10
abbrev f_law_MarksNears : Nat := 11
abbrev f_law_PosJoins : Nat := 12
abbrev f_law_EditPlaces : Nat := 13
abbrev f_law_FindBorders : Nat := 14
abbrev f_poly_May : Nat := 15
abbrev f_ref_PolyMay : Nat := 16
abbrev f_pos_May : Nat := 17
abbrev f_ref_PosMay : Nat := 18
abbrev f_poly_Of : Nat := 19
abbrev f_ref_PolyOf : Nat := 20
abbrev f_poly_Join : Nat := 21
abbrev f_ref_PolyJoin : Nat := 22
abbrev f_edit_Check : Nat := 23
abbrev f_ref_EditFault : Nat := 24
abbrev f_spans_May : Nat := 25
abbrev f_ref_SpansMay : Nat := 26
abbrev f_lines_Starts : Nat := 27
abbrev f_ref_LinesStarts : Nat := 28
abbrev f_law_sameInts : Nat := 29
abbrev f_marks_Near : Nat := 30
abbrev f_ref_MarksNear : Nat := 31
abbrev f_pos_Join : Nat := 32
abbrev f_ref_PosJoin : Nat := 33
abbrev f_edit_Place : Nat := 34
abbrev f_ref_EditPlace : Nat := 35
abbrev f_find_Border : Nat := 36
abbrev f_ref_FindBorder : Nat := 37
abbrev f_lines_Of : Nat := 38
abbrev f_ref_cutLines : Nat := 39
abbrev f_edit_Moved : Nat := 40
abbrev f_ref_editPlace : Nat := 41
abbrev f_find_border : Nat := 42

/-- fustian/pos.May: slots [0 p, 1 p] -/
def pos_May_c : SCode :=
  (.seq (.ops [⟨(some 1), .box 0 (.t 0), none, false⟩,
    ⟨(some 2), .mov (.c (.bool false)), none, false⟩] none [1])
  (.seq (.seq (.ops [⟨(some 3), .faddr 0 (.t 1), none, false⟩,
    ⟨(some 4), .load 1 false (.t 3), none, false⟩,
    ⟨(some 5), .bin .none .lss (.t 4) (.c (.int .i64 0)), none, false⟩,
    ⟨(some 6), .mov (.t 5), none, true⟩,
    ⟨(some 7), .faddr 1 (.t 1), (some (6, false)), false⟩,
    ⟨(some 8), .load 1 false (.t 7), (some (6, false)), false⟩,
    ⟨(some 9), .bin .none .lss (.t 8) (.c (.int .i64 0)), (some (6, false)), false⟩,
    ⟨(some 10), .pick (.t 6) (.c (.bool true)) (.t 9), none, false⟩,
    ⟨(some 11), .mov (.t 10), none, true⟩,
    ⟨(some 12), .faddr 2 (.t 1), (some (11, false)), false⟩,
    ⟨(some 13), .load 1 false (.t 12), (some (11, false)), false⟩,
    ⟨(some 14), .bin .none .lss (.t 13) (.c (.int .i64 0)), (some (11, false)), false⟩,
    ⟨(some 15), .pick (.t 11) (.c (.bool true)) (.t 14), none, false⟩,
    ⟨(some 16), .mov (.t 15), none, true⟩,
    ⟨(some 17), .faddr 0 (.t 1), (some (16, false)), false⟩,
    ⟨(some 18), .load 1 false (.t 17), (some (16, false)), false⟩,
    ⟨(some 19), .faddr 1 (.t 1), (some (16, false)), false⟩,
    ⟨(some 20), .load 1 false (.t 19), (some (16, false)), false⟩,
    ⟨(some 21), .faddr 2 (.t 1), (some (16, false)), false⟩,
    ⟨(some 22), .load 1 false (.t 21), (some (16, false)), false⟩,
    ⟨(some 23), .max [(.t 18), (.t 20), (.t 22)], (some (16, false)), false⟩,
    ⟨(some 24), .bin .none .gtr (.t 23) (.c (.int .i64 1099511627776)), (some (16, false)), false⟩,
    ⟨(some 25), .pick (.t 16) (.c (.bool true)) (.t 24), none, false⟩] none [1, 25])
  (.cond (.t 25)
    (.seq (.ops [⟨(some 2), .mov (.c (.bool false)), none, false⟩] none [2])
    .ret)
    .skip))
  (.seq (.ops [⟨(some 26), .faddr 1 (.t 1), none, false⟩,
    ⟨(some 27), .load 1 false (.t 26), none, false⟩,
    ⟨(some 28), .faddr 2 (.t 1), none, false⟩,
    ⟨(some 29), .load 1 false (.t 28), none, false⟩,
    ⟨(some 30), .bin .none .add (.t 27) (.t 29), none, false⟩,
    ⟨(some 31), .faddr 0 (.t 1), none, false⟩,
    ⟨(some 32), .load 1 false (.t 31), none, false⟩,
    ⟨(some 33), .bin .none .leq (.t 30) (.t 32), none, false⟩,
    ⟨(some 34), .mov (.t 33), none, true⟩,
    ⟨(some 35), .faddr 1 (.t 1), (some (34, true)), false⟩,
    ⟨(some 36), .load 1 false (.t 35), (some (34, true)), false⟩,
    ⟨(some 37), .bin .none .gtr (.t 36) (.c (.int .i64 0)), (some (34, true)), false⟩,
    ⟨(some 38), .mov (.t 37), (some (34, true)), true⟩,
    ⟨(some 39), .faddr 2 (.t 1), (some (38, false)), false⟩,
    ⟨(some 40), .load 1 false (.t 39), (some (38, false)), false⟩,
    ⟨(some 41), .faddr 0 (.t 1), (some (38, false)), false⟩,
    ⟨(some 42), .load 1 false (.t 41), (some (38, false)), false⟩,
    ⟨(some 43), .bin .none .eql (.t 40) (.t 42), (some (38, false)), false⟩,
    ⟨(some 44), .pick (.t 38) (.c (.bool true)) (.t 43), (some (34, true)), false⟩,
    ⟨(some 45), .pick (.t 34) (.t 44) (.c (.bool false)), none, false⟩,
    ⟨(some 2), .mov (.t 45), none, false⟩] none [2])
  .ret)))
def pos_May_r : List RRes := [.tmp 2]
def pos_May_hi : Hi := ⟨[], [(0, "p"), (1, "p")]⟩
def pos_May_an : An := .d
def pos_May_fi : Fi := ⟨46, pos_May_c, pos_May_r, pos_May_an, pos_May_hi⟩
theorem pos_May_ok : FiOk Try.prog f_pos_May pos_May_fi :=
  ⟨by kernel_rfl, fun h hlen => fun_sound (fn := Try.f17) (draw_sound _ _) Try.func17 rfl (by kernel_rfl : comp Try.prog 46 _ pos_May_c = some pos_May_c) (by kernel_rfl : cRes Try.prog Try.f17.results.toList = some pos_May_r) hlen h⟩

/-- fustian/pos.Join: slots [0 a, 1 b, 2 a, 3 b, 6 out] -/
def pos_Join_c : SCode :=
  (.seq (.ops [⟨(some 2), .box 0 (.t 0), none, false⟩,
    ⟨(some 3), .box 0 (.t 1), none, false⟩,
    ⟨(some 4), .alloc 0 [(.int .i64 0), (.int .i64 0), (.int .i64 0)], none, false⟩,
    ⟨(some 5), .mov (.c (.int .i64 0)), none, false⟩] none [2, 3, 4])
  (.seq (.seq (.ops [⟨(some 7), .load 3 true (.t 2), none, false⟩,
    ⟨(some 8), .call f_pos_May [(.t 7)], none, false⟩,
    ⟨(some 9), .not (.t 8), none, false⟩,
    ⟨(some 10), .mov (.t 9), none, true⟩,
    ⟨(some 11), .load 3 true (.t 3), (some (10, false)), false⟩,
    ⟨(some 12), .call f_pos_May [(.t 11)], (some (10, false)), false⟩,
    ⟨(some 13), .not (.t 12), (some (10, false)), false⟩,
    ⟨(some 14), .pick (.t 10) (.c (.bool true)) (.t 13), none, false⟩] none [2, 3, 4, 14])
  (.cond (.t 14)
    (.seq (.ops [⟨(some 15), .build [(.int .i64 0), (.int .i64 0), (.int .i64 0)] [], none, false⟩,
      ⟨none, .store 3 (.t 4) (.t 15), none, false⟩,
      ⟨(some 5), .mov (.c (.int .i64 4)), none, false⟩] none [4, 5])
    .ret)
    .skip))
  (.seq (.ops [⟨(some 16), .faddr 0 (.t 2), none, false⟩,
    ⟨(some 17), .load 1 false (.t 16), none, false⟩,
    ⟨(some 18), .faddr 0 (.t 3), none, false⟩,
    ⟨(some 19), .load 1 false (.t 18), none, false⟩,
    ⟨(some 20), .bin .none .add (.t 17) (.t 19), none, false⟩,
    ⟨(some 21), .faddr 1 (.t 2), none, false⟩,
    ⟨(some 22), .load 1 false (.t 21), none, false⟩,
    ⟨(some 23), .faddr 1 (.t 3), none, false⟩,
    ⟨(some 24), .load 1 false (.t 23), none, false⟩,
    ⟨(some 25), .bin .none .add (.t 22) (.t 24), none, false⟩,
    ⟨(some 26), .faddr 2 (.t 3), none, false⟩,
    ⟨(some 27), .load 1 false (.t 26), none, false⟩,
    ⟨(some 28), .build [(.int .i64 0), (.int .i64 0), (.int .i64 0)] [(0, 1, (.t 20)), (1, 1, (.t 25)), (2, 1, (.t 27))], none, false⟩,
    ⟨(some 6), .alloc 0 [(.int .i64 0), (.int .i64 0), (.int .i64 0)], none, false⟩,
    ⟨none, .store 3 (.t 6) (.t 28), none, false⟩] none [2, 3, 4, 6])
  (.join [4, 6] [] 4 (.seq (.ops [⟨(some 29), .faddr 1 (.t 3), none, false⟩,
      ⟨(some 30), .load 1 false (.t 29), none, false⟩,
      ⟨(some 31), .bin .none .eql (.t 30) (.c (.int .i64 0)), none, false⟩] none [2, 4, 6, 31])
    (.cond (.t 31)
      (.ops [⟨(some 32), .faddr 2 (.t 6), none, false⟩,
        ⟨(some 33), .load 1 false (.t 32), none, false⟩,
        ⟨(some 34), .faddr 2 (.t 2), none, false⟩,
        ⟨(some 35), .load 1 false (.t 34), none, false⟩,
        ⟨(some 36), .bin .none .add (.t 33) (.t 35), none, false⟩,
        ⟨(some 37), .faddr 2 (.t 6), none, false⟩,
        ⟨none, .store 1 (.t 37) (.t 36), none, false⟩] none [4, 6])
      .skip))
  (.seq (.seq (.ops [⟨(some 38), .load 3 true (.t 6), none, false⟩,
    ⟨(some 39), .call f_pos_May [(.t 38)], none, false⟩,
    ⟨(some 40), .not (.t 39), none, false⟩] none [4, 6, 40])
  (.cond (.t 40)
    (.seq (.ops [⟨(some 41), .build [(.int .i64 0), (.int .i64 0), (.int .i64 0)] [], none, false⟩,
      ⟨none, .store 3 (.t 4) (.t 41), none, false⟩,
      ⟨(some 5), .mov (.c (.int .i64 4)), none, false⟩] none [4, 5])
    .ret)
    .skip))
  (.seq (.ops [⟨(some 42), .load 3 true (.t 6), none, false⟩,
    ⟨none, .store 3 (.t 4) (.t 42), none, false⟩,
    ⟨(some 5), .mov (.c (.int .i64 0)), none, false⟩] none [4, 5])
  .ret))))))
def pos_Join_r : List RRes := [.cell 4 3 true, .tmp 5]
def pos_Join_hi : Hi := ⟨[], [(0, "a"), (1, "b"), (2, "a"), (3, "b"), (6, "out")]⟩
def pos_Join_an : An := .d
def pos_Join_fi : Fi := ⟨43, pos_Join_c, pos_Join_r, pos_Join_an, pos_Join_hi⟩
theorem pos_Join_ok : FiOk Try.prog f_pos_Join pos_Join_fi :=
  ⟨by kernel_rfl, fun h hlen => fun_sound (fn := Try.f32) (draw_sound _ _) Try.func32 rfl (by kernel_rfl : comp Try.prog 43 _ pos_Join_c = some pos_Join_c) (by kernel_rfl : cRes Try.prog Try.f32.results.toList = some pos_Join_r) hlen h⟩

/-- fustian/fustianref.PosMay: slots [0 p, 1 p, 3 _, 4 n] -/
def ref_PosMay_c : SCode :=
  (.seq (.ops [⟨(some 1), .box 0 (.t 0), none, false⟩,
    ⟨(some 2), .mov (.c (.bool false)), none, false⟩] none [1])
  (.seq (.seq (.ops [⟨(some 5), .faddr 0 (.t 1), none, false⟩,
    ⟨(some 6), .load 1 false (.t 5), none, false⟩,
    ⟨(some 7), .faddr 1 (.t 1), none, false⟩,
    ⟨(some 8), .load 1 false (.t 7), none, false⟩,
    ⟨(some 9), .faddr 2 (.t 1), none, false⟩,
    ⟨(some 10), .load 1 false (.t 9), none, false⟩,
    ⟨(some 11), .bslice false 3 1 [(.int .i64 0), (.int .i64 0), (.int .i64 0)] [(0, 1, (.t 6)), (1, 1, (.t 8)), (2, 1, (.t 10))], none, false⟩,
    ⟨(some 12), .len false (.t 11), none, false⟩,
    ⟨(some 13), .mov (.c (.int .i64 0)), none, false⟩] none [1, 11, 12, 13])
  (.block 0 (.loop [1, 11, 12] [13] 2
    (.seq (.ops [⟨(some 14), .bin .none .lss (.t 13) (.t 12), none, false⟩] none [1, 11, 12, 13, 14])
    (.seq (.cond (.t 14)
      .skip
      (.exit 0))
    (.seq (.block 1 (.seq (.ops [⟨(some 15), .iaddr 1 none (.t 11) (.t 13), none, false⟩,
      ⟨(some 16), .load 1 false (.t 15), none, false⟩,
      ⟨(some 4), .mov (.t 16), none, false⟩] none [1, 4, 11, 12, 13])
    (.seq (.ops [⟨(some 17), .mov (.t 4), none, false⟩,
      ⟨(some 18), .bin .none .lss (.t 17) (.c (.int .i64 0)), none, false⟩,
      ⟨(some 19), .mov (.t 18), none, true⟩,
      ⟨(some 20), .mov (.t 4), (some (19, false)), false⟩,
      ⟨(some 21), .bin .none .gtr (.t 20) (.c (.int .i64 1099511627776)), (some (19, false)), false⟩,
      ⟨(some 22), .pick (.t 19) (.c (.bool true)) (.t 21), none, false⟩] none [1, 11, 12, 13, 22])
    (.cond (.t 22)
      (.seq (.ops [⟨(some 2), .mov (.c (.bool false)), none, false⟩] none [2])
      .ret)
      .skip))))
    (.ops [⟨(some 23), .bin .none .add (.t 13) (.c (.int .i64 1)), none, false⟩,
      ⟨(some 13), .mov (.t 23), none, false⟩] none [1, 11, 12, 13])))))))
  (.seq (.seq (.ops [⟨(some 24), .faddr 1 (.t 1), none, false⟩,
    ⟨(some 25), .load 1 false (.t 24), none, false⟩,
    ⟨(some 26), .bin .none .eql (.t 25) (.c (.int .i64 0)), none, false⟩] none [1, 26])
  (.cond (.t 26)
    (.seq (.ops [⟨(some 27), .faddr 2 (.t 1), none, false⟩,
      ⟨(some 28), .load 1 false (.t 27), none, false⟩,
      ⟨(some 29), .faddr 0 (.t 1), none, false⟩,
      ⟨(some 30), .load 1 false (.t 29), none, false⟩,
      ⟨(some 31), .bin .none .eql (.t 28) (.t 30), none, false⟩,
      ⟨(some 2), .mov (.t 31), none, false⟩] none [2])
    .ret)
    .skip))
  (.seq (.ops [⟨(some 32), .faddr 0 (.t 1), none, false⟩,
    ⟨(some 33), .load 1 false (.t 32), none, false⟩,
    ⟨(some 34), .faddr 2 (.t 1), none, false⟩,
    ⟨(some 35), .load 1 false (.t 34), none, false⟩,
    ⟨(some 36), .bin .none .sub (.t 33) (.t 35), none, false⟩,
    ⟨(some 37), .faddr 1 (.t 1), none, false⟩,
    ⟨(some 38), .load 1 false (.t 37), none, false⟩,
    ⟨(some 39), .bin .none .geq (.t 36) (.t 38), none, false⟩,
    ⟨(some 2), .mov (.t 39), none, false⟩] none [2])
  .ret))))
def ref_PosMay_r : List RRes := [.tmp 2]
def ref_PosMay_hi : Hi := ⟨[(11, (.int .i64))], [(0, "p"), (1, "p"), (4, "n")]⟩
def ref_PosMay_an : An := (.seq .d (.seq (.seq .d (.loop [] [] [] .d)) .d))
def ref_PosMay_fi : Fi := ⟨40, ref_PosMay_c, ref_PosMay_r, ref_PosMay_an, ref_PosMay_hi⟩
theorem ref_PosMay_ok : FiOk Try.prog f_ref_PosMay ref_PosMay_fi :=
  ⟨by kernel_rfl, fun h hlen => fun_sound (fn := Try.f18) (draw_sound _ _) Try.func18 rfl (by kernel_rfl : comp Try.prog 40 _ ref_PosMay_c = some ref_PosMay_c) (by kernel_rfl : cRes Try.prog Try.f18.results.toList = some ref_PosMay_r) hlen h⟩

/-- fustian/fustianref.PosJoin: slots [0 a, 1 b, 2 a, 3 b, 6 out] -/
def ref_PosJoin_c : SCode :=
  (.seq (.ops [⟨(some 2), .box 0 (.t 0), none, false⟩,
    ⟨(some 3), .box 0 (.t 1), none, false⟩,
    ⟨(some 4), .alloc 0 [(.int .i64 0), (.int .i64 0), (.int .i64 0)], none, false⟩,
    ⟨(some 5), .mov (.c (.int .i64 0)), none, false⟩] none [2, 3, 4])
  (.seq (.seq (.ops [⟨(some 7), .load 3 true (.t 2), none, false⟩,
    ⟨(some 8), .call f_ref_PosMay [(.t 7)], none, false⟩,
    ⟨(some 9), .not (.t 8), none, false⟩,
    ⟨(some 10), .mov (.t 9), none, true⟩,
    ⟨(some 11), .load 3 true (.t 3), (some (10, false)), false⟩,
    ⟨(some 12), .call f_ref_PosMay [(.t 11)], (some (10, false)), false⟩,
    ⟨(some 13), .not (.t 12), (some (10, false)), false⟩,
    ⟨(some 14), .pick (.t 10) (.c (.bool true)) (.t 13), none, false⟩] none [2, 3, 4, 14])
  (.cond (.t 14)
    (.seq (.ops [⟨(some 15), .build [(.int .i64 0), (.int .i64 0), (.int .i64 0)] [], none, false⟩,
      ⟨none, .store 3 (.t 4) (.t 15), none, false⟩,
      ⟨(some 5), .mov (.c (.int .i64 4)), none, false⟩] none [4, 5])
    .ret)
    .skip))
  (.seq (.ops [⟨(some 16), .load 3 true (.t 3), none, false⟩,
    ⟨(some 6), .alloc 0 [(.int .i64 0), (.int .i64 0), (.int .i64 0)], none, false⟩,
    ⟨none, .store 3 (.t 6) (.t 16), none, false⟩] none [2, 3, 4, 6])
  (.join [2, 4, 6] [] 4 (.seq (.ops [⟨(some 17), .faddr 1 (.t 3), none, false⟩,
      ⟨(some 18), .load 1 false (.t 17), none, false⟩,
      ⟨(some 19), .bin .none .eql (.t 18) (.c (.int .i64 0)), none, false⟩] none [2, 3, 4, 6, 19])
    (.cond (.t 19)
      (.ops [⟨(some 20), .faddr 2 (.t 2), none, false⟩,
        ⟨(some 21), .load 1 false (.t 20), none, false⟩,
        ⟨(some 22), .faddr 0 (.t 3), none, false⟩,
        ⟨(some 23), .load 1 false (.t 22), none, false⟩,
        ⟨(some 24), .bin .none .add (.t 21) (.t 23), none, false⟩,
        ⟨(some 25), .faddr 2 (.t 6), none, false⟩,
        ⟨none, .store 1 (.t 25) (.t 24), none, false⟩] none [2, 4, 6])
      .skip))
  (.seq (.ops [⟨(some 26), .faddr 0 (.t 6), none, false⟩,
    ⟨(some 27), .load 1 false (.t 26), none, false⟩,
    ⟨(some 28), .faddr 0 (.t 2), none, false⟩,
    ⟨(some 29), .load 1 false (.t 28), none, false⟩,
    ⟨(some 30), .bin .none .add (.t 27) (.t 29), none, false⟩,
    ⟨(some 31), .faddr 0 (.t 6), none, false⟩,
    ⟨none, .store 1 (.t 31) (.t 30), none, false⟩] none [2, 4, 6])
  (.seq (.ops [⟨(some 32), .faddr 1 (.t 6), none, false⟩,
    ⟨(some 33), .load 1 false (.t 32), none, false⟩,
    ⟨(some 34), .faddr 1 (.t 2), none, false⟩,
    ⟨(some 35), .load 1 false (.t 34), none, false⟩,
    ⟨(some 36), .bin .none .add (.t 33) (.t 35), none, false⟩,
    ⟨(some 37), .faddr 1 (.t 6), none, false⟩,
    ⟨none, .store 1 (.t 37) (.t 36), none, false⟩] none [4, 6])
  (.seq (.seq (.ops [⟨(some 38), .load 3 true (.t 6), none, false⟩,
    ⟨(some 39), .call f_ref_PosMay [(.t 38)], none, false⟩,
    ⟨(some 40), .not (.t 39), none, false⟩] none [4, 6, 40])
  (.cond (.t 40)
    (.seq (.ops [⟨(some 41), .build [(.int .i64 0), (.int .i64 0), (.int .i64 0)] [], none, false⟩,
      ⟨none, .store 3 (.t 4) (.t 41), none, false⟩,
      ⟨(some 5), .mov (.c (.int .i64 4)), none, false⟩] none [4, 5])
    .ret)
    .skip))
  (.seq (.ops [⟨(some 42), .load 3 true (.t 6), none, false⟩,
    ⟨none, .store 3 (.t 4) (.t 42), none, false⟩,
    ⟨(some 5), .mov (.c (.int .i64 0)), none, false⟩] none [4, 5])
  .ret))))))))
def ref_PosJoin_r : List RRes := [.cell 4 3 true, .tmp 5]
def ref_PosJoin_hi : Hi := ⟨[], [(0, "a"), (1, "b"), (2, "a"), (3, "b"), (6, "out")]⟩
def ref_PosJoin_an : An := .d
def ref_PosJoin_fi : Fi := ⟨43, ref_PosJoin_c, ref_PosJoin_r, ref_PosJoin_an, ref_PosJoin_hi⟩
theorem ref_PosJoin_ok : FiOk Try.prog f_ref_PosJoin ref_PosJoin_fi :=
  ⟨by kernel_rfl, fun h hlen => fun_sound (fn := Try.f33) (draw_sound _ _) Try.func33 rfl (by kernel_rfl : comp Try.prog 43 _ ref_PosJoin_c = some ref_PosJoin_c) (by kernel_rfl : cRes Try.prog Try.f33.results.toList = some ref_PosJoin_r) hlen h⟩

/-- fustian/fustianlaw.PosJoins: slots [0 a, 1 b, 2 a, 3 b, 5 x, 6 e, 7 y, 8 f] -/
def law_PosJoins_c : SCode :=
  (.seq (.ops [⟨(some 2), .box 0 (.t 0), none, false⟩,
    ⟨(some 3), .box 0 (.t 1), none, false⟩,
    ⟨(some 4), .mov (.c (.bool false)), none, false⟩] none [2, 3])
  (.seq (.ops [⟨(some 10), .load 3 true (.t 2), none, false⟩,
    ⟨(some 11), .load 3 true (.t 3), none, false⟩,
    ⟨(some 12), .call f_pos_Join [(.t 10), (.t 11)], none, false⟩,
    ⟨(some 9), .mov (.t 12), none, false⟩,
    ⟨(some 13), .extract (.t 9) 0, none, false⟩,
    ⟨(some 14), .extract (.t 9) 1, none, false⟩,
    ⟨(some 5), .alloc 0 [(.int .i64 0), (.int .i64 0), (.int .i64 0)], none, false⟩,
    ⟨none, .store 3 (.t 5) (.t 13), none, false⟩,
    ⟨(some 6), .mov (.t 14), none, false⟩] none [2, 3, 5, 6])
  (.seq (.ops [⟨(some 16), .load 3 true (.t 2), none, false⟩,
    ⟨(some 17), .load 3 true (.t 3), none, false⟩,
    ⟨(some 18), .call f_ref_PosJoin [(.t 16), (.t 17)], none, false⟩,
    ⟨(some 15), .mov (.t 18), none, false⟩,
    ⟨(some 19), .extract (.t 15) 0, none, false⟩,
    ⟨(some 20), .extract (.t 15) 1, none, false⟩,
    ⟨(some 7), .alloc 0 [(.int .i64 0), (.int .i64 0), (.int .i64 0)], none, false⟩,
    ⟨none, .store 3 (.t 7) (.t 19), none, false⟩,
    ⟨(some 8), .mov (.t 20), none, false⟩] none [5, 6, 7, 8])
  (.seq (.ops [⟨(some 21), .load 3 true (.t 5), none, false⟩,
    ⟨(some 22), .load 3 true (.t 7), none, false⟩,
    ⟨(some 23), .bin (.agg [.int, .int, .int]) .eql (.t 21) (.t 22), none, false⟩,
    ⟨(some 24), .mov (.t 23), none, true⟩,
    ⟨(some 25), .mov (.t 6), (some (24, true)), false⟩,
    ⟨(some 26), .mov (.t 8), (some (24, true)), false⟩,
    ⟨(some 27), .bin .none .eql (.t 25) (.t 26), (some (24, true)), false⟩,
    ⟨(some 28), .pick (.t 24) (.t 27) (.c (.bool false)), none, false⟩,
    ⟨(some 4), .mov (.t 28), none, false⟩] none [4])
  .ret))))
def law_PosJoins_r : List RRes := [.tmp 4]
def law_PosJoins_hi : Hi := ⟨[], [(0, "a"), (1, "b"), (2, "a"), (3, "b"), (5, "x"), (6, "e"), (7, "y"), (8, "f")]⟩
def law_PosJoins_an : An := .d
def law_PosJoins_fi : Fi := ⟨29, law_PosJoins_c, law_PosJoins_r, law_PosJoins_an, law_PosJoins_hi⟩
theorem law_PosJoins_ok : FiOk Try.prog f_law_PosJoins law_PosJoins_fi :=
  ⟨by kernel_rfl, fun h hlen => fun_sound (fn := Try.f12) (draw_sound _ _) Try.func12 rfl (by kernel_rfl : comp Try.prog 29 _ law_PosJoins_c = some law_PosJoins_c) (by kernel_rfl : cRes Try.prog Try.f12.results.toList = some law_PosJoins_r) hlen h⟩

end Go.Proofs.Ytgnhlecfladigaa
