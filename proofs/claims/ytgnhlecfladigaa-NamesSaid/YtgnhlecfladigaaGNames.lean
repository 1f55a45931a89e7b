/- The functions' simplified code, printed by a program of the claim's author; each is checked against the program's own code. Conditions: none. -/
import Derived.Test.YtgnhlecfladigaaProg
import Derived.Test.YtgnhlecfladigaaVyM
set_option linter.unusedVariables false
set_option maxRecDepth 100000
namespace Go.Proofs.Ytgnhlecfladigaa
open Go.Vc
abbrev f_gosem_cut_init : Nat := 2
abbrev f_law_Names : Nat := 3
abbrev f_law_PolyMays : Nat := 4
abbrev f_law_PosMays : Nat := 5
abbrev f_law_PolyOfs : Nat := 6
abbrev f_law_PolyJoins : Nat := 7
abbrev f_law_EditChecks : Nat := 8
abbrev f_law_SpansMays : Nat := 9
abbrev f_law_LinesStarts : Nat := 10
abbrev f_law_MarksNears : Nat := 11
abbrev f_law_PosJoins : Nat := 12
abbrev f_law_EditPlaces : Nat := 13
abbrev f_law_FindBorders : Nat := 14
abbrev f_poly_May : Nat := 15
abbrev f_ref_PolyMay : Nat := 16
abbrev f_pos_May : Nat := 17
abbrev f_ref_PosMay : Nat := 18
abbrev f_poly_Of : Nat := 19
abbrev f_ref_PolyOf : Nat := 20
abbrev f_poly_Join : Nat := 21
abbrev f_ref_PolyJoin : Nat := 22
abbrev f_edit_Check : Nat := 23
abbrev f_ref_EditFault : Nat := 24
abbrev f_spans_May : Nat := 25
abbrev f_ref_SpansMay : Nat := 26
abbrev f_lines_Starts : Nat := 27
abbrev f_ref_LinesStarts : Nat := 28
abbrev f_law_sameInts : Nat := 29
abbrev f_marks_Near : Nat := 30
abbrev f_ref_MarksNear : Nat := 31
abbrev f_pos_Join : Nat := 32
abbrev f_ref_PosJoin : Nat := 33
abbrev f_edit_Place : Nat := 34
abbrev f_ref_EditPlace : Nat := 35
abbrev f_find_Border : Nat := 36
abbrev f_ref_FindBorder : Nat := 37
abbrev f_lines_Of : Nat := 38
abbrev f_ref_cutLines : Nat := 39
abbrev f_edit_Moved : Nat := 40
abbrev f_ref_editPlace : Nat := 41
abbrev f_find_border : Nat := 42

/-- fustian/fustianlaw.Names: slots [1 errs, 2 i, 3 kinds, 4 want, 5 limits, 6 most, 7 i, 8 i] -/
def law_Names_c : SCode :=
  (.seq (.ops [⟨(some 0), .mov (.c (.bool false)), none, false⟩] none [])
  (.seq (.ops [⟨(some 9), .bslice false 11 1 [(.int .i64 0), (.int .i64 0), (.int .i64 0), (.int .i64 0), (.int .i64 0), (.int .i64 0), (.int .i64 0), (.int .i64 0), (.int .i64 0), (.int .i64 0), (.int .i64 0)] [(0, 1, (.c (.int .i64 0))), (1, 1, (.c (.int .i64 1))), (2, 1, (.c (.int .i64 2))), (3, 1, (.c (.int .i64 3))), (4, 1, (.c (.int .i64 4))), (5, 1, (.c (.int .i64 5))), (6, 1, (.c (.int .i64 6))), (7, 1, (.c (.int .i64 7))), (8, 1, (.c (.int .i64 8))), (9, 1, (.c (.int .i64 9))), (10, 1, (.c (.int .i64 10)))], none, false⟩,
    ⟨(some 1), .mov (.t 9), none, false⟩] none [1])
  (.seq (.seq (.ops [⟨(some 2), .mov (.c (.int .i64 0)), none, false⟩] none [1, 2])
  (.block 0 (.loop [1] [2] 1
    (.seq (.seq (.ops [⟨(some 10), .mov (.t 2), none, false⟩,
      ⟨(some 11), .mov (.t 1), none, false⟩,
      ⟨(some 12), .len false (.t 11), none, false⟩,
      ⟨(some 13), .bin .none .lss (.t 10) (.t 12), none, false⟩] none [1, 2, 13])
    (.cond (.t 13)
      .skip
      (.exit 0)))
    (.seq (.block 1 (.seq (.ops [⟨(some 16), .mov (.t 1), none, false⟩,
      ⟨(some 17), .mov (.t 2), none, false⟩,
      ⟨(some 18), .iaddr 1 none (.t 16) (.t 17), none, false⟩,
      ⟨(some 19), .load 1 false (.t 18), none, false⟩,
      ⟨(some 20), .mov (.t 2), none, false⟩,
      ⟨(some 21), .bin .none .neq (.t 19) (.t 20), none, false⟩] none [1, 2, 21])
    (.cond (.t 21)
      (.seq (.ops [⟨(some 0), .mov (.c (.bool false)), none, false⟩] none [0])
      .ret)
      .skip)))
    (.ops [⟨(some 14), .mov (.t 2), none, false⟩,
      ⟨(some 15), .bin .none .add (.t 14) (.c (.int .i64 1)), none, false⟩,
      ⟨(some 2), .mov (.t 15), none, false⟩] none [1, 2]))))))
  (.seq (.ops [⟨(some 22), .bslice false 23 1 [(.int .i64 0), (.int .i64 0), (.int .i64 0), (.int .i64 0), (.int .i64 0), (.int .i64 0), (.int .i64 0), (.int .i64 0), (.int .i64 0), (.int .i64 0), (.int .i64 0), (.int .i64 0), (.int .i64 0), (.int .i64 0), (.int .i64 0), (.int .i64 0), (.int .i64 0), (.int .i64 0), (.int .i64 0), (.int .i64 0), (.int .i64 0), (.int .i64 0), (.int .i64 0)] [(0, 1, (.c (.int .i64 1))), (1, 1, (.c (.int .i64 2))), (2, 1, (.c (.int .i64 3))), (3, 1, (.c (.int .i64 4))), (4, 1, (.c (.int .i64 5))), (5, 1, (.c (.int .i64 1))), (6, 1, (.c (.int .i64 2))), (7, 1, (.c (.int .i64 3))), (8, 1, (.c (.int .i64 4))), (9, 1, (.c (.int .i64 1))), (10, 1, (.c (.int .i64 2))), (11, 1, (.c (.int .i64 3))), (12, 1, (.c (.int .i64 1))), (13, 1, (.c (.int .i64 2))), (14, 1, (.c (.int .i64 1))), (15, 1, (.c (.int .i64 2))), (16, 1, (.c (.int .i64 3))), (17, 1, (.c (.int .i64 4))), (18, 1, (.c (.int .i64 5))), (19, 1, (.c (.int .i64 6))), (20, 1, (.c (.int .i64 7))), (21, 1, (.c (.int .i64 8))), (22, 1, (.c (.int .i64 9)))], none, false⟩,
    ⟨(some 3), .mov (.t 22), none, false⟩] none [3])
  (.seq (.ops [⟨(some 23), .bslice false 23 1 [(.int .i64 0), (.int .i64 0), (.int .i64 0), (.int .i64 0), (.int .i64 0), (.int .i64 0), (.int .i64 0), (.int .i64 0), (.int .i64 0), (.int .i64 0), (.int .i64 0), (.int .i64 0), (.int .i64 0), (.int .i64 0), (.int .i64 0), (.int .i64 0), (.int .i64 0), (.int .i64 0), (.int .i64 0), (.int .i64 0), (.int .i64 0), (.int .i64 0), (.int .i64 0)] [(0, 1, (.c (.int .i64 1))), (1, 1, (.c (.int .i64 2))), (2, 1, (.c (.int .i64 3))), (3, 1, (.c (.int .i64 4))), (4, 1, (.c (.int .i64 5))), (5, 1, (.c (.int .i64 1))), (6, 1, (.c (.int .i64 2))), (7, 1, (.c (.int .i64 3))), (8, 1, (.c (.int .i64 4))), (9, 1, (.c (.int .i64 1))), (10, 1, (.c (.int .i64 2))), (11, 1, (.c (.int .i64 3))), (12, 1, (.c (.int .i64 1))), (13, 1, (.c (.int .i64 2))), (14, 1, (.c (.int .i64 1))), (15, 1, (.c (.int .i64 2))), (16, 1, (.c (.int .i64 3))), (17, 1, (.c (.int .i64 4))), (18, 1, (.c (.int .i64 5))), (19, 1, (.c (.int .i64 6))), (20, 1, (.c (.int .i64 7))), (21, 1, (.c (.int .i64 8))), (22, 1, (.c (.int .i64 9)))], none, false⟩,
    ⟨(some 4), .mov (.t 23), none, false⟩] none [3, 4])
  (.seq (.ops [⟨(some 24), .bslice false 18 1 [(.int .i64 0), (.int .i64 0), (.int .i64 0), (.int .i64 0), (.int .i64 0), (.int .i64 0), (.int .i64 0), (.int .i64 0), (.int .i64 0), (.int .i64 0), (.int .i64 0), (.int .i64 0), (.int .i64 0), (.int .i64 0), (.int .i64 0), (.int .i64 0), (.int .i64 0), (.int .i64 0)] [(0, 1, (.c (.int .i64 600))), (1, 1, (.c (.int .i64 80))), (2, 1, (.c (.int .i64 60))), (3, 1, (.c (.int .i64 60))), (4, 1, (.c (.int .i64 40))), (5, 1, (.c (.int .i64 60))), (6, 1, (.c (.int .i64 80))), (7, 1, (.c (.int .i64 12))), (8, 1, (.c (.int .i64 20))), (9, 1, (.c (.int .i64 20))), (10, 1, (.c (.int .i64 60))), (11, 1, (.c (.int .i64 20))), (12, 1, (.c (.int .i64 20))), (13, 1, (.c (.int .i64 50))), (14, 1, (.c (.int .i64 4))), (15, 1, (.c (.int .i64 40))), (16, 1, (.c (.int .i64 2147483647))), (17, 1, (.c (.int .i64 257)))], none, false⟩,
    ⟨(some 5), .mov (.t 24), none, false⟩] none [3, 4, 5])
  (.seq (.ops [⟨(some 25), .bslice false 18 1 [(.int .i64 0), (.int .i64 0), (.int .i64 0), (.int .i64 0), (.int .i64 0), (.int .i64 0), (.int .i64 0), (.int .i64 0), (.int .i64 0), (.int .i64 0), (.int .i64 0), (.int .i64 0), (.int .i64 0), (.int .i64 0), (.int .i64 0), (.int .i64 0), (.int .i64 0), (.int .i64 0)] [(0, 1, (.c (.int .i64 600))), (1, 1, (.c (.int .i64 80))), (2, 1, (.c (.int .i64 60))), (3, 1, (.c (.int .i64 60))), (4, 1, (.c (.int .i64 40))), (5, 1, (.c (.int .i64 60))), (6, 1, (.c (.int .i64 80))), (7, 1, (.c (.int .i64 12))), (8, 1, (.c (.int .i64 20))), (9, 1, (.c (.int .i64 20))), (10, 1, (.c (.int .i64 60))), (11, 1, (.c (.int .i64 20))), (12, 1, (.c (.int .i64 20))), (13, 1, (.c (.int .i64 50))), (14, 1, (.c (.int .i64 4))), (15, 1, (.c (.int .i64 40))), (16, 1, (.c (.int .i64 2147483647))), (17, 1, (.c (.int .i64 257)))], none, false⟩,
    ⟨(some 6), .mov (.t 25), none, false⟩] none [3, 4, 5, 6])
  (.seq (.seq (.ops [⟨(some 7), .mov (.c (.int .i64 0)), none, false⟩] none [3, 4, 5, 6, 7])
  (.block 2 (.loop [3, 4, 5, 6] [7] 5
    (.seq (.seq (.ops [⟨(some 26), .mov (.t 7), none, false⟩,
      ⟨(some 27), .mov (.t 3), none, false⟩,
      ⟨(some 28), .len false (.t 27), none, false⟩,
      ⟨(some 29), .bin .none .lss (.t 26) (.t 28), none, false⟩] none [3, 4, 5, 6, 7, 29])
    (.cond (.t 29)
      .skip
      (.exit 2)))
    (.seq (.block 3 (.seq (.ops [⟨(some 32), .mov (.t 3), none, false⟩,
      ⟨(some 33), .mov (.t 7), none, false⟩,
      ⟨(some 34), .iaddr 1 none (.t 32) (.t 33), none, false⟩,
      ⟨(some 35), .load 1 false (.t 34), none, false⟩,
      ⟨(some 36), .mov (.t 4), none, false⟩,
      ⟨(some 37), .mov (.t 7), none, false⟩,
      ⟨(some 38), .iaddr 1 none (.t 36) (.t 37), none, false⟩,
      ⟨(some 39), .load 1 false (.t 38), none, false⟩,
      ⟨(some 40), .bin .none .neq (.t 35) (.t 39), none, false⟩] (some 8) [3, 4, 5, 6, 7, 40])
    (.cond (.t 40)
      (.seq (.ops [⟨(some 0), .mov (.c (.bool false)), none, false⟩] none [0])
      .ret)
      .skip)))
    (.ops [⟨(some 30), .mov (.t 7), none, false⟩,
      ⟨(some 31), .bin .none .add (.t 30) (.c (.int .i64 1)), none, false⟩,
      ⟨(some 7), .mov (.t 31), none, false⟩] none [3, 4, 5, 6, 7]))))))
  (.seq (.seq (.ops [⟨(some 8), .mov (.c (.int .i64 0)), none, false⟩] none [3, 4, 5, 6, 8])
  (.block 4 (.loop [3, 4, 5, 6] [8] 5
    (.seq (.seq (.ops [⟨(some 41), .mov (.t 8), none, false⟩,
      ⟨(some 42), .mov (.t 5), none, false⟩,
      ⟨(some 43), .len false (.t 42), none, false⟩,
      ⟨(some 44), .bin .none .lss (.t 41) (.t 43), none, false⟩] none [3, 4, 5, 6, 8, 44])
    (.cond (.t 44)
      .skip
      (.exit 4)))
    (.seq (.block 5 (.seq (.ops [⟨(some 47), .mov (.t 5), none, false⟩,
      ⟨(some 48), .mov (.t 8), none, false⟩,
      ⟨(some 49), .iaddr 1 none (.t 47) (.t 48), none, false⟩,
      ⟨(some 50), .load 1 false (.t 49), none, false⟩,
      ⟨(some 51), .mov (.t 6), none, false⟩,
      ⟨(some 52), .mov (.t 8), none, false⟩,
      ⟨(some 53), .iaddr 1 none (.t 51) (.t 52), none, false⟩,
      ⟨(some 54), .load 1 false (.t 53), none, false⟩,
      ⟨(some 55), .bin .none .neq (.t 50) (.t 54), none, false⟩] (some 8) [3, 4, 5, 6, 8, 55])
    (.cond (.t 55)
      (.seq (.ops [⟨(some 0), .mov (.c (.bool false)), none, false⟩] none [0])
      .ret)
      .skip)))
    (.ops [⟨(some 45), .mov (.t 8), none, false⟩,
      ⟨(some 46), .bin .none .add (.t 45) (.c (.int .i64 1)), none, false⟩,
      ⟨(some 8), .mov (.t 46), none, false⟩] none [3, 4, 5, 6, 8]))))))
  (.seq (.ops [⟨(some 56), .mov (.t 3), none, false⟩,
    ⟨(some 57), .len false (.t 56), none, false⟩,
    ⟨(some 58), .mov (.t 4), none, false⟩,
    ⟨(some 59), .len false (.t 58), none, false⟩,
    ⟨(some 60), .bin .none .eql (.t 57) (.t 59), none, false⟩,
    ⟨(some 61), .mov (.t 60), none, true⟩,
    ⟨(some 62), .mov (.t 5), (some (61, true)), false⟩,
    ⟨(some 63), .len false (.t 62), (some (61, true)), false⟩,
    ⟨(some 64), .mov (.t 6), (some (61, true)), false⟩,
    ⟨(some 65), .len false (.t 64), (some (61, true)), false⟩,
    ⟨(some 66), .bin .none .eql (.t 63) (.t 65), (some (61, true)), false⟩,
    ⟨(some 67), .pick (.t 61) (.t 66) (.c (.bool false)), none, false⟩,
    ⟨(some 0), .mov (.t 67), none, false⟩] none [0])
  .ret))))))))))
def law_Names_r : List RRes := [.tmp 0]
def law_Names_hi : Hi := ⟨[(9, (.int .i64)), (22, (.int .i64)), (23, (.int .i64)), (24, (.int .i64)), (25, (.int .i64))], [(1, "errs"), (2, "i"), (3, "kinds"), (4, "want"), (5, "limits"), (6, "most"), (7, "i"), (8, "i")]⟩
def law_Names_an : An := (.seq .d (.seq .d (.seq (.seq .d (.loop [] [] [] .d)) (.seq .d (.seq .d (.seq .d (.seq .d (.seq (.seq .d (.loop [] [] [] .d)) (.seq (.seq .d (.loop [] [] [] .d)) .d)))))))))
def law_Names_fi : Fi := ⟨68, law_Names_c, law_Names_r, law_Names_an, law_Names_hi⟩
theorem law_Names_ok : FiOk Try.prog f_law_Names law_Names_fi :=
  ⟨by kernel_rfl, fun h hlen => fun_sound (fn := Try.f3) (draw_sound _ _) Try.func3 rfl (by kernel_rfl : comp Try.prog 68 _ law_Names_c = some law_Names_c) (by kernel_rfl : cRes Try.prog Try.f3.results.toList = some law_Names_r) hlen h⟩

end Go.Proofs.Ytgnhlecfladigaa
