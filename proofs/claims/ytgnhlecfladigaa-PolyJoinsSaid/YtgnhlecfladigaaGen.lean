/- The functions' simplified code, printed by a program of the claim's author; each is checked against the program's own code. Conditions: none. -/
import Derived.Test.YtgnhlecfladigaaProg
import Derived.Test.YtgnhlecfladigaaVxP
set_option linter.unusedVariables false
set_option maxRecDepth 100000
namespace Go.Proofs.Ytgnhlecfladigaa
open Go.Vc
abbrev f_gosem_cut_init : Nat := 2
abbrev f_law_Names : Nat := 3
abbrev f_law_PolyMays : Nat := 4
abbrev f_law_PosMays : Nat := 5
abbrev f_law_PolyOfs : Nat := 6
abbrev f_law_PolyJoins : Nat := 7
abbrev f_law_EditChecks : Nat := 8
abbrev f_law_SpansMays : Nat := 9
abbrev f_law_LinesStarts : Nat := 10
abbrev f_law_MarksNears : Nat := 11
abbrev f_law_PosJoins : Nat := 12
abbrev f_law_EditPlaces : Nat := 13
abbrev f_law_FindBorders : Nat := 14
abbrev f_poly_May : Nat := 15
abbrev f_ref_PolyMay : Nat := 16
abbrev f_pos_May : Nat := 17
abbrev f_ref_PosMay : Nat := 18
abbrev f_poly_Of : Nat := 19
abbrev f_ref_PolyOf : Nat := 20
abbrev f_poly_Join : Nat := 21
abbrev f_ref_PolyJoin : Nat := 22
abbrev f_edit_Check : Nat := 23
abbrev f_ref_EditFault : Nat := 24
abbrev f_spans_May : Nat := 25
abbrev f_ref_SpansMay : Nat := 26
abbrev f_lines_Starts : Nat := 27
abbrev f_ref_LinesStarts : Nat := 28
abbrev f_law_sameInts : Nat := 29
abbrev f_marks_Near : Nat := 30
abbrev f_ref_MarksNear : Nat := 31
abbrev f_pos_Join : Nat := 32
abbrev f_ref_PosJoin : Nat := 33
abbrev f_edit_Place : Nat := 34
abbrev f_ref_EditPlace : Nat := 35
abbrev f_find_Border : Nat := 36
abbrev f_ref_FindBorder : Nat := 37
abbrev f_lines_Of : Nat := 38
abbrev f_ref_cutLines : Nat := 39
abbrev f_edit_Moved : Nat := 40
abbrev f_ref_editPlace : Nat := 41
abbrev f_find_border : Nat := 42

/-- fustian/fustianlaw.Names: slots [1 errs, 2 i, 3 kinds, 4 want, 5 limits, 6 most, 7 i, 8 i] -/
def law_Names_c : SCode :=
  (.seq (.ops [⟨(some 0), .mov (.c (.bool false)), none, false⟩] none [])
  (.seq (.ops [⟨(some 9), .bslice false 11 1 [(.int .i64 0), (.int .i64 0), (.int .i64 0), (.int .i64 0), (.int .i64 0), (.int .i64 0), (.int .i64 0), (.int .i64 0), (.int .i64 0), (.int .i64 0), (.int .i64 0)] [(0, 1, (.c (.int .i64 0))), (1, 1, (.c (.int .i64 1))), (2, 1, (.c (.int .i64 2))), (3, 1, (.c (.int .i64 3))), (4, 1, (.c (.int .i64 4))), (5, 1, (.c (.int .i64 5))), (6, 1, (.c (.int .i64 6))), (7, 1, (.c (.int .i64 7))), (8, 1, (.c (.int .i64 8))), (9, 1, (.c (.int .i64 9))), (10, 1, (.c (.int .i64 10)))], none, false⟩,
    ⟨(some 1), .mov (.t 9), none, false⟩] none [1])
  (.seq (.seq (.ops [⟨(some 2), .mov (.c (.int .i64 0)), none, false⟩] none [1, 2])
  (.block 0 (.loop [1] [2] 1
    (.seq (.seq (.ops [⟨(some 10), .mov (.t 2), none, false⟩,
      ⟨(some 11), .mov (.t 1), none, false⟩,
      ⟨(some 12), .len false (.t 11), none, false⟩,
      ⟨(some 13), .bin .none .lss (.t 10) (.t 12), none, false⟩] none [1, 2, 13])
    (.cond (.t 13)
      .skip
      (.exit 0)))
    (.seq (.block 1 (.seq (.ops [⟨(some 16), .mov (.t 1), none, false⟩,
      ⟨(some 17), .mov (.t 2), none, false⟩,
      ⟨(some 18), .iaddr 1 none (.t 16) (.t 17), none, false⟩,
      ⟨(some 19), .load 1 false (.t 18), none, false⟩,
      ⟨(some 20), .mov (.t 2), none, false⟩,
      ⟨(some 21), .bin .none .neq (.t 19) (.t 20), none, false⟩] none [1, 2, 21])
    (.cond (.t 21)
      (.seq (.ops [⟨(some 0), .mov (.c (.bool false)), none, false⟩] none [0])
      .ret)
      .skip)))
    (.ops [⟨(some 14), .mov (.t 2), none, false⟩,
      ⟨(some 15), .bin .none .add (.t 14) (.c (.int .i64 1)), none, false⟩,
      ⟨(some 2), .mov (.t 15), none, false⟩] none [1, 2]))))))
  (.seq (.ops [⟨(some 22), .bslice false 23 1 [(.int .i64 0), (.int .i64 0), (.int .i64 0), (.int .i64 0), (.int .i64 0), (.int .i64 0), (.int .i64 0), (.int .i64 0), (.int .i64 0), (.int .i64 0), (.int .i64 0), (.int .i64 0), (.int .i64 0), (.int .i64 0), (.int .i64 0), (.int .i64 0), (.int .i64 0), (.int .i64 0), (.int .i64 0), (.int .i64 0), (.int .i64 0), (.int .i64 0), (.int .i64 0)] [(0, 1, (.c (.int .i64 1))), (1, 1, (.c (.int .i64 2))), (2, 1, (.c (.int .i64 3))), (3, 1, (.c (.int .i64 4))), (4, 1, (.c (.int .i64 5))), (5, 1, (.c (.int .i64 1))), (6, 1, (.c (.int .i64 2))), (7, 1, (.c (.int .i64 3))), (8, 1, (.c (.int .i64 4))), (9, 1, (.c (.int .i64 1))), (10, 1, (.c (.int .i64 2))), (11, 1, (.c (.int .i64 3))), (12, 1, (.c (.int .i64 1))), (13, 1, (.c (.int .i64 2))), (14, 1, (.c (.int .i64 1))), (15, 1, (.c (.int .i64 2))), (16, 1, (.c (.int .i64 3))), (17, 1, (.c (.int .i64 4))), (18, 1, (.c (.int .i64 5))), (19, 1, (.c (.int .i64 6))), (20, 1, (.c (.int .i64 7))), (21, 1, (.c (.int .i64 8))), (22, 1, (.c (.int .i64 9)))], none, false⟩,
    ⟨(some 3), .mov (.t 22), none, false⟩] none [3])
  (.seq (.ops [⟨(some 23), .bslice false 23 1 [(.int .i64 0), (.int .i64 0), (.int .i64 0), (.int .i64 0), (.int .i64 0), (.int .i64 0), (.int .i64 0), (.int .i64 0), (.int .i64 0), (.int .i64 0), (.int .i64 0), (.int .i64 0), (.int .i64 0), (.int .i64 0), (.int .i64 0), (.int .i64 0), (.int .i64 0), (.int .i64 0), (.int .i64 0), (.int .i64 0), (.int .i64 0), (.int .i64 0), (.int .i64 0)] [(0, 1, (.c (.int .i64 1))), (1, 1, (.c (.int .i64 2))), (2, 1, (.c (.int .i64 3))), (3, 1, (.c (.int .i64 4))), (4, 1, (.c (.int .i64 5))), (5, 1, (.c (.int .i64 1))), (6, 1, (.c (.int .i64 2))), (7, 1, (.c (.int .i64 3))), (8, 1, (.c (.int .i64 4))), (9, 1, (.c (.int .i64 1))), (10, 1, (.c (.int .i64 2))), (11, 1, (.c (.int .i64 3))), (12, 1, (.c (.int .i64 1))), (13, 1, (.c (.int .i64 2))), (14, 1, (.c (.int .i64 1))), (15, 1, (.c (.int .i64 2))), (16, 1, (.c (.int .i64 3))), (17, 1, (.c (.int .i64 4))), (18, 1, (.c (.int .i64 5))), (19, 1, (.c (.int .i64 6))), (20, 1, (.c (.int .i64 7))), (21, 1, (.c (.int .i64 8))), (22, 1, (.c (.int .i64 9)))], none, false⟩,
    ⟨(some 4), .mov (.t 23), none, false⟩] none [3, 4])
  (.seq (.ops [⟨(some 24), .bslice false 18 1 [(.int .i64 0), (.int .i64 0), (.int .i64 0), (.int .i64 0), (.int .i64 0), (.int .i64 0), (.int .i64 0), (.int .i64 0), (.int .i64 0), (.int .i64 0), (.int .i64 0), (.int .i64 0), (.int .i64 0), (.int .i64 0), (.int .i64 0), (.int .i64 0), (.int .i64 0), (.int .i64 0)] [(0, 1, (.c (.int .i64 600))), (1, 1, (.c (.int .i64 80))), (2, 1, (.c (.int .i64 60))), (3, 1, (.c (.int .i64 60))), (4, 1, (.c (.int .i64 40))), (5, 1, (.c (.int .i64 60))), (6, 1, (.c (.int .i64 80))), (7, 1, (.c (.int .i64 12))), (8, 1, (.c (.int .i64 20))), (9, 1, (.c (.int .i64 20))), (10, 1, (.c (.int .i64 60))), (11, 1, (.c (.int .i64 20))), (12, 1, (.c (.int .i64 20))), (13, 1, (.c (.int .i64 50))), (14, 1, (.c (.int .i64 4))), (15, 1, (.c (.int .i64 40))), (16, 1, (.c (.int .i64 2147483647))), (17, 1, (.c (.int .i64 257)))], none, false⟩,
    ⟨(some 5), .mov (.t 24), none, false⟩] none [3, 4, 5])
  (.seq (.ops [⟨(some 25), .bslice false 18 1 [(.int .i64 0), (.int .i64 0), (.int .i64 0), (.int .i64 0), (.int .i64 0), (.int .i64 0), (.int .i64 0), (.int .i64 0), (.int .i64 0), (.int .i64 0), (.int .i64 0), (.int .i64 0), (.int .i64 0), (.int .i64 0), (.int .i64 0), (.int .i64 0), (.int .i64 0), (.int .i64 0)] [(0, 1, (.c (.int .i64 600))), (1, 1, (.c (.int .i64 80))), (2, 1, (.c (.int .i64 60))), (3, 1, (.c (.int .i64 60))), (4, 1, (.c (.int .i64 40))), (5, 1, (.c (.int .i64 60))), (6, 1, (.c (.int .i64 80))), (7, 1, (.c (.int .i64 12))), (8, 1, (.c (.int .i64 20))), (9, 1, (.c (.int .i64 20))), (10, 1, (.c (.int .i64 60))), (11, 1, (.c (.int .i64 20))), (12, 1, (.c (.int .i64 20))), (13, 1, (.c (.int .i64 50))), (14, 1, (.c (.int .i64 4))), (15, 1, (.c (.int .i64 40))), (16, 1, (.c (.int .i64 2147483647))), (17, 1, (.c (.int .i64 257)))], none, false⟩,
    ⟨(some 6), .mov (.t 25), none, false⟩] none [3, 4, 5, 6])
  (.seq (.seq (.ops [⟨(some 7), .mov (.c (.int .i64 0)), none, false⟩] none [3, 4, 5, 6, 7])
  (.block 2 (.loop [3, 4, 5, 6] [7] 5
    (.seq (.seq (.ops [⟨(some 26), .mov (.t 7), none, false⟩,
      ⟨(some 27), .mov (.t 3), none, false⟩,
      ⟨(some 28), .len false (.t 27), none, false⟩,
      ⟨(some 29), .bin .none .lss (.t 26) (.t 28), none, false⟩] none [3, 4, 5, 6, 7, 29])
    (.cond (.t 29)
      .skip
      (.exit 2)))
    (.seq (.block 3 (.seq (.ops [⟨(some 32), .mov (.t 3), none, false⟩,
      ⟨(some 33), .mov (.t 7), none, false⟩,
      ⟨(some 34), .iaddr 1 none (.t 32) (.t 33), none, false⟩,
      ⟨(some 35), .load 1 false (.t 34), none, false⟩,
      ⟨(some 36), .mov (.t 4), none, false⟩,
      ⟨(some 37), .mov (.t 7), none, false⟩,
      ⟨(some 38), .iaddr 1 none (.t 36) (.t 37), none, false⟩,
      ⟨(some 39), .load 1 false (.t 38), none, false⟩,
      ⟨(some 40), .bin .none .neq (.t 35) (.t 39), none, false⟩] (some 8) [3, 4, 5, 6, 7, 40])
    (.cond (.t 40)
      (.seq (.ops [⟨(some 0), .mov (.c (.bool false)), none, false⟩] none [0])
      .ret)
      .skip)))
    (.ops [⟨(some 30), .mov (.t 7), none, false⟩,
      ⟨(some 31), .bin .none .add (.t 30) (.c (.int .i64 1)), none, false⟩,
      ⟨(some 7), .mov (.t 31), none, false⟩] none [3, 4, 5, 6, 7]))))))
  (.seq (.seq (.ops [⟨(some 8), .mov (.c (.int .i64 0)), none, false⟩] none [3, 4, 5, 6, 8])
  (.block 4 (.loop [3, 4, 5, 6] [8] 5
    (.seq (.seq (.ops [⟨(some 41), .mov (.t 8), none, false⟩,
      ⟨(some 42), .mov (.t 5), none, false⟩,
      ⟨(some 43), .len false (.t 42), none, false⟩,
      ⟨(some 44), .bin .none .lss (.t 41) (.t 43), none, false⟩] none [3, 4, 5, 6, 8, 44])
    (.cond (.t 44)
      .skip
      (.exit 4)))
    (.seq (.block 5 (.seq (.ops [⟨(some 47), .mov (.t 5), none, false⟩,
      ⟨(some 48), .mov (.t 8), none, false⟩,
      ⟨(some 49), .iaddr 1 none (.t 47) (.t 48), none, false⟩,
      ⟨(some 50), .load 1 false (.t 49), none, false⟩,
      ⟨(some 51), .mov (.t 6), none, false⟩,
      ⟨(some 52), .mov (.t 8), none, false⟩,
      ⟨(some 53), .iaddr 1 none (.t 51) (.t 52), none, false⟩,
      ⟨(some 54), .load 1 false (.t 53), none, false⟩,
      ⟨(some 55), .bin .none .neq (.t 50) (.t 54), none, false⟩] (some 8) [3, 4, 5, 6, 8, 55])
    (.cond (.t 55)
      (.seq (.ops [⟨(some 0), .mov (.c (.bool false)), none, false⟩] none [0])
      .ret)
      .skip)))
    (.ops [⟨(some 45), .mov (.t 8), none, false⟩,
      ⟨(some 46), .bin .none .add (.t 45) (.c (.int .i64 1)), none, false⟩,
      ⟨(some 8), .mov (.t 46), none, false⟩] none [3, 4, 5, 6, 8]))))))
  (.seq (.ops [⟨(some 56), .mov (.t 3), none, false⟩,
    ⟨(some 57), .len false (.t 56), none, false⟩,
    ⟨(some 58), .mov (.t 4), none, false⟩,
    ⟨(some 59), .len false (.t 58), none, false⟩,
    ⟨(some 60), .bin .none .eql (.t 57) (.t 59), none, false⟩,
    ⟨(some 61), .mov (.t 60), none, true⟩,
    ⟨(some 62), .mov (.t 5), (some (61, true)), false⟩,
    ⟨(some 63), .len false (.t 62), (some (61, true)), false⟩,
    ⟨(some 64), .mov (.t 6), (some (61, true)), false⟩,
    ⟨(some 65), .len false (.t 64), (some (61, true)), false⟩,
    ⟨(some 66), .bin .none .eql (.t 63) (.t 65), (some (61, true)), false⟩,
    ⟨(some 67), .pick (.t 61) (.t 66) (.c (.bool false)), none, false⟩,
    ⟨(some 0), .mov (.t 67), none, false⟩] none [0])
  .ret))))))))))
def law_Names_r : List RRes := [.tmp 0]
theorem law_Names_fun {args : List AVal} {S : Store} {R : AVal → Store → Prop} (h : vcFun Try.prog law_Names_c law_Names_r args S R) (hlen : args.length ≤ 68) : ACalls Try.prog f_law_Names args S R :=
  fun_sound (fn := Try.f3) (draw_sound _ _) Try.func3 rfl (by kernel_rfl : comp Try.prog 68 _ law_Names_c = some law_Names_c) (by kernel_rfl : cRes Try.prog Try.f3.results.toList = some law_Names_r) hlen h

/-- fustian/fustianlaw.PolyMays: slots [0 h, 1 h] -/
def law_PolyMays_c : SCode :=
  (.seq (.ops [⟨(some 1), .box 0 (.t 0), none, false⟩,
    ⟨(some 2), .mov (.c (.bool false)), none, false⟩] none [1])
  (.seq (.ops [⟨(some 3), .load 2 true (.t 1), none, false⟩,
    ⟨(some 4), .call f_poly_May [(.t 3)], none, false⟩,
    ⟨(some 5), .load 2 true (.t 1), none, false⟩,
    ⟨(some 6), .call f_ref_PolyMay [(.t 5)], none, false⟩,
    ⟨(some 7), .bin .bool .eql (.t 4) (.t 6), none, false⟩,
    ⟨(some 2), .mov (.t 7), none, false⟩] (some 3) [2])
  .ret))
def law_PolyMays_r : List RRes := [.tmp 2]
theorem law_PolyMays_fun {args : List AVal} {S : Store} {R : AVal → Store → Prop} (h : vcFun Try.prog law_PolyMays_c law_PolyMays_r args S R) (hlen : args.length ≤ 8) : ACalls Try.prog f_law_PolyMays args S R :=
  fun_sound (fn := Try.f4) (draw_sound _ _) Try.func4 rfl (by kernel_rfl : comp Try.prog 8 _ law_PolyMays_c = some law_PolyMays_c) (by kernel_rfl : cRes Try.prog Try.f4.results.toList = some law_PolyMays_r) hlen h

/-- fustian/fustianlaw.PosMays: slots [0 p, 1 p] -/
def law_PosMays_c : SCode :=
  (.seq (.ops [⟨(some 1), .box 0 (.t 0), none, false⟩,
    ⟨(some 2), .mov (.c (.bool false)), none, false⟩] none [1])
  (.seq (.ops [⟨(some 3), .load 3 true (.t 1), none, false⟩,
    ⟨(some 4), .call f_pos_May [(.t 3)], none, false⟩,
    ⟨(some 5), .load 3 true (.t 1), none, false⟩,
    ⟨(some 6), .call f_ref_PosMay [(.t 5)], none, false⟩,
    ⟨(some 7), .bin .bool .eql (.t 4) (.t 6), none, false⟩,
    ⟨(some 2), .mov (.t 7), none, false⟩] (some 3) [2])
  .ret))
def law_PosMays_r : List RRes := [.tmp 2]
theorem law_PosMays_fun {args : List AVal} {S : Store} {R : AVal → Store → Prop} (h : vcFun Try.prog law_PosMays_c law_PosMays_r args S R) (hlen : args.length ≤ 8) : ACalls Try.prog f_law_PosMays args S R :=
  fun_sound (fn := Try.f5) (draw_sound _ _) Try.func5 rfl (by kernel_rfl : comp Try.prog 8 _ law_PosMays_c = some law_PosMays_c) (by kernel_rfl : cRes Try.prog Try.f5.results.toList = some law_PosMays_r) hlen h

/-- fustian/fustianlaw.PolyOfs: slots [0 text, 1 text] -/
def law_PolyOfs_c : SCode :=
  (.seq (.ops [⟨(some 2), .mov (.c (.bool false)), none, false⟩] none [0])
  (.seq (.ops [⟨(some 3), .mov (.t 0), none, false⟩,
    ⟨(some 4), .call f_poly_Of [(.t 3)], none, false⟩,
    ⟨(some 5), .mov (.t 0), none, false⟩,
    ⟨(some 6), .call f_ref_PolyOf [(.t 5)], none, false⟩,
    ⟨(some 7), .bin (.agg [.int, .int]) .eql (.t 4) (.t 6), none, false⟩,
    ⟨(some 2), .mov (.t 7), none, false⟩] none [2])
  .ret))
def law_PolyOfs_r : List RRes := [.tmp 2]
theorem law_PolyOfs_fun {args : List AVal} {S : Store} {R : AVal → Store → Prop} (h : vcFun Try.prog law_PolyOfs_c law_PolyOfs_r args S R) (hlen : args.length ≤ 8) : ACalls Try.prog f_law_PolyOfs args S R :=
  fun_sound (fn := Try.f6) (draw_sound _ _) Try.func6 rfl (by kernel_rfl : comp Try.prog 8 _ law_PolyOfs_c = some law_PolyOfs_c) (by kernel_rfl : cRes Try.prog Try.f6.results.toList = some law_PolyOfs_r) hlen h

/-- fustian/fustianlaw.PolyJoins: slots [0 a, 1 b, 2 a, 3 b, 5 x, 6 e, 7 y, 8 f] -/
def law_PolyJoins_c : SCode :=
  (.seq (.ops [⟨(some 2), .box 0 (.t 0), none, false⟩,
    ⟨(some 3), .box 0 (.t 1), none, false⟩,
    ⟨(some 4), .mov (.c (.bool false)), none, false⟩] none [2, 3])
  (.seq (.ops [⟨(some 10), .load 2 true (.t 2), none, false⟩,
    ⟨(some 11), .load 2 true (.t 3), none, false⟩,
    ⟨(some 12), .call f_poly_Join [(.t 10), (.t 11)], none, false⟩,
    ⟨(some 9), .mov (.t 12), none, false⟩,
    ⟨(some 13), .extract (.t 9) 0, none, false⟩,
    ⟨(some 14), .extract (.t 9) 1, none, false⟩,
    ⟨(some 5), .alloc 0 [(.int .i64 0), (.int .i64 0)], none, false⟩,
    ⟨none, .store 2 (.t 5) (.t 13), none, false⟩,
    ⟨(some 6), .mov (.t 14), none, false⟩] none [2, 3, 5, 6])
  (.seq (.ops [⟨(some 16), .load 2 true (.t 2), none, false⟩,
    ⟨(some 17), .load 2 true (.t 3), none, false⟩,
    ⟨(some 18), .call f_ref_PolyJoin [(.t 16), (.t 17)], none, false⟩,
    ⟨(some 15), .mov (.t 18), none, false⟩,
    ⟨(some 19), .extract (.t 15) 0, none, false⟩,
    ⟨(some 20), .extract (.t 15) 1, none, false⟩,
    ⟨(some 7), .alloc 0 [(.int .i64 0), (.int .i64 0)], none, false⟩,
    ⟨none, .store 2 (.t 7) (.t 19), none, false⟩,
    ⟨(some 8), .mov (.t 20), none, false⟩] none [5, 6, 7, 8])
  (.seq (.ops [⟨(some 21), .load 2 true (.t 5), none, false⟩,
    ⟨(some 22), .load 2 true (.t 7), none, false⟩,
    ⟨(some 23), .bin (.agg [.int, .int]) .eql (.t 21) (.t 22), none, false⟩,
    ⟨(some 24), .mov (.t 23), none, true⟩,
    ⟨(some 25), .mov (.t 6), (some (24, true)), false⟩,
    ⟨(some 26), .mov (.t 8), (some (24, true)), false⟩,
    ⟨(some 27), .bin .none .eql (.t 25) (.t 26), (some (24, true)), false⟩,
    ⟨(some 28), .pick (.t 24) (.t 27) (.c (.bool false)), none, false⟩,
    ⟨(some 4), .mov (.t 28), none, false⟩] none [4])
  .ret))))
def law_PolyJoins_r : List RRes := [.tmp 4]
theorem law_PolyJoins_fun {args : List AVal} {S : Store} {R : AVal → Store → Prop} (h : vcFun Try.prog law_PolyJoins_c law_PolyJoins_r args S R) (hlen : args.length ≤ 29) : ACalls Try.prog f_law_PolyJoins args S R :=
  fun_sound (fn := Try.f7) (draw_sound _ _) Try.func7 rfl (by kernel_rfl : comp Try.prog 29 _ law_PolyJoins_c = some law_PolyJoins_c) (by kernel_rfl : cRes Try.prog Try.f7.results.toList = some law_PolyJoins_r) hlen h

/-- fustian/fustianlaw.EditChecks: slots [0 size, 1 e, 2 size, 3 e] -/
def law_EditChecks_c : SCode :=
  (.seq (.ops [⟨(some 3), .box 0 (.t 1), none, false⟩,
    ⟨(some 4), .mov (.c (.bool false)), none, false⟩] none [0, 3])
  (.seq (.ops [⟨(some 5), .mov (.t 0), none, false⟩,
    ⟨(some 6), .load 3 true (.t 3), none, false⟩,
    ⟨(some 7), .call f_edit_Check [(.t 5), (.t 6)], none, false⟩,
    ⟨(some 8), .mov (.t 0), none, false⟩,
    ⟨(some 9), .load 3 true (.t 3), none, false⟩,
    ⟨(some 10), .call f_ref_EditFault [(.t 8), (.t 9)], none, false⟩,
    ⟨(some 11), .bin .none .eql (.t 7) (.t 10), none, false⟩,
    ⟨(some 4), .mov (.t 11), none, false⟩] (some 5) [4])
  .ret))
def law_EditChecks_r : List RRes := [.tmp 4]
theorem law_EditChecks_fun {args : List AVal} {S : Store} {R : AVal → Store → Prop} (h : vcFun Try.prog law_EditChecks_c law_EditChecks_r args S R) (hlen : args.length ≤ 12) : ACalls Try.prog f_law_EditChecks args S R :=
  fun_sound (fn := Try.f8) (draw_sound _ _) Try.func8 rfl (by kernel_rfl : comp Try.prog 12 _ law_EditChecks_c = some law_EditChecks_c) (by kernel_rfl : cRes Try.prog Try.f8.results.toList = some law_EditChecks_r) hlen h

/-- fustian/fustianlaw.SpansMays: slots [0 size, 1 l, 2 size, 3 l] -/
def law_SpansMays_c : SCode :=
  (.seq (.ops [⟨(some 4), .mov (.c (.bool false)), none, false⟩] none [0, 1])
  (.seq (.ops [⟨(some 5), .mov (.t 0), none, false⟩,
    ⟨(some 6), .mov (.t 1), none, false⟩,
    ⟨(some 7), .call f_spans_May [(.t 5), (.t 6)], none, false⟩,
    ⟨(some 8), .mov (.t 0), none, false⟩,
    ⟨(some 9), .mov (.t 1), none, false⟩,
    ⟨(some 10), .call f_ref_SpansMay [(.t 8), (.t 9)], none, false⟩,
    ⟨(some 11), .bin .bool .eql (.t 7) (.t 10), none, false⟩,
    ⟨(some 4), .mov (.t 11), none, false⟩] none [4])
  .ret))
def law_SpansMays_r : List RRes := [.tmp 4]
theorem law_SpansMays_fun {args : List AVal} {S : Store} {R : AVal → Store → Prop} (h : vcFun Try.prog law_SpansMays_c law_SpansMays_r args S R) (hlen : args.length ≤ 12) : ACalls Try.prog f_law_SpansMays args S R :=
  fun_sound (fn := Try.f9) (draw_sound _ _) Try.func9 rfl (by kernel_rfl : comp Try.prog 12 _ law_SpansMays_c = some law_SpansMays_c) (by kernel_rfl : cRes Try.prog Try.f9.results.toList = some law_SpansMays_r) hlen h

/-- fustian/fustianlaw.LinesStarts: slots [0 text, 1 text, 3 x, 4 e, 5 y, 6 f] -/
def law_LinesStarts_c : SCode :=
  (.seq (.ops [⟨(some 2), .mov (.c (.bool false)), none, false⟩] none [0])
  (.seq (.ops [⟨(some 8), .mov (.t 0), none, false⟩,
    ⟨(some 9), .call f_lines_Starts [(.t 8)], none, false⟩,
    ⟨(some 7), .mov (.t 9), none, false⟩,
    ⟨(some 10), .extract (.t 7) 0, none, false⟩,
    ⟨(some 11), .extract (.t 7) 1, none, false⟩,
    ⟨(some 3), .mov (.t 10), none, false⟩,
    ⟨(some 4), .mov (.t 11), none, false⟩] none [0, 3, 4])
  (.seq (.ops [⟨(some 13), .mov (.t 0), none, false⟩,
    ⟨(some 14), .call f_ref_LinesStarts [(.t 13)], none, false⟩,
    ⟨(some 12), .mov (.t 14), none, false⟩,
    ⟨(some 15), .extract (.t 12) 0, none, false⟩,
    ⟨(some 16), .extract (.t 12) 1, none, false⟩,
    ⟨(some 5), .mov (.t 15), none, false⟩,
    ⟨(some 6), .mov (.t 16), none, false⟩] none [3, 4, 5, 6])
  (.seq (.ops [⟨(some 17), .mov (.t 3), none, false⟩,
    ⟨(some 18), .mov (.t 5), none, false⟩,
    ⟨(some 19), .call f_law_sameInts [(.t 17), (.t 18)], none, false⟩,
    ⟨(some 20), .mov (.t 19), none, true⟩,
    ⟨(some 21), .mov (.t 4), (some (20, true)), false⟩,
    ⟨(some 22), .mov (.t 6), (some (20, true)), false⟩,
    ⟨(some 23), .bin .none .eql (.t 21) (.t 22), (some (20, true)), false⟩,
    ⟨(some 24), .pick (.t 20) (.t 23) (.c (.bool false)), none, false⟩,
    ⟨(some 2), .mov (.t 24), none, false⟩] none [2])
  .ret))))
def law_LinesStarts_r : List RRes := [.tmp 2]
theorem law_LinesStarts_fun {args : List AVal} {S : Store} {R : AVal → Store → Prop} (h : vcFun Try.prog law_LinesStarts_c law_LinesStarts_r args S R) (hlen : args.length ≤ 25) : ACalls Try.prog f_law_LinesStarts args S R :=
  fun_sound (fn := Try.f10) (draw_sound _ _) Try.func10 rfl (by kernel_rfl : comp Try.prog 25 _ law_LinesStarts_c = some law_LinesStarts_c) (by kernel_rfl : cRes Try.prog Try.f10.results.toList = some law_LinesStarts_r) hlen h

/-- fustian/fustianlaw.MarksNears: slots [0 ms, 1 at, 2 right, 3 ms, 4 at, 5 right, 7 x, 8 e, 9 y, 10 f] -/
def law_MarksNears_c : SCode :=
  (.seq (.ops [⟨(some 6), .mov (.c (.bool false)), none, false⟩] none [0, 1, 2])
  (.seq (.ops [⟨(some 12), .mov (.t 0), none, false⟩,
    ⟨(some 13), .mov (.t 1), none, false⟩,
    ⟨(some 14), .mov (.t 2), none, false⟩,
    ⟨(some 15), .call f_marks_Near [(.t 12), (.t 13), (.t 14)], none, false⟩,
    ⟨(some 11), .mov (.t 15), none, false⟩,
    ⟨(some 16), .extract (.t 11) 0, none, false⟩,
    ⟨(some 17), .extract (.t 11) 1, none, false⟩,
    ⟨(some 7), .mov (.t 16), none, false⟩,
    ⟨(some 8), .mov (.t 17), none, false⟩] none [0, 1, 2, 7, 8])
  (.seq (.ops [⟨(some 19), .mov (.t 0), none, false⟩,
    ⟨(some 20), .mov (.t 1), none, false⟩,
    ⟨(some 21), .mov (.t 2), none, false⟩,
    ⟨(some 22), .call f_ref_MarksNear [(.t 19), (.t 20), (.t 21)], none, false⟩,
    ⟨(some 18), .mov (.t 22), none, false⟩,
    ⟨(some 23), .extract (.t 18) 0, none, false⟩,
    ⟨(some 24), .extract (.t 18) 1, none, false⟩,
    ⟨(some 9), .mov (.t 23), none, false⟩,
    ⟨(some 10), .mov (.t 24), none, false⟩] none [7, 8, 9, 10])
  (.seq (.ops [⟨(some 25), .mov (.t 7), none, false⟩,
    ⟨(some 26), .mov (.t 9), none, false⟩,
    ⟨(some 27), .bin .none .eql (.t 25) (.t 26), none, false⟩,
    ⟨(some 28), .mov (.t 27), none, true⟩,
    ⟨(some 29), .mov (.t 8), (some (28, true)), false⟩,
    ⟨(some 30), .mov (.t 10), (some (28, true)), false⟩,
    ⟨(some 31), .bin .none .eql (.t 29) (.t 30), (some (28, true)), false⟩,
    ⟨(some 32), .pick (.t 28) (.t 31) (.c (.bool false)), none, false⟩,
    ⟨(some 6), .mov (.t 32), none, false⟩] none [6])
  .ret))))
def law_MarksNears_r : List RRes := [.tmp 6]
theorem law_MarksNears_fun {args : List AVal} {S : Store} {R : AVal → Store → Prop} (h : vcFun Try.prog law_MarksNears_c law_MarksNears_r args S R) (hlen : args.length ≤ 33) : ACalls Try.prog f_law_MarksNears args S R :=
  fun_sound (fn := Try.f11) (draw_sound _ _) Try.func11 rfl (by kernel_rfl : comp Try.prog 33 _ law_MarksNears_c = some law_MarksNears_c) (by kernel_rfl : cRes Try.prog Try.f11.results.toList = some law_MarksNears_r) hlen h

/-- fustian/fustianlaw.PosJoins: slots [0 a, 1 b, 2 a, 3 b, 5 x, 6 e, 7 y, 8 f] -/
def law_PosJoins_c : SCode :=
  (.seq (.ops [⟨(some 2), .box 0 (.t 0), none, false⟩,
    ⟨(some 3), .box 0 (.t 1), none, false⟩,
    ⟨(some 4), .mov (.c (.bool false)), none, false⟩] none [2, 3])
  (.seq (.ops [⟨(some 10), .load 3 true (.t 2), none, false⟩,
    ⟨(some 11), .load 3 true (.t 3), none, false⟩,
    ⟨(some 12), .call f_pos_Join [(.t 10), (.t 11)], none, false⟩,
    ⟨(some 9), .mov (.t 12), none, false⟩,
    ⟨(some 13), .extract (.t 9) 0, none, false⟩,
    ⟨(some 14), .extract (.t 9) 1, none, false⟩,
    ⟨(some 5), .alloc 0 [(.int .i64 0), (.int .i64 0), (.int .i64 0)], none, false⟩,
    ⟨none, .store 3 (.t 5) (.t 13), none, false⟩,
    ⟨(some 6), .mov (.t 14), none, false⟩] none [2, 3, 5, 6])
  (.seq (.ops [⟨(some 16), .load 3 true (.t 2), none, false⟩,
    ⟨(some 17), .load 3 true (.t 3), none, false⟩,
    ⟨(some 18), .call f_ref_PosJoin [(.t 16), (.t 17)], none, false⟩,
    ⟨(some 15), .mov (.t 18), none, false⟩,
    ⟨(some 19), .extract (.t 15) 0, none, false⟩,
    ⟨(some 20), .extract (.t 15) 1, none, false⟩,
    ⟨(some 7), .alloc 0 [(.int .i64 0), (.int .i64 0), (.int .i64 0)], none, false⟩,
    ⟨none, .store 3 (.t 7) (.t 19), none, false⟩,
    ⟨(some 8), .mov (.t 20), none, false⟩] none [5, 6, 7, 8])
  (.seq (.ops [⟨(some 21), .load 3 true (.t 5), none, false⟩,
    ⟨(some 22), .load 3 true (.t 7), none, false⟩,
    ⟨(some 23), .bin (.agg [.int, .int, .int]) .eql (.t 21) (.t 22), none, false⟩,
    ⟨(some 24), .mov (.t 23), none, true⟩,
    ⟨(some 25), .mov (.t 6), (some (24, true)), false⟩,
    ⟨(some 26), .mov (.t 8), (some (24, true)), false⟩,
    ⟨(some 27), .bin .none .eql (.t 25) (.t 26), (some (24, true)), false⟩,
    ⟨(some 28), .pick (.t 24) (.t 27) (.c (.bool false)), none, false⟩,
    ⟨(some 4), .mov (.t 28), none, false⟩] none [4])
  .ret))))
def law_PosJoins_r : List RRes := [.tmp 4]
theorem law_PosJoins_fun {args : List AVal} {S : Store} {R : AVal → Store → Prop} (h : vcFun Try.prog law_PosJoins_c law_PosJoins_r args S R) (hlen : args.length ≤ 29) : ACalls Try.prog f_law_PosJoins args S R :=
  fun_sound (fn := Try.f12) (draw_sound _ _) Try.func12 rfl (by kernel_rfl : comp Try.prog 29 _ law_PosJoins_c = some law_PosJoins_c) (by kernel_rfl : cRes Try.prog Try.f12.results.toList = some law_PosJoins_r) hlen h

/-- fustian/fustianlaw.EditPlaces: slots [0 x, 1 at, 2 right, 3 x, 4 at, 5 right, 7 n, 8 e, 9 m, 10 f] -/
def law_EditPlaces_c : SCode :=
  (.seq (.ops [⟨(some 3), .box 0 (.t 0), none, false⟩,
    ⟨(some 6), .mov (.c (.bool false)), none, false⟩] none [1, 2, 3])
  (.seq (.ops [⟨(some 12), .load 3 true (.t 3), none, false⟩,
    ⟨(some 13), .mov (.t 1), none, false⟩,
    ⟨(some 14), .mov (.t 2), none, false⟩,
    ⟨(some 15), .call f_edit_Place [(.t 12), (.t 13), (.t 14)], none, false⟩,
    ⟨(some 11), .mov (.t 15), none, false⟩,
    ⟨(some 16), .extract (.t 11) 0, none, false⟩,
    ⟨(some 17), .extract (.t 11) 1, none, false⟩,
    ⟨(some 7), .mov (.t 16), none, false⟩,
    ⟨(some 8), .mov (.t 17), none, false⟩] none [1, 2, 3, 7, 8])
  (.seq (.ops [⟨(some 19), .load 3 true (.t 3), none, false⟩,
    ⟨(some 20), .mov (.t 1), none, false⟩,
    ⟨(some 21), .mov (.t 2), none, false⟩,
    ⟨(some 22), .call f_ref_EditPlace [(.t 19), (.t 20), (.t 21)], none, false⟩,
    ⟨(some 18), .mov (.t 22), none, false⟩,
    ⟨(some 23), .extract (.t 18) 0, none, false⟩,
    ⟨(some 24), .extract (.t 18) 1, none, false⟩,
    ⟨(some 9), .mov (.t 23), none, false⟩,
    ⟨(some 10), .mov (.t 24), none, false⟩] none [7, 8, 9, 10])
  (.seq (.ops [⟨(some 25), .mov (.t 7), none, false⟩,
    ⟨(some 26), .mov (.t 9), none, false⟩,
    ⟨(some 27), .bin .none .eql (.t 25) (.t 26), none, false⟩,
    ⟨(some 28), .mov (.t 27), none, true⟩,
    ⟨(some 29), .mov (.t 8), (some (28, true)), false⟩,
    ⟨(some 30), .mov (.t 10), (some (28, true)), false⟩,
    ⟨(some 31), .bin .none .eql (.t 29) (.t 30), (some (28, true)), false⟩,
    ⟨(some 32), .pick (.t 28) (.t 31) (.c (.bool false)), none, false⟩,
    ⟨(some 6), .mov (.t 32), none, false⟩] none [6])
  .ret))))
def law_EditPlaces_r : List RRes := [.tmp 6]
theorem law_EditPlaces_fun {args : List AVal} {S : Store} {R : AVal → Store → Prop} (h : vcFun Try.prog law_EditPlaces_c law_EditPlaces_r args S R) (hlen : args.length ≤ 33) : ACalls Try.prog f_law_EditPlaces args S R :=
  fun_sound (fn := Try.f13) (draw_sound _ _) Try.func13 rfl (by kernel_rfl : comp Try.prog 33 _ law_EditPlaces_c = some law_EditPlaces_c) (by kernel_rfl : cRes Try.prog Try.f13.results.toList = some law_EditPlaces_r) hlen h

/-- fustian/fustianlaw.FindBorders: slots [0 s, 1 s, 3 x, 4 e, 5 y, 6 f] -/
def law_FindBorders_c : SCode :=
  (.seq (.ops [⟨(some 2), .mov (.c (.bool false)), none, false⟩] none [0])
  (.seq (.ops [⟨(some 8), .mov (.t 0), none, false⟩,
    ⟨(some 9), .call f_find_Border [(.t 8)], none, false⟩,
    ⟨(some 7), .mov (.t 9), none, false⟩,
    ⟨(some 10), .extract (.t 7) 0, none, false⟩,
    ⟨(some 11), .extract (.t 7) 1, none, false⟩,
    ⟨(some 3), .mov (.t 10), none, false⟩,
    ⟨(some 4), .mov (.t 11), none, false⟩] none [0, 3, 4])
  (.seq (.ops [⟨(some 13), .mov (.t 0), none, false⟩,
    ⟨(some 14), .call f_ref_FindBorder [(.t 13)], none, false⟩,
    ⟨(some 12), .mov (.t 14), none, false⟩,
    ⟨(some 15), .extract (.t 12) 0, none, false⟩,
    ⟨(some 16), .extract (.t 12) 1, none, false⟩,
    ⟨(some 5), .mov (.t 15), none, false⟩,
    ⟨(some 6), .mov (.t 16), none, false⟩] none [3, 4, 5, 6])
  (.seq (.ops [⟨(some 17), .mov (.t 3), none, false⟩,
    ⟨(some 18), .mov (.t 5), none, false⟩,
    ⟨(some 19), .call f_law_sameInts [(.t 17), (.t 18)], none, false⟩,
    ⟨(some 20), .mov (.t 19), none, true⟩,
    ⟨(some 21), .mov (.t 4), (some (20, true)), false⟩,
    ⟨(some 22), .mov (.t 6), (some (20, true)), false⟩,
    ⟨(some 23), .bin .none .eql (.t 21) (.t 22), (some (20, true)), false⟩,
    ⟨(some 24), .pick (.t 20) (.t 23) (.c (.bool false)), none, false⟩,
    ⟨(some 2), .mov (.t 24), none, false⟩] none [2])
  .ret))))
def law_FindBorders_r : List RRes := [.tmp 2]
theorem law_FindBorders_fun {args : List AVal} {S : Store} {R : AVal → Store → Prop} (h : vcFun Try.prog law_FindBorders_c law_FindBorders_r args S R) (hlen : args.length ≤ 25) : ACalls Try.prog f_law_FindBorders args S R :=
  fun_sound (fn := Try.f14) (draw_sound _ _) Try.func14 rfl (by kernel_rfl : comp Try.prog 25 _ law_FindBorders_c = some law_FindBorders_c) (by kernel_rfl : cRes Try.prog Try.f14.results.toList = some law_FindBorders_r) hlen h

/-- fustian/poly.May: slots [0 h, 1 h] -/
def poly_May_c : SCode :=
  (.seq (.ops [⟨(some 1), .box 0 (.t 0), none, false⟩,
    ⟨(some 2), .mov (.c (.bool false)), none, false⟩] none [1])
  (.seq (.ops [⟨(some 3), .faddr 0 (.t 1), none, false⟩,
    ⟨(some 4), .load 1 false (.t 3), none, false⟩,
    ⟨(some 5), .bin .none .geq (.t 4) (.c (.int .i64 0)), none, false⟩,
    ⟨(some 6), .mov (.t 5), none, true⟩,
    ⟨(some 7), .faddr 0 (.t 1), (some (6, true)), false⟩,
    ⟨(some 8), .load 1 false (.t 7), (some (6, true)), false⟩,
    ⟨(some 9), .bin .none .lss (.t 8) (.c (.int .i64 2147483647)), (some (6, true)), false⟩,
    ⟨(some 10), .pick (.t 6) (.t 9) (.c (.bool false)), none, false⟩,
    ⟨(some 11), .mov (.t 10), none, true⟩,
    ⟨(some 12), .faddr 1 (.t 1), (some (11, true)), false⟩,
    ⟨(some 13), .load 1 false (.t 12), (some (11, true)), false⟩,
    ⟨(some 14), .bin .none .gtr (.t 13) (.c (.int .i64 0)), (some (11, true)), false⟩,
    ⟨(some 15), .pick (.t 11) (.t 14) (.c (.bool false)), none, false⟩,
    ⟨(some 16), .mov (.t 15), none, true⟩,
    ⟨(some 17), .faddr 1 (.t 1), (some (16, true)), false⟩,
    ⟨(some 18), .load 1 false (.t 17), (some (16, true)), false⟩,
    ⟨(some 19), .bin .none .lss (.t 18) (.c (.int .i64 2147483647)), (some (16, true)), false⟩,
    ⟨(some 20), .pick (.t 16) (.t 19) (.c (.bool false)), none, false⟩,
    ⟨(some 2), .mov (.t 20), none, false⟩] none [2])
  .ret))
def poly_May_r : List RRes := [.tmp 2]
theorem poly_May_fun {args : List AVal} {S : Store} {R : AVal → Store → Prop} (h : vcFun Try.prog poly_May_c poly_May_r args S R) (hlen : args.length ≤ 21) : ACalls Try.prog f_poly_May args S R :=
  fun_sound (fn := Try.f15) (draw_sound _ _) Try.func15 rfl (by kernel_rfl : comp Try.prog 21 _ poly_May_c = some poly_May_c) (by kernel_rfl : cRes Try.prog Try.f15.results.toList = some poly_May_r) hlen h

/-- fustian/fustianref.PolyMay: slots [0 h, 1 h] -/
def ref_PolyMay_c : SCode :=
  (.seq (.ops [⟨(some 1), .box 0 (.t 0), none, false⟩,
    ⟨(some 2), .mov (.c (.bool false)), none, false⟩] none [1])
  (.seq (.ops [⟨(some 3), .faddr 0 (.t 1), none, false⟩,
    ⟨(some 4), .load 1 false (.t 3), none, false⟩,
    ⟨(some 5), .bin .none .geq (.t 4) (.c (.int .i64 0)), none, false⟩,
    ⟨(some 6), .mov (.t 5), none, true⟩,
    ⟨(some 7), .faddr 0 (.t 1), (some (6, true)), false⟩,
    ⟨(some 8), .load 1 false (.t 7), (some (6, true)), false⟩,
    ⟨(some 9), .bin .none .leq (.t 8) (.c (.int .i64 2147483646)), (some (6, true)), false⟩,
    ⟨(some 10), .pick (.t 6) (.t 9) (.c (.bool false)), none, false⟩,
    ⟨(some 11), .mov (.t 10), none, true⟩,
    ⟨(some 12), .faddr 1 (.t 1), (some (11, true)), false⟩,
    ⟨(some 13), .load 1 false (.t 12), (some (11, true)), false⟩,
    ⟨(some 14), .bin .none .geq (.t 13) (.c (.int .i64 1)), (some (11, true)), false⟩,
    ⟨(some 15), .pick (.t 11) (.t 14) (.c (.bool false)), none, false⟩,
    ⟨(some 16), .mov (.t 15), none, true⟩,
    ⟨(some 17), .faddr 1 (.t 1), (some (16, true)), false⟩,
    ⟨(some 18), .load 1 false (.t 17), (some (16, true)), false⟩,
    ⟨(some 19), .bin .none .leq (.t 18) (.c (.int .i64 2147483646)), (some (16, true)), false⟩,
    ⟨(some 20), .pick (.t 16) (.t 19) (.c (.bool false)), none, false⟩,
    ⟨(some 2), .mov (.t 20), none, false⟩] none [2])
  .ret))
def ref_PolyMay_r : List RRes := [.tmp 2]
theorem ref_PolyMay_fun {args : List AVal} {S : Store} {R : AVal → Store → Prop} (h : vcFun Try.prog ref_PolyMay_c ref_PolyMay_r args S R) (hlen : args.length ≤ 21) : ACalls Try.prog f_ref_PolyMay args S R :=
  fun_sound (fn := Try.f16) (draw_sound _ _) Try.func16 rfl (by kernel_rfl : comp Try.prog 21 _ ref_PolyMay_c = some ref_PolyMay_c) (by kernel_rfl : cRes Try.prog Try.f16.results.toList = some ref_PolyMay_r) hlen h

/-- fustian/pos.May: slots [0 p, 1 p] -/
def pos_May_c : SCode :=
  (.seq (.ops [⟨(some 1), .box 0 (.t 0), none, false⟩,
    ⟨(some 2), .mov (.c (.bool false)), none, false⟩] none [1])
  (.seq (.seq (.ops [⟨(some 3), .faddr 0 (.t 1), none, false⟩,
    ⟨(some 4), .load 1 false (.t 3), none, false⟩,
    ⟨(some 5), .bin .none .lss (.t 4) (.c (.int .i64 0)), none, false⟩,
    ⟨(some 6), .mov (.t 5), none, true⟩,
    ⟨(some 7), .faddr 1 (.t 1), (some (6, false)), false⟩,
    ⟨(some 8), .load 1 false (.t 7), (some (6, false)), false⟩,
    ⟨(some 9), .bin .none .lss (.t 8) (.c (.int .i64 0)), (some (6, false)), false⟩,
    ⟨(some 10), .pick (.t 6) (.c (.bool true)) (.t 9), none, false⟩,
    ⟨(some 11), .mov (.t 10), none, true⟩,
    ⟨(some 12), .faddr 2 (.t 1), (some (11, false)), false⟩,
    ⟨(some 13), .load 1 false (.t 12), (some (11, false)), false⟩,
    ⟨(some 14), .bin .none .lss (.t 13) (.c (.int .i64 0)), (some (11, false)), false⟩,
    ⟨(some 15), .pick (.t 11) (.c (.bool true)) (.t 14), none, false⟩,
    ⟨(some 16), .mov (.t 15), none, true⟩,
    ⟨(some 17), .faddr 0 (.t 1), (some (16, false)), false⟩,
    ⟨(some 18), .load 1 false (.t 17), (some (16, false)), false⟩,
    ⟨(some 19), .faddr 1 (.t 1), (some (16, false)), false⟩,
    ⟨(some 20), .load 1 false (.t 19), (some (16, false)), false⟩,
    ⟨(some 21), .faddr 2 (.t 1), (some (16, false)), false⟩,
    ⟨(some 22), .load 1 false (.t 21), (some (16, false)), false⟩,
    ⟨(some 23), .max [(.t 18), (.t 20), (.t 22)], (some (16, false)), false⟩,
    ⟨(some 24), .bin .none .gtr (.t 23) (.c (.int .i64 1099511627776)), (some (16, false)), false⟩,
    ⟨(some 25), .pick (.t 16) (.c (.bool true)) (.t 24), none, false⟩] none [1, 25])
  (.cond (.t 25)
    (.seq (.ops [⟨(some 2), .mov (.c (.bool false)), none, false⟩] none [2])
    .ret)
    .skip))
  (.seq (.ops [⟨(some 26), .faddr 1 (.t 1), none, false⟩,
    ⟨(some 27), .load 1 false (.t 26), none, false⟩,
    ⟨(some 28), .faddr 2 (.t 1), none, false⟩,
    ⟨(some 29), .load 1 false (.t 28), none, false⟩,
    ⟨(some 30), .bin .none .add (.t 27) (.t 29), none, false⟩,
    ⟨(some 31), .faddr 0 (.t 1), none, false⟩,
    ⟨(some 32), .load 1 false (.t 31), none, false⟩,
    ⟨(some 33), .bin .none .leq (.t 30) (.t 32), none, false⟩,
    ⟨(some 34), .mov (.t 33), none, true⟩,
    ⟨(some 35), .faddr 1 (.t 1), (some (34, true)), false⟩,
    ⟨(some 36), .load 1 false (.t 35), (some (34, true)), false⟩,
    ⟨(some 37), .bin .none .gtr (.t 36) (.c (.int .i64 0)), (some (34, true)), false⟩,
    ⟨(some 38), .mov (.t 37), (some (34, true)), true⟩,
    ⟨(some 39), .faddr 2 (.t 1), (some (38, false)), false⟩,
    ⟨(some 40), .load 1 false (.t 39), (some (38, false)), false⟩,
    ⟨(some 41), .faddr 0 (.t 1), (some (38, false)), false⟩,
    ⟨(some 42), .load 1 false (.t 41), (some (38, false)), false⟩,
    ⟨(some 43), .bin .none .eql (.t 40) (.t 42), (some (38, false)), false⟩,
    ⟨(some 44), .pick (.t 38) (.c (.bool true)) (.t 43), (some (34, true)), false⟩,
    ⟨(some 45), .pick (.t 34) (.t 44) (.c (.bool false)), none, false⟩,
    ⟨(some 2), .mov (.t 45), none, false⟩] none [2])
  .ret)))
def pos_May_r : List RRes := [.tmp 2]
theorem pos_May_fun {args : List AVal} {S : Store} {R : AVal → Store → Prop} (h : vcFun Try.prog pos_May_c pos_May_r args S R) (hlen : args.length ≤ 46) : ACalls Try.prog f_pos_May args S R :=
  fun_sound (fn := Try.f17) (draw_sound _ _) Try.func17 rfl (by kernel_rfl : comp Try.prog 46 _ pos_May_c = some pos_May_c) (by kernel_rfl : cRes Try.prog Try.f17.results.toList = some pos_May_r) hlen h

/-- fustian/fustianref.PosMay: slots [0 p, 1 p, 3 _, 4 n] -/
def ref_PosMay_c : SCode :=
  (.seq (.ops [⟨(some 1), .box 0 (.t 0), none, false⟩,
    ⟨(some 2), .mov (.c (.bool false)), none, false⟩] none [1])
  (.seq (.seq (.ops [⟨(some 5), .faddr 0 (.t 1), none, false⟩,
    ⟨(some 6), .load 1 false (.t 5), none, false⟩,
    ⟨(some 7), .faddr 1 (.t 1), none, false⟩,
    ⟨(some 8), .load 1 false (.t 7), none, false⟩,
    ⟨(some 9), .faddr 2 (.t 1), none, false⟩,
    ⟨(some 10), .load 1 false (.t 9), none, false⟩,
    ⟨(some 11), .bslice false 3 1 [(.int .i64 0), (.int .i64 0), (.int .i64 0)] [(0, 1, (.t 6)), (1, 1, (.t 8)), (2, 1, (.t 10))], none, false⟩,
    ⟨(some 12), .len false (.t 11), none, false⟩,
    ⟨(some 13), .mov (.c (.int .i64 0)), none, false⟩] none [1, 11, 12, 13])
  (.block 0 (.loop [1, 11, 12] [13] 2
    (.seq (.ops [⟨(some 14), .bin .none .lss (.t 13) (.t 12), none, false⟩] none [1, 11, 12, 13, 14])
    (.seq (.cond (.t 14)
      .skip
      (.exit 0))
    (.seq (.block 1 (.seq (.ops [⟨(some 15), .iaddr 1 none (.t 11) (.t 13), none, false⟩,
      ⟨(some 16), .load 1 false (.t 15), none, false⟩,
      ⟨(some 4), .mov (.t 16), none, false⟩] none [1, 4, 11, 12, 13])
    (.seq (.ops [⟨(some 17), .mov (.t 4), none, false⟩,
      ⟨(some 18), .bin .none .lss (.t 17) (.c (.int .i64 0)), none, false⟩,
      ⟨(some 19), .mov (.t 18), none, true⟩,
      ⟨(some 20), .mov (.t 4), (some (19, false)), false⟩,
      ⟨(some 21), .bin .none .gtr (.t 20) (.c (.int .i64 1099511627776)), (some (19, false)), false⟩,
      ⟨(some 22), .pick (.t 19) (.c (.bool true)) (.t 21), none, false⟩] none [1, 11, 12, 13, 22])
    (.cond (.t 22)
      (.seq (.ops [⟨(some 2), .mov (.c (.bool false)), none, false⟩] none [2])
      .ret)
      .skip))))
    (.ops [⟨(some 23), .bin .none .add (.t 13) (.c (.int .i64 1)), none, false⟩,
      ⟨(some 13), .mov (.t 23), none, false⟩] none [1, 11, 12, 13])))))))
  (.seq (.seq (.ops [⟨(some 24), .faddr 1 (.t 1), none, false⟩,
    ⟨(some 25), .load 1 false (.t 24), none, false⟩,
    ⟨(some 26), .bin .none .eql (.t 25) (.c (.int .i64 0)), none, false⟩] none [1, 26])
  (.cond (.t 26)
    (.seq (.ops [⟨(some 27), .faddr 2 (.t 1), none, false⟩,
      ⟨(some 28), .load 1 false (.t 27), none, false⟩,
      ⟨(some 29), .faddr 0 (.t 1), none, false⟩,
      ⟨(some 30), .load 1 false (.t 29), none, false⟩,
      ⟨(some 31), .bin .none .eql (.t 28) (.t 30), none, false⟩,
      ⟨(some 2), .mov (.t 31), none, false⟩] none [2])
    .ret)
    .skip))
  (.seq (.ops [⟨(some 32), .faddr 0 (.t 1), none, false⟩,
    ⟨(some 33), .load 1 false (.t 32), none, false⟩,
    ⟨(some 34), .faddr 2 (.t 1), none, false⟩,
    ⟨(some 35), .load 1 false (.t 34), none, false⟩,
    ⟨(some 36), .bin .none .sub (.t 33) (.t 35), none, false⟩,
    ⟨(some 37), .faddr 1 (.t 1), none, false⟩,
    ⟨(some 38), .load 1 false (.t 37), none, false⟩,
    ⟨(some 39), .bin .none .geq (.t 36) (.t 38), none, false⟩,
    ⟨(some 2), .mov (.t 39), none, false⟩] none [2])
  .ret))))
def ref_PosMay_r : List RRes := [.tmp 2]
theorem ref_PosMay_fun {args : List AVal} {S : Store} {R : AVal → Store → Prop} (h : vcFun Try.prog ref_PosMay_c ref_PosMay_r args S R) (hlen : args.length ≤ 40) : ACalls Try.prog f_ref_PosMay args S R :=
  fun_sound (fn := Try.f18) (draw_sound _ _) Try.func18 rfl (by kernel_rfl : comp Try.prog 40 _ ref_PosMay_c = some ref_PosMay_c) (by kernel_rfl : cRes Try.prog Try.f18.results.toList = some ref_PosMay_r) hlen h

/-- fustian/poly.Of: slots [0 text, 1 text, 3 h, 4 i] -/
def poly_Of_c : SCode :=
  (.seq (.ops [⟨(some 2), .alloc 0 [(.int .i64 0), (.int .i64 0)], none, false⟩] none [0, 2])
  (.seq (.ops [⟨(some 5), .build [(.int .i64 0), (.int .i64 0)] [(1, 1, (.c (.int .i64 1)))], none, false⟩,
    ⟨(some 3), .alloc 0 [(.int .i64 0), (.int .i64 0)], none, false⟩,
    ⟨none, .store 2 (.t 3) (.t 5), none, false⟩] none [0, 2, 3])
  (.seq (.seq (.ops [⟨(some 6), .mov (.t 0), none, false⟩,
    ⟨(some 7), .len true (.t 6), none, false⟩,
    ⟨(some 8), .mov (.c (.int .i64 0)), none, false⟩] none [0, 2, 3, 7, 8])
  (.block 0 (.loop [0, 2, 3, 7] [8] 2
    (.seq (.ops [⟨(some 9), .bin .none .lss (.t 8) (.t 7), none, false⟩] none [0, 2, 3, 7, 8, 9])
    (.seq (.cond (.t 9)
      .skip
      (.exit 0))
    (.seq (.block 1 (.seq (.ops [⟨(some 10), .mov (.t 8), none, false⟩,
      ⟨(some 4), .mov (.t 10), none, false⟩] none [0, 2, 3, 4, 7, 8])
    (.seq (.ops [⟨(some 11), .faddr 0 (.t 3), none, false⟩,
      ⟨(some 12), .load 1 false (.t 11), none, false⟩,
      ⟨(some 13), .bin .none .mul (.t 12) (.c (.int .i64 257)), none, false⟩,
      ⟨(some 14), .mov (.t 0), none, false⟩,
      ⟨(some 15), .mov (.t 4), none, false⟩,
      ⟨(some 16), .index 1 none false (.t 14) (.t 15), none, false⟩,
      ⟨(some 17), .conv .i64 (.t 16), none, false⟩,
      ⟨(some 18), .bin .none .add (.t 13) (.t 17), none, false⟩,
      ⟨(some 19), .bin .none .add (.t 18) (.c (.int .i64 1)), none, false⟩,
      ⟨(some 20), .bin .none .rem (.t 19) (.c (.int .i64 2147483647)), none, false⟩,
      ⟨(some 21), .faddr 0 (.t 3), none, false⟩,
      ⟨none, .store 1 (.t 21) (.t 20), none, false⟩] (some 7) [0, 2, 3, 7, 8])
    (.ops [⟨(some 22), .faddr 1 (.t 3), none, false⟩,
      ⟨(some 23), .load 1 false (.t 22), none, false⟩,
      ⟨(some 24), .bin .none .mul (.t 23) (.c (.int .i64 257)), none, false⟩,
      ⟨(some 25), .bin .none .rem (.t 24) (.c (.int .i64 2147483647)), none, false⟩,
      ⟨(some 26), .faddr 1 (.t 3), none, false⟩,
      ⟨none, .store 1 (.t 26) (.t 25), none, false⟩] none [0, 2, 3, 7, 8]))))
    (.ops [⟨(some 27), .bin .none .add (.t 8) (.c (.int .i64 1)), none, false⟩,
      ⟨(some 8), .mov (.t 27), none, false⟩] none [0, 2, 3, 7, 8])))))))
  (.seq (.ops [⟨(some 28), .load 2 true (.t 3), none, false⟩,
    ⟨none, .store 2 (.t 2) (.t 28), none, false⟩] none [2])
  .ret))))
def poly_Of_r : List RRes := [.cell 2 2 true]
theorem poly_Of_fun {args : List AVal} {S : Store} {R : AVal → Store → Prop} (h : vcFun Try.prog poly_Of_c poly_Of_r args S R) (hlen : args.length ≤ 29) : ACalls Try.prog f_poly_Of args S R :=
  fun_sound (fn := Try.f19) (draw_sound _ _) Try.func19 rfl (by kernel_rfl : comp Try.prog 29 _ poly_Of_c = some poly_Of_c) (by kernel_rfl : cRes Try.prog Try.f19.results.toList = some poly_Of_r) hlen h

/-- fustian/fustianref.PolyOf: slots [0 text, 1 text, 3 power, 4 sum, 5 i] -/
def ref_PolyOf_c : SCode :=
  (.seq (.ops [⟨(some 2), .alloc 0 [(.int .i64 0), (.int .i64 0)], none, false⟩] none [0, 2])
  (.seq (.ops [⟨(some 3), .mov (.c (.int .i64 1)), none, false⟩] none [0, 2, 3])
  (.seq (.ops [⟨(some 4), .mov (.c (.int .i64 0)), none, false⟩] none [0, 2, 3, 4])
  (.seq (.seq (.ops [⟨(some 6), .mov (.t 0), none, false⟩,
    ⟨(some 7), .len true (.t 6), none, false⟩,
    ⟨(some 8), .bin .none .sub (.t 7) (.c (.int .i64 1)), none, false⟩,
    ⟨(some 5), .mov (.t 8), none, false⟩] none [0, 2, 3, 4, 5])
  (.block 0 (.loop [0, 2] [3, 4, 5] 1
    (.seq (.seq (.ops [⟨(some 9), .mov (.t 5), none, false⟩,
      ⟨(some 10), .bin .none .geq (.t 9) (.c (.int .i64 0)), none, false⟩] none [0, 2, 3, 4, 5, 10])
    (.cond (.t 10)
      .skip
      (.exit 0)))
    (.seq (.block 1 (.seq (.ops [⟨(some 13), .mov (.t 4), none, false⟩,
      ⟨(some 14), .mov (.t 0), none, false⟩,
      ⟨(some 15), .mov (.t 5), none, false⟩,
      ⟨(some 16), .index 1 none false (.t 14) (.t 15), none, false⟩,
      ⟨(some 17), .conv .i64 (.t 16), none, false⟩,
      ⟨(some 18), .bin .none .add (.t 17) (.c (.int .i64 1)), none, false⟩,
      ⟨(some 19), .mov (.t 3), none, false⟩,
      ⟨(some 20), .bin .none .mul (.t 18) (.t 19), none, false⟩,
      ⟨(some 21), .bin .none .add (.t 13) (.t 20), none, false⟩,
      ⟨(some 22), .bin .none .rem (.t 21) (.c (.int .i64 2147483647)), none, false⟩,
      ⟨(some 4), .mov (.t 22), none, false⟩] none [0, 2, 3, 4, 5])
    (.ops [⟨(some 23), .mov (.t 3), none, false⟩,
      ⟨(some 24), .bin .none .mul (.t 23) (.c (.int .i64 257)), none, false⟩,
      ⟨(some 25), .bin .none .rem (.t 24) (.c (.int .i64 2147483647)), none, false⟩,
      ⟨(some 3), .mov (.t 25), none, false⟩] none [0, 2, 3, 4, 5])))
    (.ops [⟨(some 11), .mov (.t 5), none, false⟩,
      ⟨(some 12), .bin .none .sub (.t 11) (.c (.int .i64 1)), none, false⟩,
      ⟨(some 5), .mov (.t 12), none, false⟩] none [0, 2, 3, 4, 5]))))))
  (.seq (.ops [⟨(some 26), .mov (.t 4), none, false⟩,
    ⟨(some 27), .mov (.t 3), none, false⟩,
    ⟨(some 28), .build [(.int .i64 0), (.int .i64 0)] [(0, 1, (.t 26)), (1, 1, (.t 27))], none, false⟩,
    ⟨none, .store 2 (.t 2) (.t 28), none, false⟩] none [2])
  .ret)))))
def ref_PolyOf_r : List RRes := [.cell 2 2 true]
theorem ref_PolyOf_fun {args : List AVal} {S : Store} {R : AVal → Store → Prop} (h : vcFun Try.prog ref_PolyOf_c ref_PolyOf_r args S R) (hlen : args.length ≤ 29) : ACalls Try.prog f_ref_PolyOf args S R :=
  fun_sound (fn := Try.f20) (draw_sound _ _) Try.func20 rfl (by kernel_rfl : comp Try.prog 29 _ ref_PolyOf_c = some ref_PolyOf_c) (by kernel_rfl : cRes Try.prog Try.f20.results.toList = some ref_PolyOf_r) hlen h

/-- fustian/poly.Join: slots [0 a, 1 b, 2 a, 3 b] -/
def poly_Join_c : SCode :=
  (.seq (.ops [⟨(some 2), .box 0 (.t 0), none, false⟩,
    ⟨(some 3), .box 0 (.t 1), none, false⟩,
    ⟨(some 4), .alloc 0 [(.int .i64 0), (.int .i64 0)], none, false⟩,
    ⟨(some 5), .mov (.c (.int .i64 0)), none, false⟩] none [2, 3, 4])
  (.seq (.seq (.ops [⟨(some 6), .load 2 true (.t 2), none, false⟩,
    ⟨(some 7), .call f_poly_May [(.t 6)], none, false⟩,
    ⟨(some 8), .not (.t 7), none, false⟩,
    ⟨(some 9), .mov (.t 8), none, true⟩,
    ⟨(some 10), .load 2 true (.t 3), (some (9, false)), false⟩,
    ⟨(some 11), .call f_poly_May [(.t 10)], (some (9, false)), false⟩,
    ⟨(some 12), .not (.t 11), (some (9, false)), false⟩,
    ⟨(some 13), .pick (.t 9) (.c (.bool true)) (.t 12), none, false⟩] none [2, 3, 4, 13])
  (.cond (.t 13)
    (.seq (.ops [⟨(some 14), .build [(.int .i64 0), (.int .i64 0)] [], none, false⟩,
      ⟨none, .store 2 (.t 4) (.t 14), none, false⟩,
      ⟨(some 5), .mov (.c (.int .i64 4)), none, false⟩] none [4, 5])
    .ret)
    .skip))
  (.seq (.ops [⟨(some 15), .faddr 0 (.t 2), none, false⟩,
    ⟨(some 16), .load 1 false (.t 15), none, false⟩,
    ⟨(some 17), .faddr 1 (.t 3), none, false⟩,
    ⟨(some 18), .load 1 false (.t 17), none, false⟩,
    ⟨(some 19), .bin .none .mul (.t 16) (.t 18), none, false⟩,
    ⟨(some 20), .faddr 0 (.t 3), none, false⟩,
    ⟨(some 21), .load 1 false (.t 20), none, false⟩,
    ⟨(some 22), .bin .none .add (.t 19) (.t 21), none, false⟩,
    ⟨(some 23), .bin .none .rem (.t 22) (.c (.int .i64 2147483647)), none, false⟩,
    ⟨(some 24), .faddr 1 (.t 2), none, false⟩,
    ⟨(some 25), .load 1 false (.t 24), none, false⟩,
    ⟨(some 26), .faddr 1 (.t 3), none, false⟩,
    ⟨(some 27), .load 1 false (.t 26), none, false⟩,
    ⟨(some 28), .bin .none .mul (.t 25) (.t 27), none, false⟩,
    ⟨(some 29), .bin .none .rem (.t 28) (.c (.int .i64 2147483647)), none, false⟩,
    ⟨(some 30), .build [(.int .i64 0), (.int .i64 0)] [(0, 1, (.t 23)), (1, 1, (.t 29))], none, false⟩,
    ⟨none, .store 2 (.t 4) (.t 30), none, false⟩,
    ⟨(some 5), .mov (.c (.int .i64 0)), none, false⟩] none [4, 5])
  .ret)))
def poly_Join_r : List RRes := [.cell 4 2 true, .tmp 5]
theorem poly_Join_fun {args : List AVal} {S : Store} {R : AVal → Store → Prop} (h : vcFun Try.prog poly_Join_c poly_Join_r args S R) (hlen : args.length ≤ 31) : ACalls Try.prog f_poly_Join args S R :=
  fun_sound (fn := Try.f21) (draw_sound _ _) Try.func21 rfl (by kernel_rfl : comp Try.prog 31 _ poly_Join_c = some poly_Join_c) (by kernel_rfl : cRes Try.prog Try.f21.results.toList = some poly_Join_r) hlen h

/-- fustian/fustianref.PolyJoin: slots [0 a, 1 b, 2 a, 3 b] -/
def ref_PolyJoin_c : SCode :=
  (.seq (.ops [⟨(some 2), .box 0 (.t 0), none, false⟩,
    ⟨(some 3), .box 0 (.t 1), none, false⟩,
    ⟨(some 4), .alloc 0 [(.int .i64 0), (.int .i64 0)], none, false⟩,
    ⟨(some 5), .mov (.c (.int .i64 0)), none, false⟩] none [2, 3, 4])
  (.seq (.seq (.ops [⟨(some 6), .load 2 true (.t 2), none, false⟩,
    ⟨(some 7), .call f_ref_PolyMay [(.t 6)], none, false⟩,
    ⟨(some 8), .not (.t 7), none, false⟩,
    ⟨(some 9), .mov (.t 8), none, true⟩,
    ⟨(some 10), .load 2 true (.t 3), (some (9, false)), false⟩,
    ⟨(some 11), .call f_ref_PolyMay [(.t 10)], (some (9, false)), false⟩,
    ⟨(some 12), .not (.t 11), (some (9, false)), false⟩,
    ⟨(some 13), .pick (.t 9) (.c (.bool true)) (.t 12), none, false⟩] none [2, 3, 4, 13])
  (.cond (.t 13)
    (.seq (.ops [⟨(some 14), .build [(.int .i64 0), (.int .i64 0)] [], none, false⟩,
      ⟨none, .store 2 (.t 4) (.t 14), none, false⟩,
      ⟨(some 5), .mov (.c (.int .i64 4)), none, false⟩] none [4, 5])
    .ret)
    .skip))
  (.seq (.ops [⟨(some 15), .faddr 0 (.t 2), none, false⟩,
    ⟨(some 16), .load 1 false (.t 15), none, false⟩,
    ⟨(some 17), .faddr 1 (.t 3), none, false⟩,
    ⟨(some 18), .load 1 false (.t 17), none, false⟩,
    ⟨(some 19), .bin .none .mul (.t 16) (.t 18), none, false⟩,
    ⟨(some 20), .bin .none .rem (.t 19) (.c (.int .i64 2147483647)), none, false⟩,
    ⟨(some 21), .faddr 0 (.t 3), none, false⟩,
    ⟨(some 22), .load 1 false (.t 21), none, false⟩,
    ⟨(some 23), .bin .none .add (.t 20) (.t 22), none, false⟩,
    ⟨(some 24), .bin .none .rem (.t 23) (.c (.int .i64 2147483647)), none, false⟩,
    ⟨(some 25), .faddr 1 (.t 3), none, false⟩,
    ⟨(some 26), .load 1 false (.t 25), none, false⟩,
    ⟨(some 27), .faddr 1 (.t 2), none, false⟩,
    ⟨(some 28), .load 1 false (.t 27), none, false⟩,
    ⟨(some 29), .bin .none .mul (.t 26) (.t 28), none, false⟩,
    ⟨(some 30), .bin .none .rem (.t 29) (.c (.int .i64 2147483647)), none, false⟩,
    ⟨(some 31), .build [(.int .i64 0), (.int .i64 0)] [(0, 1, (.t 24)), (1, 1, (.t 30))], none, false⟩,
    ⟨none, .store 2 (.t 4) (.t 31), none, false⟩,
    ⟨(some 5), .mov (.c (.int .i64 0)), none, false⟩] none [4, 5])
  .ret)))
def ref_PolyJoin_r : List RRes := [.cell 4 2 true, .tmp 5]
theorem ref_PolyJoin_fun {args : List AVal} {S : Store} {R : AVal → Store → Prop} (h : vcFun Try.prog ref_PolyJoin_c ref_PolyJoin_r args S R) (hlen : args.length ≤ 32) : ACalls Try.prog f_ref_PolyJoin args S R :=
  fun_sound (fn := Try.f22) (draw_sound _ _) Try.func22 rfl (by kernel_rfl : comp Try.prog 32 _ ref_PolyJoin_c = some ref_PolyJoin_c) (by kernel_rfl : cRes Try.prog Try.f22.results.toList = some ref_PolyJoin_r) hlen h

/-- fustian/edit.Check: slots [0 size, 1 e, 2 size, 3 e] -/
def edit_Check_c : SCode :=
  (.seq (.ops [⟨(some 3), .box 0 (.t 1), none, false⟩,
    ⟨(some 4), .mov (.c (.int .i64 0)), none, false⟩] none [0, 3])
  (.seq (.block 0 (.seq (.ops [⟨(some 6), .mov (.t 0), none, false⟩,
    ⟨(some 7), .bin .none .lss (.t 6) (.c (.int .i64 0)), none, false⟩,
    ⟨(some 8), .mov (.t 7), none, true⟩,
    ⟨(some 9), .mov (.t 0), (some (8, false)), false⟩,
    ⟨(some 10), .bin .none .gtr (.t 9) (.c (.int .i64 600)), (some (8, false)), false⟩,
    ⟨(some 11), .pick (.t 8) (.c (.bool true)) (.t 10), none, false⟩,
    ⟨(some 12), .mov (.t 11), none, true⟩,
    ⟨(some 13), .faddr 0 (.t 3), (some (12, false)), false⟩,
    ⟨(some 14), .load 1 false (.t 13), (some (12, false)), false⟩,
    ⟨(some 15), .bin .none .lss (.t 14) (.c (.int .i64 0)), (some (12, false)), false⟩,
    ⟨(some 16), .pick (.t 12) (.c (.bool true)) (.t 15), none, false⟩,
    ⟨(some 17), .mov (.t 16), none, true⟩,
    ⟨(some 18), .faddr 0 (.t 3), (some (17, false)), false⟩,
    ⟨(some 19), .load 1 false (.t 18), (some (17, false)), false⟩,
    ⟨(some 20), .mov (.t 0), (some (17, false)), false⟩,
    ⟨(some 21), .bin .none .gtr (.t 19) (.t 20), (some (17, false)), false⟩,
    ⟨(some 22), .pick (.t 17) (.c (.bool true)) (.t 21), none, false⟩,
    ⟨(some 23), .mov (.t 22), none, true⟩,
    ⟨(some 24), .faddr 1 (.t 3), (some (23, false)), false⟩,
    ⟨(some 25), .load 1 false (.t 24), (some (23, false)), false⟩,
    ⟨(some 26), .bin .none .lss (.t 25) (.c (.int .i64 0)), (some (23, false)), false⟩,
    ⟨(some 27), .pick (.t 23) (.c (.bool true)) (.t 26), none, false⟩,
    ⟨(some 28), .mov (.t 27), none, true⟩,
    ⟨(some 29), .faddr 1 (.t 3), (some (28, false)), false⟩,
    ⟨(some 30), .load 1 false (.t 29), (some (28, false)), false⟩,
    ⟨(some 31), .mov (.t 0), (some (28, false)), false⟩,
    ⟨(some 32), .faddr 0 (.t 3), (some (28, false)), false⟩,
    ⟨(some 33), .load 1 false (.t 32), (some (28, false)), false⟩,
    ⟨(some 34), .bin .none .sub (.t 31) (.t 33), (some (28, false)), false⟩,
    ⟨(some 35), .bin .none .gtr (.t 30) (.t 34), (some (28, false)), false⟩,
    ⟨(some 36), .pick (.t 28) (.c (.bool true)) (.t 35), none, false⟩,
    ⟨(some 5), .mov (.t 36), none, false⟩] none [0, 3, 5])
  (.cond (.t 5)
    (.seq (.ops [⟨(some 4), .mov (.c (.int .i64 2)), none, false⟩] none [4])
    .ret)
    (.seq (.ops [⟨(some 38), .mov (.t 0), none, false⟩,
      ⟨(some 39), .faddr 1 (.t 3), none, false⟩,
      ⟨(some 40), .load 1 false (.t 39), none, false⟩,
      ⟨(some 41), .bin .none .sub (.t 38) (.t 40), none, false⟩,
      ⟨(some 42), .faddr 2 (.t 3), none, false⟩,
      ⟨(some 43), .load 1 false (.t 42), none, false⟩,
      ⟨(some 44), .len true (.t 43), none, false⟩,
      ⟨(some 45), .bin .none .add (.t 41) (.t 44), none, false⟩,
      ⟨(some 46), .bin .none .gtr (.t 45) (.c (.int .i64 600)), none, false⟩,
      ⟨(some 37), .mov (.t 46), none, false⟩] none [37])
    (.cond (.t 37)
      (.seq (.ops [⟨(some 4), .mov (.c (.int .i64 1)), none, false⟩] none [4])
      .ret)
      .skip)))))
  (.seq (.ops [⟨(some 4), .mov (.c (.int .i64 0)), none, false⟩] none [4])
  .ret)))
def edit_Check_r : List RRes := [.tmp 4]
theorem edit_Check_fun {args : List AVal} {S : Store} {R : AVal → Store → Prop} (h : vcFun Try.prog edit_Check_c edit_Check_r args S R) (hlen : args.length ≤ 47) : ACalls Try.prog f_edit_Check args S R :=
  fun_sound (fn := Try.f23) (draw_sound _ _) Try.func23 rfl (by kernel_rfl : comp Try.prog 47 _ edit_Check_c = some edit_Check_c) (by kernel_rfl : cRes Try.prog Try.f23.results.toList = some edit_Check_r) hlen h

/-- fustian/fustianref.EditFault: slots [0 size, 1 e, 2 size, 3 e] -/
def ref_EditFault_c : SCode :=
  (.seq (.ops [⟨(some 3), .box 0 (.t 1), none, false⟩,
    ⟨(some 4), .mov (.c (.int .i64 0)), none, false⟩] none [0, 3])
  (.seq (.seq (.ops [⟨(some 5), .mov (.t 0), none, false⟩,
    ⟨(some 6), .bin .none .lss (.t 5) (.c (.int .i64 0)), none, false⟩,
    ⟨(some 7), .mov (.t 6), none, true⟩,
    ⟨(some 8), .mov (.t 0), (some (7, false)), false⟩,
    ⟨(some 9), .bin .none .gtr (.t 8) (.c (.int .i64 600)), (some (7, false)), false⟩,
    ⟨(some 10), .pick (.t 7) (.c (.bool true)) (.t 9), none, false⟩,
    ⟨(some 11), .mov (.t 10), none, true⟩,
    ⟨(some 12), .faddr 0 (.t 3), (some (11, false)), false⟩,
    ⟨(some 13), .load 1 false (.t 12), (some (11, false)), false⟩,
    ⟨(some 14), .bin .none .lss (.t 13) (.c (.int .i64 0)), (some (11, false)), false⟩,
    ⟨(some 15), .pick (.t 11) (.c (.bool true)) (.t 14), none, false⟩,
    ⟨(some 16), .mov (.t 15), none, true⟩,
    ⟨(some 17), .faddr 1 (.t 3), (some (16, false)), false⟩,
    ⟨(some 18), .load 1 false (.t 17), (some (16, false)), false⟩,
    ⟨(some 19), .bin .none .lss (.t 18) (.c (.int .i64 0)), (some (16, false)), false⟩,
    ⟨(some 20), .pick (.t 16) (.c (.bool true)) (.t 19), none, false⟩,
    ⟨(some 21), .mov (.t 20), none, true⟩,
    ⟨(some 22), .faddr 0 (.t 3), (some (21, false)), false⟩,
    ⟨(some 23), .load 1 false (.t 22), (some (21, false)), false⟩,
    ⟨(some 24), .mov (.t 0), (some (21, false)), false⟩,
    ⟨(some 25), .bin .none .gtr (.t 23) (.t 24), (some (21, false)), false⟩,
    ⟨(some 26), .pick (.t 21) (.c (.bool true)) (.t 25), none, false⟩,
    ⟨(some 27), .mov (.t 26), none, true⟩,
    ⟨(some 28), .faddr 1 (.t 3), (some (27, false)), false⟩,
    ⟨(some 29), .load 1 false (.t 28), (some (27, false)), false⟩,
    ⟨(some 30), .mov (.t 0), (some (27, false)), false⟩,
    ⟨(some 31), .bin .none .gtr (.t 29) (.t 30), (some (27, false)), false⟩,
    ⟨(some 32), .pick (.t 27) (.c (.bool true)) (.t 31), none, false⟩,
    ⟨(some 33), .mov (.t 32), none, true⟩,
    ⟨(some 34), .faddr 0 (.t 3), (some (33, false)), false⟩,
    ⟨(some 35), .load 1 false (.t 34), (some (33, false)), false⟩,
    ⟨(some 36), .faddr 1 (.t 3), (some (33, false)), false⟩,
    ⟨(some 37), .load 1 false (.t 36), (some (33, false)), false⟩,
    ⟨(some 38), .bin .none .add (.t 35) (.t 37), (some (33, false)), false⟩,
    ⟨(some 39), .mov (.t 0), (some (33, false)), false⟩,
    ⟨(some 40), .bin .none .gtr (.t 38) (.t 39), (some (33, false)), false⟩,
    ⟨(some 41), .pick (.t 33) (.c (.bool true)) (.t 40), none, false⟩] none [0, 3, 41])
  (.cond (.t 41)
    (.seq (.ops [⟨(some 4), .mov (.c (.int .i64 2)), none, false⟩] none [4])
    .ret)
    .skip))
  (.seq (.seq (.ops [⟨(some 42), .mov (.t 0), none, false⟩,
    ⟨(some 43), .faddr 2 (.t 3), none, false⟩,
    ⟨(some 44), .load 1 false (.t 43), none, false⟩,
    ⟨(some 45), .len true (.t 44), none, false⟩,
    ⟨(some 46), .bin .none .add (.t 42) (.t 45), none, false⟩,
    ⟨(some 47), .faddr 1 (.t 3), none, false⟩,
    ⟨(some 48), .load 1 false (.t 47), none, false⟩,
    ⟨(some 49), .bin .none .sub (.t 46) (.t 48), none, false⟩,
    ⟨(some 50), .bin .none .gtr (.t 49) (.c (.int .i64 600)), none, false⟩] none [50])
  (.cond (.t 50)
    (.seq (.ops [⟨(some 4), .mov (.c (.int .i64 1)), none, false⟩] none [4])
    .ret)
    .skip))
  (.seq (.ops [⟨(some 4), .mov (.c (.int .i64 0)), none, false⟩] none [4])
  .ret))))
def ref_EditFault_r : List RRes := [.tmp 4]
theorem ref_EditFault_fun {args : List AVal} {S : Store} {R : AVal → Store → Prop} (h : vcFun Try.prog ref_EditFault_c ref_EditFault_r args S R) (hlen : args.length ≤ 51) : ACalls Try.prog f_ref_EditFault args S R :=
  fun_sound (fn := Try.f24) (draw_sound _ _) Try.func24 rfl (by kernel_rfl : comp Try.prog 51 _ ref_EditFault_c = some ref_EditFault_c) (by kernel_rfl : cRes Try.prog Try.f24.results.toList = some ref_EditFault_r) hlen h

/-- fustian/spans.May: slots [0 size, 1 l, 2 size, 3 l, 5 last, 6 _, 7 s] -/
def spans_May_c : SCode :=
  (.seq (.ops [⟨(some 4), .mov (.c (.bool false)), none, false⟩] none [0, 1])
  (.seq (.seq (.ops [⟨(some 8), .mov (.t 0), none, false⟩,
    ⟨(some 9), .bin .none .lss (.t 8) (.c (.int .i64 0)), none, false⟩,
    ⟨(some 10), .mov (.t 9), none, true⟩,
    ⟨(some 11), .mov (.t 0), (some (10, false)), false⟩,
    ⟨(some 12), .bin .none .gtr (.t 11) (.c (.int .i64 600)), (some (10, false)), false⟩,
    ⟨(some 13), .pick (.t 10) (.c (.bool true)) (.t 12), none, false⟩,
    ⟨(some 14), .mov (.t 13), none, true⟩,
    ⟨(some 15), .mov (.t 1), (some (14, false)), false⟩,
    ⟨(some 16), .len false (.t 15), (some (14, false)), false⟩,
    ⟨(some 17), .bin .none .gtr (.t 16) (.c (.int .i64 40)), (some (14, false)), false⟩,
    ⟨(some 18), .pick (.t 14) (.c (.bool true)) (.t 17), none, false⟩] none [0, 1, 18])
  (.cond (.t 18)
    (.seq (.ops [⟨(some 4), .mov (.c (.bool false)), none, false⟩] none [4])
    .ret)
    .skip))
  (.seq (.ops [⟨(some 5), .mov (.c (.int .i64 (-1))), none, false⟩] none [0, 1, 5])
  (.seq (.seq (.ops [⟨(some 19), .mov (.t 1), none, false⟩,
    ⟨(some 20), .len false (.t 19), none, false⟩,
    ⟨(some 21), .mov (.c (.int .i64 0)), none, false⟩] none [0, 5, 19, 20, 21])
  (.block 0 (.loop [0, 19, 20] [5, 21] 0
    (.seq (.ops [⟨(some 22), .bin .none .lss (.t 21) (.t 20), none, false⟩] none [0, 5, 19, 20, 21, 22])
    (.seq (.cond (.t 22)
      .skip
      (.exit 0))
    (.seq (.block 1 (.seq (.ops [⟨(some 23), .iaddr 2 none (.t 19) (.t 21), none, false⟩,
      ⟨(some 24), .load 2 true (.t 23), none, false⟩,
      ⟨(some 7), .alloc 0 [(.int .i64 0), (.int .i64 0)], none, false⟩,
      ⟨none, .store 2 (.t 7) (.t 24), none, false⟩] none [0, 5, 7, 19, 20, 21])
    (.seq (.seq (.ops [⟨(some 25), .faddr 0 (.t 7), none, false⟩,
      ⟨(some 26), .load 1 false (.t 25), none, false⟩,
      ⟨(some 27), .mov (.t 5), none, false⟩,
      ⟨(some 28), .bin .none .leq (.t 26) (.t 27), none, false⟩,
      ⟨(some 29), .mov (.t 28), none, true⟩,
      ⟨(some 30), .faddr 0 (.t 7), (some (29, false)), false⟩,
      ⟨(some 31), .load 1 false (.t 30), (some (29, false)), false⟩,
      ⟨(some 32), .faddr 1 (.t 7), (some (29, false)), false⟩,
      ⟨(some 33), .load 1 false (.t 32), (some (29, false)), false⟩,
      ⟨(some 34), .bin .none .geq (.t 31) (.t 33), (some (29, false)), false⟩,
      ⟨(some 35), .pick (.t 29) (.c (.bool true)) (.t 34), none, false⟩,
      ⟨(some 36), .mov (.t 35), none, true⟩,
      ⟨(some 37), .faddr 1 (.t 7), (some (36, false)), false⟩,
      ⟨(some 38), .load 1 false (.t 37), (some (36, false)), false⟩,
      ⟨(some 39), .mov (.t 0), (some (36, false)), false⟩,
      ⟨(some 40), .bin .none .gtr (.t 38) (.t 39), (some (36, false)), false⟩,
      ⟨(some 41), .pick (.t 36) (.c (.bool true)) (.t 40), none, false⟩] none [0, 7, 19, 20, 21, 41])
    (.cond (.t 41)
      (.seq (.ops [⟨(some 4), .mov (.c (.bool false)), none, false⟩] none [4])
      .ret)
      .skip))
    (.ops [⟨(some 42), .faddr 1 (.t 7), none, false⟩,
      ⟨(some 43), .load 1 false (.t 42), none, false⟩,
      ⟨(some 5), .mov (.t 43), none, false⟩] none [0, 5, 19, 20, 21]))))
    (.ops [⟨(some 44), .bin .none .add (.t 21) (.c (.int .i64 1)), none, false⟩,
      ⟨(some 21), .mov (.t 44), none, false⟩] none [0, 5, 19, 20, 21])))))))
  (.seq (.ops [⟨(some 4), .mov (.c (.bool true)), none, false⟩] none [4])
  .ret)))))
def spans_May_r : List RRes := [.tmp 4]
theorem spans_May_fun {args : List AVal} {S : Store} {R : AVal → Store → Prop} (h : vcFun Try.prog spans_May_c spans_May_r args S R) (hlen : args.length ≤ 45) : ACalls Try.prog f_spans_May args S R :=
  fun_sound (fn := Try.f25) (draw_sound _ _) Try.func25 rfl (by kernel_rfl : comp Try.prog 45 _ spans_May_c = some spans_May_c) (by kernel_rfl : cRes Try.prog Try.f25.results.toList = some spans_May_r) hlen h

/-- fustian/fustianref.SpansMay: slots [0 size, 1 l, 2 size, 3 l, 5 i, 6 s] -/
def ref_SpansMay_c : SCode :=
  (.seq (.ops [⟨(some 4), .mov (.c (.bool false)), none, false⟩] none [0, 1])
  (.seq (.seq (.ops [⟨(some 7), .mov (.t 0), none, false⟩,
    ⟨(some 8), .bin .none .lss (.t 7) (.c (.int .i64 0)), none, false⟩,
    ⟨(some 9), .mov (.t 8), none, true⟩,
    ⟨(some 10), .mov (.t 0), (some (9, false)), false⟩,
    ⟨(some 11), .bin .none .gtr (.t 10) (.c (.int .i64 600)), (some (9, false)), false⟩,
    ⟨(some 12), .pick (.t 9) (.c (.bool true)) (.t 11), none, false⟩,
    ⟨(some 13), .mov (.t 12), none, true⟩,
    ⟨(some 14), .mov (.t 1), (some (13, false)), false⟩,
    ⟨(some 15), .len false (.t 14), (some (13, false)), false⟩,
    ⟨(some 16), .bin .none .gtr (.t 15) (.c (.int .i64 40)), (some (13, false)), false⟩,
    ⟨(some 17), .pick (.t 13) (.c (.bool true)) (.t 16), none, false⟩] none [0, 1, 17])
  (.cond (.t 17)
    (.seq (.ops [⟨(some 4), .mov (.c (.bool false)), none, false⟩] none [4])
    .ret)
    .skip))
  (.seq (.seq (.ops [⟨(some 18), .mov (.t 1), none, false⟩,
    ⟨(some 19), .len false (.t 18), none, false⟩,
    ⟨(some 20), .mov (.c (.int .i64 0)), none, false⟩] none [0, 1, 18, 19, 20])
  (.block 0 (.loop [0, 1, 18, 19] [20] 0
    (.seq (.ops [⟨(some 21), .bin .none .lss (.t 20) (.t 19), none, false⟩] none [0, 1, 18, 19, 20, 21])
    (.seq (.cond (.t 21)
      .skip
      (.exit 0))
    (.seq (.block 1 (.seq (.ops [⟨(some 22), .mov (.t 20), none, false⟩,
      ⟨(some 23), .iaddr 2 none (.t 18) (.t 20), none, false⟩,
      ⟨(some 24), .load 2 true (.t 23), none, false⟩,
      ⟨(some 6), .alloc 0 [(.int .i64 0), (.int .i64 0)], none, false⟩,
      ⟨(some 5), .mov (.t 22), none, false⟩,
      ⟨none, .store 2 (.t 6) (.t 24), none, false⟩] none [0, 1, 5, 6, 18, 19, 20])
    (.seq (.ops [⟨(some 25), .faddr 0 (.t 6), none, false⟩,
      ⟨(some 26), .load 1 false (.t 25), none, false⟩,
      ⟨(some 27), .bin .none .lss (.t 26) (.c (.int .i64 0)), none, false⟩,
      ⟨(some 28), .mov (.t 27), none, true⟩,
      ⟨(some 29), .faddr 1 (.t 6), (some (28, false)), false⟩,
      ⟨(some 30), .load 1 false (.t 29), (some (28, false)), false⟩,
      ⟨(some 31), .faddr 0 (.t 6), (some (28, false)), false⟩,
      ⟨(some 32), .load 1 false (.t 31), (some (28, false)), false⟩,
      ⟨(some 33), .bin .none .leq (.t 30) (.t 32), (some (28, false)), false⟩,
      ⟨(some 34), .pick (.t 28) (.c (.bool true)) (.t 33), none, false⟩,
      ⟨(some 35), .mov (.t 34), none, true⟩,
      ⟨(some 36), .faddr 1 (.t 6), (some (35, false)), false⟩,
      ⟨(some 37), .load 1 false (.t 36), (some (35, false)), false⟩,
      ⟨(some 38), .mov (.t 0), (some (35, false)), false⟩,
      ⟨(some 39), .bin .none .gtr (.t 37) (.t 38), (some (35, false)), false⟩,
      ⟨(some 40), .pick (.t 35) (.c (.bool true)) (.t 39), none, false⟩,
      ⟨(some 41), .mov (.t 40), none, true⟩,
      ⟨(some 42), .mov (.t 5), (some (41, false)), false⟩,
      ⟨(some 43), .bin .none .gtr (.t 42) (.c (.int .i64 0)), (some (41, false)), false⟩,
      ⟨(some 44), .mov (.t 43), (some (41, false)), true⟩,
      ⟨(some 45), .mov (.t 1), (some (44, true)), false⟩,
      ⟨(some 46), .mov (.t 5), (some (44, true)), false⟩,
      ⟨(some 47), .bin .none .sub (.t 46) (.c (.int .i64 1)), (some (44, true)), false⟩,
      ⟨(some 48), .iaddr 2 none (.t 45) (.t 47), (some (44, true)), false⟩,
      ⟨(some 49), .faddr 1 (.t 48), (some (44, true)), false⟩,
      ⟨(some 50), .load 1 false (.t 49), (some (44, true)), false⟩,
      ⟨(some 51), .faddr 0 (.t 6), (some (44, true)), false⟩,
      ⟨(some 52), .load 1 false (.t 51), (some (44, true)), false⟩,
      ⟨(some 53), .bin .none .geq (.t 50) (.t 52), (some (44, true)), false⟩,
      ⟨(some 54), .pick (.t 44) (.t 53) (.c (.bool false)), (some (41, false)), false⟩,
      ⟨(some 55), .pick (.t 41) (.c (.bool true)) (.t 54), none, false⟩] (some 28) [0, 1, 18, 19, 20, 55])
    (.cond (.t 55)
      (.seq (.ops [⟨(some 4), .mov (.c (.bool false)), none, false⟩] none [4])
      .ret)
      .skip))))
    (.ops [⟨(some 56), .bin .none .add (.t 20) (.c (.int .i64 1)), none, false⟩,
      ⟨(some 20), .mov (.t 56), none, false⟩] none [0, 1, 18, 19, 20])))))))
  (.seq (.ops [⟨(some 4), .mov (.c (.bool true)), none, false⟩] none [4])
  .ret))))
def ref_SpansMay_r : List RRes := [.tmp 4]
theorem ref_SpansMay_fun {args : List AVal} {S : Store} {R : AVal → Store → Prop} (h : vcFun Try.prog ref_SpansMay_c ref_SpansMay_r args S R) (hlen : args.length ≤ 57) : ACalls Try.prog f_ref_SpansMay args S R :=
  fun_sound (fn := Try.f26) (draw_sound _ _) Try.func26 rfl (by kernel_rfl : comp Try.prog 57 _ ref_SpansMay_c = some ref_SpansMay_c) (by kernel_rfl : cRes Try.prog Try.f26.results.toList = some ref_SpansMay_r) hlen h

/-- fustian/lines.Starts: slots [0 text, 1 text] -/
def lines_Starts_c : SCode :=
  (.seq (.ops [⟨(some 2), .mov (.c .nils), none, false⟩,
    ⟨(some 3), .mov (.c (.int .i64 0)), none, false⟩] none [0])
  (.seq (.seq (.ops [⟨(some 4), .mov (.t 0), none, false⟩,
    ⟨(some 5), .len true (.t 4), none, false⟩,
    ⟨(some 6), .bin .none .gtr (.t 5) (.c (.int .i64 600)), none, false⟩] none [0, 6])
  (.cond (.t 6)
    (.seq (.ops [⟨(some 2), .mov (.c .nils), none, false⟩,
      ⟨(some 3), .mov (.c (.int .i64 1)), none, false⟩] none [2, 3])
    .ret)
    .skip))
  (.seq (.ops [⟨(some 7), .mov (.t 0), none, false⟩,
    ⟨(some 8), .call f_lines_Of [(.t 7)], none, false⟩,
    ⟨(some 2), .mov (.t 8), none, false⟩,
    ⟨(some 3), .mov (.c (.int .i64 0)), none, false⟩] none [2, 3])
  .ret)))
def lines_Starts_r : List RRes := [.tmp 2, .tmp 3]
theorem lines_Starts_fun {args : List AVal} {S : Store} {R : AVal → Store → Prop} (h : vcFun Try.prog lines_Starts_c lines_Starts_r args S R) (hlen : args.length ≤ 9) : ACalls Try.prog f_lines_Starts args S R :=
  fun_sound (fn := Try.f27) (draw_sound _ _) Try.func27 rfl (by kernel_rfl : comp Try.prog 9 _ lines_Starts_c = some lines_Starts_c) (by kernel_rfl : cRes Try.prog Try.f27.results.toList = some lines_Starts_r) hlen h

/-- fustian/fustianref.LinesStarts: slots [0 text, 1 text, 4 out, 5 at, 6 _, 7 s] -/
def ref_LinesStarts_c : SCode :=
  (.seq (.ops [⟨(some 2), .mov (.c .nils), none, false⟩,
    ⟨(some 3), .mov (.c (.int .i64 0)), none, false⟩] none [0])
  (.seq (.seq (.ops [⟨(some 8), .mov (.t 0), none, false⟩,
    ⟨(some 9), .len true (.t 8), none, false⟩,
    ⟨(some 10), .bin .none .gtr (.t 9) (.c (.int .i64 600)), none, false⟩] none [0, 10])
  (.cond (.t 10)
    (.seq (.ops [⟨(some 2), .mov (.c .nils), none, false⟩,
      ⟨(some 3), .mov (.c (.int .i64 1)), none, false⟩] none [2, 3])
    .ret)
    .skip))
  (.seq (.ops [⟨(some 4), .newnil 1, none, false⟩] none [0, 4])
  (.seq (.ops [⟨(some 5), .mov (.c (.int .i64 0)), none, false⟩] none [0, 4, 5])
  (.seq (.seq (.ops [⟨(some 11), .mov (.t 0), none, false⟩,
    ⟨(some 12), .call f_ref_cutLines [(.t 11)], none, false⟩,
    ⟨(some 13), .len false (.t 12), none, false⟩,
    ⟨(some 14), .mov (.c (.int .i64 0)), none, false⟩] none [4, 5, 12, 13, 14])
  (.block 0 (.loop [12, 13] [4, 5, 14] 1
    (.seq (.ops [⟨(some 15), .bin .none .lss (.t 14) (.t 13), none, false⟩] none [4, 5, 12, 13, 14, 15])
    (.seq (.cond (.t 15)
      .skip
      (.exit 0))
    (.seq (.block 1 (.seq (.ops [⟨(some 16), .iaddr 1 none (.t 12) (.t 14), none, false⟩,
      ⟨(some 17), .load 1 false (.t 16), none, false⟩,
      ⟨(some 7), .mov (.t 17), none, false⟩] none [4, 5, 7, 12, 13, 14])
    (.seq (.ops [⟨(some 18), .mov (.t 4), none, false⟩,
      ⟨(some 19), .mov (.t 5), none, false⟩,
      ⟨(some 20), .bslice true 1 1 [(.int .i64 0)] [(0, 1, (.t 19))], none, false⟩,
      ⟨(some 21), .append 1 8 (.t 18) (.t 20), none, false⟩,
      ⟨(some 4), .mov (.t 21), none, false⟩] none [4, 5, 7, 12, 13, 14])
    (.ops [⟨(some 22), .mov (.t 5), none, false⟩,
      ⟨(some 23), .mov (.t 7), none, false⟩,
      ⟨(some 24), .len true (.t 23), none, false⟩,
      ⟨(some 25), .bin .none .add (.t 24) (.c (.int .i64 1)), none, false⟩,
      ⟨(some 26), .bin .none .add (.t 22) (.t 25), none, false⟩,
      ⟨(some 5), .mov (.t 26), none, false⟩] none [4, 5, 12, 13, 14]))))
    (.ops [⟨(some 27), .bin .none .add (.t 14) (.c (.int .i64 1)), none, false⟩,
      ⟨(some 14), .mov (.t 27), none, false⟩] none [4, 5, 12, 13, 14])))))))
  (.seq (.ops [⟨(some 28), .mov (.t 4), none, false⟩,
    ⟨(some 2), .mov (.t 28), none, false⟩,
    ⟨(some 3), .mov (.c (.int .i64 0)), none, false⟩] none [2, 3])
  .ret))))))
def ref_LinesStarts_r : List RRes := [.tmp 2, .tmp 3]
theorem ref_LinesStarts_fun {args : List AVal} {S : Store} {R : AVal → Store → Prop} (h : vcFun Try.prog ref_LinesStarts_c ref_LinesStarts_r args S R) (hlen : args.length ≤ 29) : ACalls Try.prog f_ref_LinesStarts args S R :=
  fun_sound (fn := Try.f28) (draw_sound _ _) Try.func28 rfl (by kernel_rfl : comp Try.prog 29 _ ref_LinesStarts_c = some ref_LinesStarts_c) (by kernel_rfl : cRes Try.prog Try.f28.results.toList = some ref_LinesStarts_r) hlen h

/-- fustian/fustianlaw.sameInts: slots [0 a, 1 b, 2 a, 3 b, 5 i] -/
def law_sameInts_c : SCode :=
  (.seq (.ops [⟨(some 4), .mov (.c (.bool false)), none, false⟩] none [0, 1])
  (.seq (.seq (.ops [⟨(some 6), .mov (.t 0), none, false⟩,
    ⟨(some 7), .len false (.t 6), none, false⟩,
    ⟨(some 8), .mov (.t 1), none, false⟩,
    ⟨(some 9), .len false (.t 8), none, false⟩,
    ⟨(some 10), .bin .none .neq (.t 7) (.t 9), none, false⟩] none [0, 1, 10])
  (.cond (.t 10)
    (.seq (.ops [⟨(some 4), .mov (.c (.bool false)), none, false⟩] none [4])
    .ret)
    .skip))
  (.seq (.seq (.ops [⟨(some 5), .mov (.c (.int .i64 0)), none, false⟩] none [0, 1, 5])
  (.block 0 (.loop [0, 1] [5] 0
    (.seq (.seq (.ops [⟨(some 11), .mov (.t 5), none, false⟩,
      ⟨(some 12), .mov (.t 0), none, false⟩,
      ⟨(some 13), .len false (.t 12), none, false⟩,
      ⟨(some 14), .bin .none .lss (.t 11) (.t 13), none, false⟩] none [0, 1, 5, 14])
    (.cond (.t 14)
      .skip
      (.exit 0)))
    (.seq (.block 1 (.seq (.ops [⟨(some 17), .mov (.t 0), none, false⟩,
      ⟨(some 18), .mov (.t 5), none, false⟩,
      ⟨(some 19), .iaddr 1 none (.t 17) (.t 18), none, false⟩,
      ⟨(some 20), .load 1 false (.t 19), none, false⟩,
      ⟨(some 21), .mov (.t 1), none, false⟩,
      ⟨(some 22), .mov (.t 5), none, false⟩,
      ⟨(some 23), .iaddr 1 none (.t 21) (.t 22), none, false⟩,
      ⟨(some 24), .load 1 false (.t 23), none, false⟩,
      ⟨(some 25), .bin .none .neq (.t 20) (.t 24), none, false⟩] (some 8) [0, 1, 5, 25])
    (.cond (.t 25)
      (.seq (.ops [⟨(some 4), .mov (.c (.bool false)), none, false⟩] none [4])
      .ret)
      .skip)))
    (.ops [⟨(some 15), .mov (.t 5), none, false⟩,
      ⟨(some 16), .bin .none .add (.t 15) (.c (.int .i64 1)), none, false⟩,
      ⟨(some 5), .mov (.t 16), none, false⟩] none [0, 1, 5]))))))
  (.seq (.ops [⟨(some 4), .mov (.c (.bool true)), none, false⟩] none [4])
  .ret))))
def law_sameInts_r : List RRes := [.tmp 4]
theorem law_sameInts_fun {args : List AVal} {S : Store} {R : AVal → Store → Prop} (h : vcFun Try.prog law_sameInts_c law_sameInts_r args S R) (hlen : args.length ≤ 26) : ACalls Try.prog f_law_sameInts args S R :=
  fun_sound (fn := Try.f29) (draw_sound _ _) Try.func29 rfl (by kernel_rfl : comp Try.prog 26 _ law_sameInts_c = some law_sameInts_c) (by kernel_rfl : cRes Try.prog Try.f29.results.toList = some law_sameInts_r) hlen h

/-- fustian/marks.Near: slots [0 ms, 1 at, 2 right, 3 ms, 4 at, 5 right, 8 best, 9 i, 10 m] -/
def marks_Near_c : SCode :=
  (.seq (.ops [⟨(some 6), .mov (.c (.int .i64 0)), none, false⟩,
    ⟨(some 7), .mov (.c (.int .i64 0)), none, false⟩] none [0, 1, 2])
  (.seq (.seq (.ops [⟨(some 11), .mov (.t 0), none, false⟩,
    ⟨(some 12), .len false (.t 11), none, false⟩,
    ⟨(some 13), .bin .none .gtr (.t 12) (.c (.int .i64 60)), none, false⟩] none [0, 1, 2, 13])
  (.cond (.t 13)
    (.seq (.ops [⟨(some 6), .mov (.c (.int .i64 0)), none, false⟩,
      ⟨(some 7), .mov (.c (.int .i64 1)), none, false⟩] none [6, 7])
    .ret)
    .skip))
  (.seq (.ops [⟨(some 8), .mov (.c (.int .i64 (-1))), none, false⟩] none [0, 1, 2, 8])
  (.seq (.seq (.ops [⟨(some 14), .mov (.t 0), none, false⟩,
    ⟨(some 15), .len false (.t 14), none, false⟩,
    ⟨(some 16), .mov (.c (.int .i64 0)), none, false⟩] none [0, 1, 2, 8, 14, 15, 16])
  (.block 0 (.loop [0, 1, 2, 14, 15] [8, 16] 0
    (.seq (.ops [⟨(some 17), .bin .none .lss (.t 16) (.t 15), none, false⟩] none [0, 1, 2, 8, 14, 15, 16, 17])
    (.seq (.cond (.t 17)
      .skip
      (.exit 0))
    (.join [0, 1, 2, 14, 15, 16] [8] 1 (.block 1 (.seq (.ops [⟨(some 18), .mov (.t 16), none, false⟩,
        ⟨(some 19), .iaddr 2 none (.t 14) (.t 16), none, false⟩,
        ⟨(some 20), .load 2 true (.t 19), none, false⟩,
        ⟨(some 10), .alloc 0 [(.int .i64 0), (.bool false)], none, false⟩,
        ⟨(some 9), .mov (.t 18), none, false⟩,
        ⟨none, .store 2 (.t 10) (.t 20), none, false⟩] none [0, 1, 2, 8, 9, 10, 14, 15, 16])
      (.block 2 (.join [0, 1, 2, 8, 9, 10, 14, 15, 16] [21] 1 (.seq (.ops [⟨(some 22), .mov (.t 2), none, false⟩,
          ⟨(some 23), .mov (.t 22), none, true⟩,
          ⟨(some 24), .faddr 0 (.t 10), (some (23, true)), false⟩,
          ⟨(some 25), .load 1 false (.t 24), (some (23, true)), false⟩,
          ⟨(some 26), .mov (.t 1), (some (23, true)), false⟩,
          ⟨(some 27), .bin .none .lss (.t 25) (.t 26), (some (23, true)), false⟩,
          ⟨(some 28), .pick (.t 23) (.t 27) (.c (.bool false)), none, false⟩,
          ⟨(some 21), .mov (.t 28), none, false⟩] none [0, 1, 2, 8, 9, 10, 14, 15, 16, 21])
        (.cond (.t 21)
          .skip
          (.ops [⟨(some 29), .mov (.t 2), none, false⟩,
            ⟨(some 30), .not (.t 29), none, false⟩,
            ⟨(some 31), .mov (.t 30), none, true⟩,
            ⟨(some 32), .faddr 0 (.t 10), (some (31, true)), false⟩,
            ⟨(some 33), .load 1 false (.t 32), (some (31, true)), false⟩,
            ⟨(some 34), .mov (.t 1), (some (31, true)), false⟩,
            ⟨(some 35), .bin .none .gtr (.t 33) (.t 34), (some (31, true)), false⟩,
            ⟨(some 36), .pick (.t 31) (.t 35) (.c (.bool false)), none, false⟩,
            ⟨(some 21), .mov (.t 36), none, false⟩] none [0, 1, 2, 8, 9, 10, 14, 15, 16, 21])))
      (.cond (.t 21)
        .skip
        (.join [0, 1, 2, 8, 9, 14, 15, 16] [37] 1 (.seq (.ops [⟨(some 38), .mov (.t 8), none, false⟩,
            ⟨(some 39), .bin .none .lss (.t 38) (.c (.int .i64 0)), none, false⟩,
            ⟨(some 37), .mov (.t 39), none, false⟩] none [0, 1, 2, 8, 9, 10, 14, 15, 16, 37])
          (.cond (.t 37)
            .skip
            (.seq (.ops [⟨(some 40), .mov (.t 2), none, false⟩,
              ⟨(some 41), .mov (.t 40), none, true⟩,
              ⟨(some 42), .faddr 0 (.t 10), (some (41, true)), false⟩,
              ⟨(some 43), .load 1 false (.t 42), (some (41, true)), false⟩,
              ⟨(some 44), .mov (.t 0), (some (41, true)), false⟩,
              ⟨(some 45), .mov (.t 8), (some (41, true)), false⟩,
              ⟨(some 46), .iaddr 2 none (.t 44) (.t 45), (some (41, true)), false⟩,
              ⟨(some 47), .faddr 0 (.t 46), (some (41, true)), false⟩,
              ⟨(some 48), .load 1 false (.t 47), (some (41, true)), false⟩,
              ⟨(some 49), .bin .none .lss (.t 43) (.t 48), (some (41, true)), false⟩,
              ⟨(some 50), .pick (.t 41) (.t 49) (.c (.bool false)), none, false⟩,
              ⟨(some 37), .mov (.t 50), none, false⟩] (some 9) [0, 1, 2, 8, 9, 10, 14, 15, 16, 37])
            (.cond (.t 37)
              .skip
              (.ops [⟨(some 51), .mov (.t 2), none, false⟩,
                ⟨(some 52), .not (.t 51), none, false⟩,
                ⟨(some 53), .mov (.t 52), none, true⟩,
                ⟨(some 54), .faddr 0 (.t 10), (some (53, true)), false⟩,
                ⟨(some 55), .load 1 false (.t 54), (some (53, true)), false⟩,
                ⟨(some 56), .mov (.t 0), (some (53, true)), false⟩,
                ⟨(some 57), .mov (.t 8), (some (53, true)), false⟩,
                ⟨(some 58), .iaddr 2 none (.t 56) (.t 57), (some (53, true)), false⟩,
                ⟨(some 59), .faddr 0 (.t 58), (some (53, true)), false⟩,
                ⟨(some 60), .load 1 false (.t 59), (some (53, true)), false⟩,
                ⟨(some 61), .bin .none .gtr (.t 55) (.t 60), (some (53, true)), false⟩,
                ⟨(some 62), .pick (.t 53) (.t 61) (.c (.bool false)), none, false⟩,
                ⟨(some 37), .mov (.t 62), none, false⟩] (some 10) [0, 1, 2, 8, 9, 14, 15, 16, 37])))))
        (.cond (.t 37)
          (.ops [⟨(some 63), .mov (.t 9), none, false⟩,
            ⟨(some 8), .mov (.t 63), none, false⟩] none [0, 1, 2, 8, 14, 15, 16])
          .skip)))))))
    (.ops [⟨(some 64), .bin .none .add (.t 16) (.c (.int .i64 1)), none, false⟩,
      ⟨(some 16), .mov (.t 64), none, false⟩] none [0, 1, 2, 8, 14, 15, 16])))))))
  (.seq (.seq (.ops [⟨(some 65), .mov (.t 8), none, false⟩,
    ⟨(some 66), .bin .none .lss (.t 65) (.c (.int .i64 0)), none, false⟩] none [8, 66])
  (.cond (.t 66)
    (.seq (.ops [⟨(some 6), .mov (.c (.int .i64 0)), none, false⟩,
      ⟨(some 7), .mov (.c (.int .i64 7)), none, false⟩] none [6, 7])
    .ret)
    .skip))
  (.seq (.ops [⟨(some 67), .mov (.t 8), none, false⟩,
    ⟨(some 6), .mov (.t 67), none, false⟩,
    ⟨(some 7), .mov (.c (.int .i64 0)), none, false⟩] none [6, 7])
  .ret))))))
def marks_Near_r : List RRes := [.tmp 6, .tmp 7]
theorem marks_Near_fun {args : List AVal} {S : Store} {R : AVal → Store → Prop} (h : vcFun Try.prog marks_Near_c marks_Near_r args S R) (hlen : args.length ≤ 68) : ACalls Try.prog f_marks_Near args S R :=
  fun_sound (fn := Try.f30) (draw_sound _ _) Try.func30 rfl (by kernel_rfl : comp Try.prog 68 _ marks_Near_c = some marks_Near_c) (by kernel_rfl : cRes Try.prog Try.f30.results.toList = some marks_Near_r) hlen h

/-- fustian/fustianref.MarksNear: slots [0 ms, 1 at, 2 right, 3 ms, 4 at, 5 right, 8 found, 9 best, 10 i, 11 x] -/
def ref_MarksNear_c : SCode :=
  (.seq (.ops [⟨(some 6), .mov (.c (.int .i64 0)), none, false⟩,
    ⟨(some 7), .mov (.c (.int .i64 0)), none, false⟩] none [0, 1, 2])
  (.seq (.seq (.ops [⟨(some 12), .mov (.t 0), none, false⟩,
    ⟨(some 13), .len false (.t 12), none, false⟩,
    ⟨(some 14), .bin .none .gtr (.t 13) (.c (.int .i64 60)), none, false⟩] none [0, 1, 2, 14])
  (.cond (.t 14)
    (.seq (.ops [⟨(some 6), .mov (.c (.int .i64 0)), none, false⟩,
      ⟨(some 7), .mov (.c (.int .i64 1)), none, false⟩] none [6, 7])
    .ret)
    .skip))
  (.seq (.ops [⟨(some 8), .mov (.c (.bool false)), none, false⟩] none [0, 1, 2, 8])
  (.seq (.ops [⟨(some 9), .mov (.c (.int .i64 0)), none, false⟩] none [0, 1, 2, 8, 9])
  (.seq (.seq (.ops [⟨(some 15), .mov (.t 0), none, false⟩,
    ⟨(some 16), .len false (.t 15), none, false⟩,
    ⟨(some 17), .bin .none .sub (.t 16) (.c (.int .i64 1)), none, false⟩,
    ⟨(some 10), .mov (.t 17), none, false⟩] none [0, 1, 2, 8, 9, 10])
  (.block 0 (.loop [0, 1, 2] [8, 9, 10] 0
    (.seq (.seq (.ops [⟨(some 18), .mov (.t 10), none, false⟩,
      ⟨(some 19), .bin .none .geq (.t 18) (.c (.int .i64 0)), none, false⟩] none [0, 1, 2, 8, 9, 10, 19])
    (.cond (.t 19)
      .skip
      (.exit 0)))
    (.join [0, 1, 2, 10] [8, 9] 0 (.block 1 (.seq (.ops [⟨(some 22), .mov (.t 0), none, false⟩,
        ⟨(some 23), .mov (.t 10), none, false⟩,
        ⟨(some 24), .iaddr 2 none (.t 22) (.t 23), none, false⟩,
        ⟨(some 25), .faddr 0 (.t 24), none, false⟩,
        ⟨(some 26), .load 1 false (.t 25), none, false⟩,
        ⟨(some 11), .mov (.t 26), none, false⟩] none [0, 1, 2, 8, 9, 10, 11])
      (.seq (.seq (.ops [⟨(some 27), .mov (.t 2), none, false⟩,
        ⟨(some 28), .mov (.t 27), none, true⟩,
        ⟨(some 29), .mov (.t 11), (some (28, true)), false⟩,
        ⟨(some 30), .mov (.t 1), (some (28, true)), false⟩,
        ⟨(some 31), .bin .none .lss (.t 29) (.t 30), (some (28, true)), false⟩,
        ⟨(some 32), .pick (.t 28) (.t 31) (.c (.bool false)), none, false⟩,
        ⟨(some 33), .mov (.t 32), none, true⟩,
        ⟨(some 34), .mov (.t 2), (some (33, false)), false⟩,
        ⟨(some 35), .not (.t 34), (some (33, false)), false⟩,
        ⟨(some 36), .mov (.t 35), (some (33, false)), true⟩,
        ⟨(some 37), .mov (.t 11), (some (36, true)), false⟩,
        ⟨(some 38), .mov (.t 1), (some (36, true)), false⟩,
        ⟨(some 39), .bin .none .gtr (.t 37) (.t 38), (some (36, true)), false⟩,
        ⟨(some 40), .pick (.t 36) (.t 39) (.c (.bool false)), (some (33, false)), false⟩,
        ⟨(some 41), .pick (.t 33) (.c (.bool true)) (.t 40), none, false⟩] none [0, 1, 2, 8, 9, 10, 11, 41])
      (.cond (.t 41)
        (.exit 1)
        .skip))
      (.seq (.ops [⟨(some 42), .mov (.t 8), none, false⟩,
        ⟨(some 43), .not (.t 42), none, false⟩,
        ⟨(some 44), .mov (.t 43), none, true⟩,
        ⟨(some 45), .mov (.t 2), (some (44, false)), false⟩,
        ⟨(some 46), .mov (.t 45), (some (44, false)), true⟩,
        ⟨(some 47), .mov (.t 11), (some (46, true)), false⟩,
        ⟨(some 48), .mov (.t 0), (some (46, true)), false⟩,
        ⟨(some 49), .mov (.t 9), (some (46, true)), false⟩,
        ⟨(some 50), .iaddr 2 none (.t 48) (.t 49), (some (46, true)), false⟩,
        ⟨(some 51), .faddr 0 (.t 50), (some (46, true)), false⟩,
        ⟨(some 52), .load 1 false (.t 51), (some (46, true)), false⟩,
        ⟨(some 53), .bin .none .leq (.t 47) (.t 52), (some (46, true)), false⟩,
        ⟨(some 54), .pick (.t 46) (.t 53) (.c (.bool false)), (some (44, false)), false⟩,
        ⟨(some 55), .pick (.t 44) (.c (.bool true)) (.t 54), none, false⟩,
        ⟨(some 56), .mov (.t 55), none, true⟩,
        ⟨(some 57), .mov (.t 2), (some (56, false)), false⟩,
        ⟨(some 58), .not (.t 57), (some (56, false)), false⟩,
        ⟨(some 59), .mov (.t 58), (some (56, false)), true⟩,
        ⟨(some 60), .mov (.t 11), (some (59, true)), false⟩,
        ⟨(some 61), .mov (.t 0), (some (59, true)), false⟩,
        ⟨(some 62), .mov (.t 9), (some (59, true)), false⟩,
        ⟨(some 63), .iaddr 2 none (.t 61) (.t 62), (some (59, true)), false⟩,
        ⟨(some 64), .faddr 0 (.t 63), (some (59, true)), false⟩,
        ⟨(some 65), .load 1 false (.t 64), (some (59, true)), false⟩,
        ⟨(some 66), .bin .none .geq (.t 60) (.t 65), (some (59, true)), false⟩,
        ⟨(some 67), .pick (.t 59) (.t 66) (.c (.bool false)), (some (56, false)), false⟩,
        ⟨(some 68), .pick (.t 56) (.c (.bool true)) (.t 67), none, false⟩] none [0, 1, 2, 8, 9, 10, 68])
      (.cond (.t 68)
        (.seq (.ops [⟨(some 69), .mov (.t 10), none, false⟩,
          ⟨(some 9), .mov (.t 69), none, false⟩] none [0, 1, 2, 9, 10])
        (.ops [⟨(some 8), .mov (.c (.bool true)), none, false⟩] none [0, 1, 2, 8, 9, 10]))
        .skip)))))
    (.ops [⟨(some 20), .mov (.t 10), none, false⟩,
      ⟨(some 21), .bin .none .sub (.t 20) (.c (.int .i64 1)), none, false⟩,
      ⟨(some 10), .mov (.t 21), none, false⟩] none [0, 1, 2, 8, 9, 10]))))))
  (.seq (.seq (.ops [⟨(some 70), .mov (.t 8), none, false⟩,
    ⟨(some 71), .not (.t 70), none, false⟩] none [9, 71])
  (.cond (.t 71)
    (.seq (.ops [⟨(some 6), .mov (.c (.int .i64 0)), none, false⟩,
      ⟨(some 7), .mov (.c (.int .i64 7)), none, false⟩] none [6, 7])
    .ret)
    .skip))
  (.seq (.ops [⟨(some 72), .mov (.t 9), none, false⟩,
    ⟨(some 6), .mov (.t 72), none, false⟩,
    ⟨(some 7), .mov (.c (.int .i64 0)), none, false⟩] none [6, 7])
  .ret)))))))
def ref_MarksNear_r : List RRes := [.tmp 6, .tmp 7]
theorem ref_MarksNear_fun {args : List AVal} {S : Store} {R : AVal → Store → Prop} (h : vcFun Try.prog ref_MarksNear_c ref_MarksNear_r args S R) (hlen : args.length ≤ 73) : ACalls Try.prog f_ref_MarksNear args S R :=
  fun_sound (fn := Try.f31) (draw_sound _ _) Try.func31 rfl (by kernel_rfl : comp Try.prog 73 _ ref_MarksNear_c = some ref_MarksNear_c) (by kernel_rfl : cRes Try.prog Try.f31.results.toList = some ref_MarksNear_r) hlen h

/-- fustian/pos.Join: slots [0 a, 1 b, 2 a, 3 b, 6 out] -/
def pos_Join_c : SCode :=
  (.seq (.ops [⟨(some 2), .box 0 (.t 0), none, false⟩,
    ⟨(some 3), .box 0 (.t 1), none, false⟩,
    ⟨(some 4), .alloc 0 [(.int .i64 0), (.int .i64 0), (.int .i64 0)], none, false⟩,
    ⟨(some 5), .mov (.c (.int .i64 0)), none, false⟩] none [2, 3, 4])
  (.seq (.seq (.ops [⟨(some 7), .load 3 true (.t 2), none, false⟩,
    ⟨(some 8), .call f_pos_May [(.t 7)], none, false⟩,
    ⟨(some 9), .not (.t 8), none, false⟩,
    ⟨(some 10), .mov (.t 9), none, true⟩,
    ⟨(some 11), .load 3 true (.t 3), (some (10, false)), false⟩,
    ⟨(some 12), .call f_pos_May [(.t 11)], (some (10, false)), false⟩,
    ⟨(some 13), .not (.t 12), (some (10, false)), false⟩,
    ⟨(some 14), .pick (.t 10) (.c (.bool true)) (.t 13), none, false⟩] none [2, 3, 4, 14])
  (.cond (.t 14)
    (.seq (.ops [⟨(some 15), .build [(.int .i64 0), (.int .i64 0), (.int .i64 0)] [], none, false⟩,
      ⟨none, .store 3 (.t 4) (.t 15), none, false⟩,
      ⟨(some 5), .mov (.c (.int .i64 4)), none, false⟩] none [4, 5])
    .ret)
    .skip))
  (.seq (.ops [⟨(some 16), .faddr 0 (.t 2), none, false⟩,
    ⟨(some 17), .load 1 false (.t 16), none, false⟩,
    ⟨(some 18), .faddr 0 (.t 3), none, false⟩,
    ⟨(some 19), .load 1 false (.t 18), none, false⟩,
    ⟨(some 20), .bin .none .add (.t 17) (.t 19), none, false⟩,
    ⟨(some 21), .faddr 1 (.t 2), none, false⟩,
    ⟨(some 22), .load 1 false (.t 21), none, false⟩,
    ⟨(some 23), .faddr 1 (.t 3), none, false⟩,
    ⟨(some 24), .load 1 false (.t 23), none, false⟩,
    ⟨(some 25), .bin .none .add (.t 22) (.t 24), none, false⟩,
    ⟨(some 26), .faddr 2 (.t 3), none, false⟩,
    ⟨(some 27), .load 1 false (.t 26), none, false⟩,
    ⟨(some 28), .build [(.int .i64 0), (.int .i64 0), (.int .i64 0)] [(0, 1, (.t 20)), (1, 1, (.t 25)), (2, 1, (.t 27))], none, false⟩,
    ⟨(some 6), .alloc 0 [(.int .i64 0), (.int .i64 0), (.int .i64 0)], none, false⟩,
    ⟨none, .store 3 (.t 6) (.t 28), none, false⟩] none [2, 3, 4, 6])
  (.join [4, 6] [] 4 (.seq (.ops [⟨(some 29), .faddr 1 (.t 3), none, false⟩,
      ⟨(some 30), .load 1 false (.t 29), none, false⟩,
      ⟨(some 31), .bin .none .eql (.t 30) (.c (.int .i64 0)), none, false⟩] none [2, 4, 6, 31])
    (.cond (.t 31)
      (.ops [⟨(some 32), .faddr 2 (.t 6), none, false⟩,
        ⟨(some 33), .load 1 false (.t 32), none, false⟩,
        ⟨(some 34), .faddr 2 (.t 2), none, false⟩,
        ⟨(some 35), .load 1 false (.t 34), none, false⟩,
        ⟨(some 36), .bin .none .add (.t 33) (.t 35), none, false⟩,
        ⟨(some 37), .faddr 2 (.t 6), none, false⟩,
        ⟨none, .store 1 (.t 37) (.t 36), none, false⟩] none [4, 6])
      .skip))
  (.seq (.seq (.ops [⟨(some 38), .load 3 true (.t 6), none, false⟩,
    ⟨(some 39), .call f_pos_May [(.t 38)], none, false⟩,
    ⟨(some 40), .not (.t 39), none, false⟩] none [4, 6, 40])
  (.cond (.t 40)
    (.seq (.ops [⟨(some 41), .build [(.int .i64 0), (.int .i64 0), (.int .i64 0)] [], none, false⟩,
      ⟨none, .store 3 (.t 4) (.t 41), none, false⟩,
      ⟨(some 5), .mov (.c (.int .i64 4)), none, false⟩] none [4, 5])
    .ret)
    .skip))
  (.seq (.ops [⟨(some 42), .load 3 true (.t 6), none, false⟩,
    ⟨none, .store 3 (.t 4) (.t 42), none, false⟩,
    ⟨(some 5), .mov (.c (.int .i64 0)), none, false⟩] none [4, 5])
  .ret))))))
def pos_Join_r : List RRes := [.cell 4 3 true, .tmp 5]
theorem pos_Join_fun {args : List AVal} {S : Store} {R : AVal → Store → Prop} (h : vcFun Try.prog pos_Join_c pos_Join_r args S R) (hlen : args.length ≤ 43) : ACalls Try.prog f_pos_Join args S R :=
  fun_sound (fn := Try.f32) (draw_sound _ _) Try.func32 rfl (by kernel_rfl : comp Try.prog 43 _ pos_Join_c = some pos_Join_c) (by kernel_rfl : cRes Try.prog Try.f32.results.toList = some pos_Join_r) hlen h

/-- fustian/fustianref.PosJoin: slots [0 a, 1 b, 2 a, 3 b, 6 out] -/
def ref_PosJoin_c : SCode :=
  (.seq (.ops [⟨(some 2), .box 0 (.t 0), none, false⟩,
    ⟨(some 3), .box 0 (.t 1), none, false⟩,
    ⟨(some 4), .alloc 0 [(.int .i64 0), (.int .i64 0), (.int .i64 0)], none, false⟩,
    ⟨(some 5), .mov (.c (.int .i64 0)), none, false⟩] none [2, 3, 4])
  (.seq (.seq (.ops [⟨(some 7), .load 3 true (.t 2), none, false⟩,
    ⟨(some 8), .call f_ref_PosMay [(.t 7)], none, false⟩,
    ⟨(some 9), .not (.t 8), none, false⟩,
    ⟨(some 10), .mov (.t 9), none, true⟩,
    ⟨(some 11), .load 3 true (.t 3), (some (10, false)), false⟩,
    ⟨(some 12), .call f_ref_PosMay [(.t 11)], (some (10, false)), false⟩,
    ⟨(some 13), .not (.t 12), (some (10, false)), false⟩,
    ⟨(some 14), .pick (.t 10) (.c (.bool true)) (.t 13), none, false⟩] none [2, 3, 4, 14])
  (.cond (.t 14)
    (.seq (.ops [⟨(some 15), .build [(.int .i64 0), (.int .i64 0), (.int .i64 0)] [], none, false⟩,
      ⟨none, .store 3 (.t 4) (.t 15), none, false⟩,
      ⟨(some 5), .mov (.c (.int .i64 4)), none, false⟩] none [4, 5])
    .ret)
    .skip))
  (.seq (.ops [⟨(some 16), .load 3 true (.t 3), none, false⟩,
    ⟨(some 6), .alloc 0 [(.int .i64 0), (.int .i64 0), (.int .i64 0)], none, false⟩,
    ⟨none, .store 3 (.t 6) (.t 16), none, false⟩] none [2, 3, 4, 6])
  (.join [2, 4, 6] [] 4 (.seq (.ops [⟨(some 17), .faddr 1 (.t 3), none, false⟩,
      ⟨(some 18), .load 1 false (.t 17), none, false⟩,
      ⟨(some 19), .bin .none .eql (.t 18) (.c (.int .i64 0)), none, false⟩] none [2, 3, 4, 6, 19])
    (.cond (.t 19)
      (.ops [⟨(some 20), .faddr 2 (.t 2), none, false⟩,
        ⟨(some 21), .load 1 false (.t 20), none, false⟩,
        ⟨(some 22), .faddr 0 (.t 3), none, false⟩,
        ⟨(some 23), .load 1 false (.t 22), none, false⟩,
        ⟨(some 24), .bin .none .add (.t 21) (.t 23), none, false⟩,
        ⟨(some 25), .faddr 2 (.t 6), none, false⟩,
        ⟨none, .store 1 (.t 25) (.t 24), none, false⟩] none [2, 4, 6])
      .skip))
  (.seq (.ops [⟨(some 26), .faddr 0 (.t 6), none, false⟩,
    ⟨(some 27), .load 1 false (.t 26), none, false⟩,
    ⟨(some 28), .faddr 0 (.t 2), none, false⟩,
    ⟨(some 29), .load 1 false (.t 28), none, false⟩,
    ⟨(some 30), .bin .none .add (.t 27) (.t 29), none, false⟩,
    ⟨(some 31), .faddr 0 (.t 6), none, false⟩,
    ⟨none, .store 1 (.t 31) (.t 30), none, false⟩] none [2, 4, 6])
  (.seq (.ops [⟨(some 32), .faddr 1 (.t 6), none, false⟩,
    ⟨(some 33), .load 1 false (.t 32), none, false⟩,
    ⟨(some 34), .faddr 1 (.t 2), none, false⟩,
    ⟨(some 35), .load 1 false (.t 34), none, false⟩,
    ⟨(some 36), .bin .none .add (.t 33) (.t 35), none, false⟩,
    ⟨(some 37), .faddr 1 (.t 6), none, false⟩,
    ⟨none, .store 1 (.t 37) (.t 36), none, false⟩] none [4, 6])
  (.seq (.seq (.ops [⟨(some 38), .load 3 true (.t 6), none, false⟩,
    ⟨(some 39), .call f_ref_PosMay [(.t 38)], none, false⟩,
    ⟨(some 40), .not (.t 39), none, false⟩] none [4, 6, 40])
  (.cond (.t 40)
    (.seq (.ops [⟨(some 41), .build [(.int .i64 0), (.int .i64 0), (.int .i64 0)] [], none, false⟩,
      ⟨none, .store 3 (.t 4) (.t 41), none, false⟩,
      ⟨(some 5), .mov (.c (.int .i64 4)), none, false⟩] none [4, 5])
    .ret)
    .skip))
  (.seq (.ops [⟨(some 42), .load 3 true (.t 6), none, false⟩,
    ⟨none, .store 3 (.t 4) (.t 42), none, false⟩,
    ⟨(some 5), .mov (.c (.int .i64 0)), none, false⟩] none [4, 5])
  .ret))))))))
def ref_PosJoin_r : List RRes := [.cell 4 3 true, .tmp 5]
theorem ref_PosJoin_fun {args : List AVal} {S : Store} {R : AVal → Store → Prop} (h : vcFun Try.prog ref_PosJoin_c ref_PosJoin_r args S R) (hlen : args.length ≤ 43) : ACalls Try.prog f_ref_PosJoin args S R :=
  fun_sound (fn := Try.f33) (draw_sound _ _) Try.func33 rfl (by kernel_rfl : comp Try.prog 43 _ ref_PosJoin_c = some ref_PosJoin_c) (by kernel_rfl : cRes Try.prog Try.f33.results.toList = some ref_PosJoin_r) hlen h

/-- fustian/edit.Place: slots [0 e, 1 at, 2 right, 3 e, 4 at, 5 right, 8 _, 9 n] -/
def edit_Place_c : SCode :=
  (.seq (.ops [⟨(some 3), .box 0 (.t 0), none, false⟩,
    ⟨(some 6), .mov (.c (.int .i64 0)), none, false⟩,
    ⟨(some 7), .mov (.c (.int .i64 0)), none, false⟩] none [1, 2, 3])
  (.seq (.seq (.ops [⟨(some 10), .faddr 0 (.t 3), none, false⟩,
    ⟨(some 11), .load 1 false (.t 10), none, false⟩,
    ⟨(some 12), .faddr 1 (.t 3), none, false⟩,
    ⟨(some 13), .load 1 false (.t 12), none, false⟩,
    ⟨(some 14), .mov (.t 1), none, false⟩,
    ⟨(some 15), .build [(.int .i64 0), (.int .i64 0), (.int .i64 0)] [(0, 1, (.t 11)), (1, 1, (.t 13)), (2, 1, (.t 14))], none, false⟩,
    ⟨(some 16), .mov (.c (.int .i64 0)), none, false⟩] none [1, 2, 3, 15, 16])
  (.block 0 (.loop [1, 2, 3, 15] [16] 1
    (.seq (.ops [⟨(some 17), .bin .none .lss (.t 16) (.c (.int .i64 3)), none, false⟩] none [1, 2, 3, 15, 16, 17])
    (.seq (.cond (.t 17)
      .skip
      (.exit 0))
    (.seq (.block 1 (.seq (.ops [⟨(some 18), .index 1 (some 3) false (.t 15) (.t 16), none, false⟩,
      ⟨(some 9), .mov (.t 18), none, false⟩] none [1, 2, 3, 9, 15, 16])
    (.seq (.ops [⟨(some 19), .mov (.t 9), none, false⟩,
      ⟨(some 20), .bin .none .lss (.t 19) (.c (.int .i64 0)), none, false⟩,
      ⟨(some 21), .mov (.t 20), none, true⟩,
      ⟨(some 22), .mov (.t 9), (some (21, false)), false⟩,
      ⟨(some 23), .bin .none .gtr (.t 22) (.c (.int .i64 1099511627776)), (some (21, false)), false⟩,
      ⟨(some 24), .pick (.t 21) (.c (.bool true)) (.t 23), none, false⟩] none [1, 2, 3, 15, 16, 24])
    (.cond (.t 24)
      (.seq (.ops [⟨(some 6), .mov (.c (.int .i64 0)), none, false⟩,
        ⟨(some 7), .mov (.c (.int .i64 2)), none, false⟩] none [6, 7])
      .ret)
      .skip))))
    (.ops [⟨(some 25), .bin .none .add (.t 16) (.c (.int .i64 1)), none, false⟩,
      ⟨(some 16), .mov (.t 25), none, false⟩] none [1, 2, 3, 15, 16])))))))
  (.seq (.ops [⟨(some 26), .load 3 true (.t 3), none, false⟩,
    ⟨(some 27), .mov (.t 1), none, false⟩,
    ⟨(some 28), .mov (.t 2), none, false⟩,
    ⟨(some 29), .call f_edit_Moved [(.t 26), (.t 27), (.t 28)], none, false⟩,
    ⟨(some 6), .mov (.t 29), none, false⟩,
    ⟨(some 7), .mov (.c (.int .i64 0)), none, false⟩] none [6, 7])
  .ret)))
def edit_Place_r : List RRes := [.tmp 6, .tmp 7]
theorem edit_Place_fun {args : List AVal} {S : Store} {R : AVal → Store → Prop} (h : vcFun Try.prog edit_Place_c edit_Place_r args S R) (hlen : args.length ≤ 30) : ACalls Try.prog f_edit_Place args S R :=
  fun_sound (fn := Try.f34) (draw_sound _ _) Try.func34 rfl (by kernel_rfl : comp Try.prog 30 _ edit_Place_c = some edit_Place_c) (by kernel_rfl : cRes Try.prog Try.f34.results.toList = some edit_Place_r) hlen h

/-- fustian/fustianref.EditPlace: slots [0 e, 1 at, 2 right, 3 e, 4 at, 5 right] -/
def ref_EditPlace_c : SCode :=
  (.seq (.ops [⟨(some 3), .box 0 (.t 0), none, false⟩,
    ⟨(some 6), .mov (.c (.int .i64 0)), none, false⟩,
    ⟨(some 7), .mov (.c (.int .i64 0)), none, false⟩] none [1, 2, 3])
  (.seq (.seq (.ops [⟨(some 8), .faddr 0 (.t 3), none, false⟩,
    ⟨(some 9), .load 1 false (.t 8), none, false⟩,
    ⟨(some 10), .bin .none .lss (.t 9) (.c (.int .i64 0)), none, false⟩,
    ⟨(some 11), .mov (.t 10), none, true⟩,
    ⟨(some 12), .faddr 1 (.t 3), (some (11, false)), false⟩,
    ⟨(some 13), .load 1 false (.t 12), (some (11, false)), false⟩,
    ⟨(some 14), .bin .none .lss (.t 13) (.c (.int .i64 0)), (some (11, false)), false⟩,
    ⟨(some 15), .pick (.t 11) (.c (.bool true)) (.t 14), none, false⟩,
    ⟨(some 16), .mov (.t 15), none, true⟩,
    ⟨(some 17), .mov (.t 1), (some (16, false)), false⟩,
    ⟨(some 18), .bin .none .lss (.t 17) (.c (.int .i64 0)), (some (16, false)), false⟩,
    ⟨(some 19), .pick (.t 16) (.c (.bool true)) (.t 18), none, false⟩,
    ⟨(some 20), .mov (.t 19), none, true⟩,
    ⟨(some 21), .faddr 0 (.t 3), (some (20, false)), false⟩,
    ⟨(some 22), .load 1 false (.t 21), (some (20, false)), false⟩,
    ⟨(some 23), .bin .none .gtr (.t 22) (.c (.int .i64 1099511627776)), (some (20, false)), false⟩,
    ⟨(some 24), .pick (.t 20) (.c (.bool true)) (.t 23), none, false⟩,
    ⟨(some 25), .mov (.t 24), none, true⟩,
    ⟨(some 26), .faddr 1 (.t 3), (some (25, false)), false⟩,
    ⟨(some 27), .load 1 false (.t 26), (some (25, false)), false⟩,
    ⟨(some 28), .bin .none .gtr (.t 27) (.c (.int .i64 1099511627776)), (some (25, false)), false⟩,
    ⟨(some 29), .pick (.t 25) (.c (.bool true)) (.t 28), none, false⟩,
    ⟨(some 30), .mov (.t 29), none, true⟩,
    ⟨(some 31), .mov (.t 1), (some (30, false)), false⟩,
    ⟨(some 32), .bin .none .gtr (.t 31) (.c (.int .i64 1099511627776)), (some (30, false)), false⟩,
    ⟨(some 33), .pick (.t 30) (.c (.bool true)) (.t 32), none, false⟩] none [1, 2, 3, 33])
  (.cond (.t 33)
    (.seq (.ops [⟨(some 6), .mov (.c (.int .i64 0)), none, false⟩,
      ⟨(some 7), .mov (.c (.int .i64 2)), none, false⟩] none [6, 7])
    .ret)
    .skip))
  (.seq (.ops [⟨(some 34), .load 3 true (.t 3), none, false⟩,
    ⟨(some 35), .mov (.t 1), none, false⟩,
    ⟨(some 36), .mov (.t 2), none, false⟩,
    ⟨(some 37), .call f_ref_editPlace [(.t 34), (.t 35), (.t 36)], none, false⟩,
    ⟨(some 6), .mov (.t 37), none, false⟩,
    ⟨(some 7), .mov (.c (.int .i64 0)), none, false⟩] none [6, 7])
  .ret)))
def ref_EditPlace_r : List RRes := [.tmp 6, .tmp 7]
theorem ref_EditPlace_fun {args : List AVal} {S : Store} {R : AVal → Store → Prop} (h : vcFun Try.prog ref_EditPlace_c ref_EditPlace_r args S R) (hlen : args.length ≤ 38) : ACalls Try.prog f_ref_EditPlace args S R :=
  fun_sound (fn := Try.f35) (draw_sound _ _) Try.func35 rfl (by kernel_rfl : comp Try.prog 38 _ ref_EditPlace_c = some ref_EditPlace_c) (by kernel_rfl : cRes Try.prog Try.f35.results.toList = some ref_EditPlace_r) hlen h

/-- fustian/find.Border: slots [0 s, 1 s] -/
def find_Border_c : SCode :=
  (.seq (.ops [⟨(some 2), .mov (.c .nils), none, false⟩,
    ⟨(some 3), .mov (.c (.int .i64 0)), none, false⟩] none [0])
  (.seq (.seq (.ops [⟨(some 4), .mov (.t 0), none, false⟩,
    ⟨(some 5), .len true (.t 4), none, false⟩,
    ⟨(some 6), .bin .none .gtr (.t 5) (.c (.int .i64 600)), none, false⟩] none [0, 6])
  (.cond (.t 6)
    (.seq (.ops [⟨(some 2), .mov (.c .nils), none, false⟩,
      ⟨(some 3), .mov (.c (.int .i64 1)), none, false⟩] none [2, 3])
    .ret)
    .skip))
  (.seq (.ops [⟨(some 7), .mov (.t 0), none, false⟩,
    ⟨(some 8), .call f_find_border [(.t 7)], none, false⟩,
    ⟨(some 2), .mov (.t 8), none, false⟩,
    ⟨(some 3), .mov (.c (.int .i64 0)), none, false⟩] none [2, 3])
  .ret)))
def find_Border_r : List RRes := [.tmp 2, .tmp 3]
theorem find_Border_fun {args : List AVal} {S : Store} {R : AVal → Store → Prop} (h : vcFun Try.prog find_Border_c find_Border_r args S R) (hlen : args.length ≤ 9) : ACalls Try.prog f_find_Border args S R :=
  fun_sound (fn := Try.f36) (draw_sound _ _) Try.func36 rfl (by kernel_rfl : comp Try.prog 9 _ find_Border_c = some find_Border_c) (by kernel_rfl : cRes Try.prog Try.f36.results.toList = some find_Border_r) hlen h

/-- fustian/fustianref.FindBorder: slots [0 s, 1 s, 4 out, 5 n, 6 k] -/
def ref_FindBorder_c : SCode :=
  (.seq (.ops [⟨(some 2), .mov (.c .nils), none, false⟩,
    ⟨(some 3), .mov (.c (.int .i64 0)), none, false⟩] none [0])
  (.seq (.seq (.ops [⟨(some 7), .mov (.t 0), none, false⟩,
    ⟨(some 8), .len true (.t 7), none, false⟩,
    ⟨(some 9), .bin .none .gtr (.t 8) (.c (.int .i64 600)), none, false⟩] none [0, 9])
  (.cond (.t 9)
    (.seq (.ops [⟨(some 2), .mov (.c .nils), none, false⟩,
      ⟨(some 3), .mov (.c (.int .i64 1)), none, false⟩] none [2, 3])
    .ret)
    .skip))
  (.seq (.ops [⟨(some 4), .newnil 1, none, false⟩] none [0, 4])
  (.seq (.seq (.ops [⟨(some 5), .mov (.c (.int .i64 1)), none, false⟩] none [0, 4, 5])
  (.block 0 (.loop [0] [4, 5] 1
    (.seq (.seq (.ops [⟨(some 10), .mov (.t 5), none, false⟩,
      ⟨(some 11), .mov (.t 0), none, false⟩,
      ⟨(some 12), .len true (.t 11), none, false⟩,
      ⟨(some 13), .bin .none .leq (.t 10) (.t 12), none, false⟩] none [0, 4, 5, 13])
    (.cond (.t 13)
      .skip
      (.exit 0)))
    (.seq (.block 1 (.seq (.ops [⟨(some 16), .mov (.t 5), none, false⟩,
      ⟨(some 17), .bin .none .sub (.t 16) (.c (.int .i64 1)), none, false⟩,
      ⟨(some 6), .mov (.t 17), none, false⟩] none [0, 4, 5, 6])
    (.seq (.block 2 (.loop [0, 4, 5] [6] 1
      (.seq (.seq (.ops [⟨(some 18), .mov (.t 0), none, false⟩,
        ⟨(some 19), .mov (.t 6), none, false⟩,
        ⟨(some 20), .slice 0 (.t 18) none (some (.t 19)), none, false⟩,
        ⟨(some 21), .mov (.t 0), none, false⟩,
        ⟨(some 22), .mov (.t 5), none, false⟩,
        ⟨(some 23), .mov (.t 6), none, false⟩,
        ⟨(some 24), .bin .none .sub (.t 22) (.t 23), none, false⟩,
        ⟨(some 25), .mov (.t 5), none, false⟩,
        ⟨(some 26), .slice 0 (.t 21) (some (.t 24)) (some (.t 25)), none, false⟩,
        ⟨(some 27), .bin .none .neq (.t 20) (.t 26), none, false⟩] (some 9) [0, 4, 5, 6, 27])
      (.cond (.t 27)
        .skip
        (.exit 2)))
      (.block 3 (.ops [⟨(some 28), .mov (.t 6), none, false⟩,
        ⟨(some 29), .bin .none .sub (.t 28) (.c (.int .i64 1)), none, false⟩,
        ⟨(some 6), .mov (.t 29), none, false⟩] none [0, 4, 5, 6])))))
    (.ops [⟨(some 30), .mov (.t 4), none, false⟩,
      ⟨(some 31), .mov (.t 6), none, false⟩,
      ⟨(some 32), .bslice true 1 1 [(.int .i64 0)] [(0, 1, (.t 31))], none, false⟩,
      ⟨(some 33), .append 1 8 (.t 30) (.t 32), none, false⟩,
      ⟨(some 4), .mov (.t 33), none, false⟩] none [0, 4, 5]))))
    (.ops [⟨(some 14), .mov (.t 5), none, false⟩,
      ⟨(some 15), .bin .none .add (.t 14) (.c (.int .i64 1)), none, false⟩,
      ⟨(some 5), .mov (.t 15), none, false⟩] none [0, 4, 5]))))))
  (.seq (.ops [⟨(some 34), .mov (.t 4), none, false⟩,
    ⟨(some 2), .mov (.t 34), none, false⟩,
    ⟨(some 3), .mov (.c (.int .i64 0)), none, false⟩] none [2, 3])
  .ret)))))
def ref_FindBorder_r : List RRes := [.tmp 2, .tmp 3]
theorem ref_FindBorder_fun {args : List AVal} {S : Store} {R : AVal → Store → Prop} (h : vcFun Try.prog ref_FindBorder_c ref_FindBorder_r args S R) (hlen : args.length ≤ 35) : ACalls Try.prog f_ref_FindBorder args S R :=
  fun_sound (fn := Try.f37) (draw_sound _ _) Try.func37 rfl (by kernel_rfl : comp Try.prog 35 _ ref_FindBorder_c = some ref_FindBorder_c) (by kernel_rfl : cRes Try.prog Try.f37.results.toList = some ref_FindBorder_r) hlen h

/-- fustian/lines.Of: slots [0 text, 1 text, 3 out, 4 i] -/
def lines_Of_c : SCode :=
  (.seq (.ops [⟨(some 2), .mov (.c .nils), none, false⟩] none [0])
  (.seq (.ops [⟨(some 5), .bslice false 1 1 [(.int .i64 0)] [(0, 1, (.c (.int .i64 0)))], none, false⟩,
    ⟨(some 3), .mov (.t 5), none, false⟩] none [0, 3])
  (.seq (.seq (.ops [⟨(some 6), .mov (.t 0), none, false⟩,
    ⟨(some 7), .len true (.t 6), none, false⟩,
    ⟨(some 8), .mov (.c (.int .i64 0)), none, false⟩] none [0, 3, 7, 8])
  (.block 0 (.loop [0, 7] [3, 8] 1
    (.seq (.ops [⟨(some 9), .bin .none .lss (.t 8) (.t 7), none, false⟩] none [0, 3, 7, 8, 9])
    (.seq (.cond (.t 9)
      .skip
      (.exit 0))
    (.join [0, 7, 8] [3] 1 (.block 1 (.seq (.ops [⟨(some 10), .mov (.t 8), none, false⟩,
        ⟨(some 4), .mov (.t 10), none, false⟩] none [0, 3, 4, 7, 8])
      (.seq (.ops [⟨(some 11), .mov (.t 0), none, false⟩,
        ⟨(some 12), .mov (.t 4), none, false⟩,
        ⟨(some 13), .index 1 none false (.t 11) (.t 12), none, false⟩,
        ⟨(some 14), .bin .none .eql (.t 13) (.c (.int .u8 10)), none, false⟩] none [0, 3, 4, 7, 8, 14])
      (.cond (.t 14)
        (.ops [⟨(some 15), .mov (.t 3), none, false⟩,
          ⟨(some 16), .mov (.t 4), none, false⟩,
          ⟨(some 17), .bin .none .add (.t 16) (.c (.int .i64 1)), none, false⟩,
          ⟨(some 18), .bslice true 1 1 [(.int .i64 0)] [(0, 1, (.t 17))], none, false⟩,
          ⟨(some 19), .append 1 8 (.t 15) (.t 18), none, false⟩,
          ⟨(some 3), .mov (.t 19), none, false⟩] none [0, 3, 7, 8])
        .skip))))
    (.ops [⟨(some 20), .bin .none .add (.t 8) (.c (.int .i64 1)), none, false⟩,
      ⟨(some 8), .mov (.t 20), none, false⟩] none [0, 3, 7, 8])))))))
  (.seq (.ops [⟨(some 21), .mov (.t 3), none, false⟩,
    ⟨(some 2), .mov (.t 21), none, false⟩] none [2])
  .ret))))
def lines_Of_r : List RRes := [.tmp 2]
theorem lines_Of_fun {args : List AVal} {S : Store} {R : AVal → Store → Prop} (h : vcFun Try.prog lines_Of_c lines_Of_r args S R) (hlen : args.length ≤ 22) : ACalls Try.prog f_lines_Of args S R :=
  fun_sound (fn := Try.f38) (draw_sound _ _) Try.func38 rfl (by kernel_rfl : comp Try.prog 22 _ lines_Of_c = some lines_Of_c) (by kernel_rfl : cRes Try.prog Try.f38.results.toList = some lines_Of_r) hlen h

/-- fustian/fustianref.cutLines: slots [0 text, 1 text, 3 out, 4 i] -/
def ref_cutLines_c : SCode :=
  (.seq (.ops [⟨(some 2), .mov (.c .nils), none, false⟩] none [0])
  (.seq (.ops [⟨(some 5), .bslice false 1 1 [(.str [])] [(0, 1, (.c (.str [])))], none, false⟩,
    ⟨(some 3), .mov (.t 5), none, false⟩] none [0, 3])
  (.seq (.seq (.ops [⟨(some 4), .mov (.c (.int .i64 0)), none, false⟩] none [0, 3, 4])
  (.block 0 (.loop [0] [3, 4] 1
    (.seq (.seq (.ops [⟨(some 6), .mov (.t 4), none, false⟩,
      ⟨(some 7), .mov (.t 0), none, false⟩,
      ⟨(some 8), .len true (.t 7), none, false⟩,
      ⟨(some 9), .bin .none .lss (.t 6) (.t 8), none, false⟩] none [0, 3, 4, 9])
    (.cond (.t 9)
      .skip
      (.exit 0)))
    (.join [0, 4] [3] 1 (.block 1 (.seq (.ops [⟨(some 12), .mov (.t 0), none, false⟩,
        ⟨(some 13), .mov (.t 4), none, false⟩,
        ⟨(some 14), .index 1 none false (.t 12) (.t 13), none, false⟩,
        ⟨(some 15), .bin .none .eql (.t 14) (.c (.int .u8 10)), none, false⟩] none [0, 3, 4, 15])
      (.cond (.t 15)
        (.ops [⟨(some 16), .mov (.t 3), none, false⟩,
          ⟨(some 17), .bslice true 1 1 [(.str [])] [(0, 1, (.c (.str [])))], none, false⟩,
          ⟨(some 18), .append 1 16 (.t 16) (.t 17), none, false⟩,
          ⟨(some 3), .mov (.t 18), none, false⟩] none [0, 3, 4])
        (.ops [⟨(some 19), .mov (.t 3), none, false⟩,
          ⟨(some 20), .mov (.t 3), none, false⟩,
          ⟨(some 21), .len false (.t 20), none, false⟩,
          ⟨(some 22), .bin .none .sub (.t 21) (.c (.int .i64 1)), none, false⟩,
          ⟨(some 23), .iaddr 1 none (.t 19) (.t 22), none, false⟩,
          ⟨(some 24), .load 1 false (.t 23), none, false⟩,
          ⟨(some 25), .mov (.t 0), none, false⟩,
          ⟨(some 26), .mov (.t 4), none, false⟩,
          ⟨(some 27), .mov (.t 4), none, false⟩,
          ⟨(some 28), .bin .none .add (.t 27) (.c (.int .i64 1)), none, false⟩,
          ⟨(some 29), .slice 0 (.t 25) (some (.t 26)) (some (.t 28)), none, false⟩,
          ⟨(some 30), .bin .none .add (.t 24) (.t 29), none, false⟩,
          ⟨(some 31), .iaddr 1 none (.t 19) (.t 22), none, false⟩,
          ⟨none, .store 1 (.t 31) (.t 30), none, false⟩] (some 11) [0, 3, 4]))))
    (.ops [⟨(some 10), .mov (.t 4), none, false⟩,
      ⟨(some 11), .bin .none .add (.t 10) (.c (.int .i64 1)), none, false⟩,
      ⟨(some 4), .mov (.t 11), none, false⟩] none [0, 3, 4]))))))
  (.seq (.ops [⟨(some 32), .mov (.t 3), none, false⟩,
    ⟨(some 2), .mov (.t 32), none, false⟩] none [2])
  .ret))))
def ref_cutLines_r : List RRes := [.tmp 2]
theorem ref_cutLines_fun {args : List AVal} {S : Store} {R : AVal → Store → Prop} (h : vcFun Try.prog ref_cutLines_c ref_cutLines_r args S R) (hlen : args.length ≤ 33) : ACalls Try.prog f_ref_cutLines args S R :=
  fun_sound (fn := Try.f39) (draw_sound _ _) Try.func39 rfl (by kernel_rfl : comp Try.prog 33 _ ref_cutLines_c = some ref_cutLines_c) (by kernel_rfl : cRes Try.prog Try.f39.results.toList = some ref_cutLines_r) hlen h

/-- fustian/edit.Moved: slots [0 e, 1 at, 2 right, 3 e, 4 at, 5 right] -/
def edit_Moved_c : SCode :=
  (.seq (.ops [⟨(some 3), .box 0 (.t 0), none, false⟩,
    ⟨(some 6), .mov (.c (.int .i64 0)), none, false⟩] none [1, 2, 3])
  (.seq (.block 0 (.seq (.ops [⟨(some 8), .mov (.t 1), none, false⟩,
    ⟨(some 9), .faddr 0 (.t 3), none, false⟩,
    ⟨(some 10), .load 1 false (.t 9), none, false⟩,
    ⟨(some 11), .bin .none .lss (.t 8) (.t 10), none, false⟩,
    ⟨(some 7), .mov (.t 11), none, false⟩] none [1, 2, 3, 7])
  (.cond (.t 7)
    (.seq (.ops [⟨(some 12), .mov (.t 1), none, false⟩,
      ⟨(some 6), .mov (.t 12), none, false⟩] none [6])
    .ret)
    (.join [1, 2, 3] [13] 1 (.seq (.ops [⟨(some 14), .faddr 1 (.t 3), none, false⟩,
        ⟨(some 15), .load 1 false (.t 14), none, false⟩,
        ⟨(some 16), .bin .none .eql (.t 15) (.c (.int .i64 0)), none, false⟩,
        ⟨(some 17), .mov (.t 16), none, true⟩,
        ⟨(some 18), .mov (.t 1), (some (17, true)), false⟩,
        ⟨(some 19), .faddr 0 (.t 3), (some (17, true)), false⟩,
        ⟨(some 20), .load 1 false (.t 19), (some (17, true)), false⟩,
        ⟨(some 21), .bin .none .gtr (.t 18) (.t 20), (some (17, true)), false⟩,
        ⟨(some 22), .pick (.t 17) (.t 21) (.c (.bool false)), none, false⟩,
        ⟨(some 13), .mov (.t 22), none, false⟩] none [1, 2, 3, 13])
      (.cond (.t 13)
        .skip
        (.ops [⟨(some 23), .faddr 1 (.t 3), none, false⟩,
          ⟨(some 24), .load 1 false (.t 23), none, false⟩,
          ⟨(some 25), .bin .none .gtr (.t 24) (.c (.int .i64 0)), none, false⟩,
          ⟨(some 26), .mov (.t 25), none, true⟩,
          ⟨(some 27), .mov (.t 1), (some (26, true)), false⟩,
          ⟨(some 28), .faddr 0 (.t 3), (some (26, true)), false⟩,
          ⟨(some 29), .load 1 false (.t 28), (some (26, true)), false⟩,
          ⟨(some 30), .faddr 1 (.t 3), (some (26, true)), false⟩,
          ⟨(some 31), .load 1 false (.t 30), (some (26, true)), false⟩,
          ⟨(some 32), .bin .none .add (.t 29) (.t 31), (some (26, true)), false⟩,
          ⟨(some 33), .bin .none .geq (.t 27) (.t 32), (some (26, true)), false⟩,
          ⟨(some 34), .pick (.t 26) (.t 33) (.c (.bool false)), none, false⟩,
          ⟨(some 13), .mov (.t 34), none, false⟩] none [1, 2, 3, 13])))
    (.cond (.t 13)
      (.seq (.ops [⟨(some 35), .mov (.t 1), none, false⟩,
        ⟨(some 36), .faddr 2 (.t 3), none, false⟩,
        ⟨(some 37), .load 1 false (.t 36), none, false⟩,
        ⟨(some 38), .len true (.t 37), none, false⟩,
        ⟨(some 39), .bin .none .add (.t 35) (.t 38), none, false⟩,
        ⟨(some 40), .faddr 1 (.t 3), none, false⟩,
        ⟨(some 41), .load 1 false (.t 40), none, false⟩,
        ⟨(some 42), .bin .none .sub (.t 39) (.t 41), none, false⟩,
        ⟨(some 6), .mov (.t 42), none, false⟩] none [6])
      .ret)
      (.seq (.ops [⟨(some 44), .mov (.t 2), none, false⟩,
        ⟨(some 43), .mov (.t 44), none, false⟩] none [3, 43])
      (.cond (.t 43)
        (.seq (.ops [⟨(some 45), .faddr 0 (.t 3), none, false⟩,
          ⟨(some 46), .load 1 false (.t 45), none, false⟩,
          ⟨(some 47), .faddr 2 (.t 3), none, false⟩,
          ⟨(some 48), .load 1 false (.t 47), none, false⟩,
          ⟨(some 49), .len true (.t 48), none, false⟩,
          ⟨(some 50), .bin .none .add (.t 46) (.t 49), none, false⟩,
          ⟨(some 6), .mov (.t 50), none, false⟩] none [6])
        .ret)
        .skip)))))))
  (.seq (.ops [⟨(some 51), .faddr 0 (.t 3), none, false⟩,
    ⟨(some 52), .load 1 false (.t 51), none, false⟩,
    ⟨(some 6), .mov (.t 52), none, false⟩] none [6])
  .ret)))
def edit_Moved_r : List RRes := [.tmp 6]
theorem edit_Moved_fun {args : List AVal} {S : Store} {R : AVal → Store → Prop} (h : vcFun Try.prog edit_Moved_c edit_Moved_r args S R) (hlen : args.length ≤ 53) : ACalls Try.prog f_edit_Moved args S R :=
  fun_sound (fn := Try.f40) (draw_sound _ _) Try.func40 rfl (by kernel_rfl : comp Try.prog 53 _ edit_Moved_c = some edit_Moved_c) (by kernel_rfl : cRes Try.prog Try.f40.results.toList = some edit_Moved_r) hlen h

/-- fustian/fustianref.editPlace: slots [0 e, 1 at, 2 right, 3 e, 4 at, 5 right] -/
def ref_editPlace_c : SCode :=
  (.seq (.ops [⟨(some 3), .box 0 (.t 0), none, false⟩,
    ⟨(some 6), .mov (.c (.int .i64 0)), none, false⟩] none [1, 2, 3])
  (.seq (.seq (.ops [⟨(some 7), .mov (.t 1), none, false⟩,
    ⟨(some 8), .faddr 0 (.t 3), none, false⟩,
    ⟨(some 9), .load 1 false (.t 8), none, false⟩,
    ⟨(some 10), .bin .none .lss (.t 7) (.t 9), none, false⟩] none [1, 2, 3, 10])
  (.cond (.t 10)
    (.seq (.ops [⟨(some 11), .mov (.t 1), none, false⟩,
      ⟨(some 6), .mov (.t 11), none, false⟩] none [6])
    .ret)
    .skip))
  (.seq (.seq (.ops [⟨(some 12), .mov (.t 1), none, false⟩,
    ⟨(some 13), .faddr 0 (.t 3), none, false⟩,
    ⟨(some 14), .load 1 false (.t 13), none, false⟩,
    ⟨(some 15), .faddr 1 (.t 3), none, false⟩,
    ⟨(some 16), .load 1 false (.t 15), none, false⟩,
    ⟨(some 17), .bin .none .add (.t 14) (.t 16), none, false⟩,
    ⟨(some 18), .bin .none .geq (.t 12) (.t 17), none, false⟩,
    ⟨(some 19), .mov (.t 18), none, true⟩,
    ⟨(some 20), .faddr 1 (.t 3), (some (19, true)), false⟩,
    ⟨(some 21), .load 1 false (.t 20), (some (19, true)), false⟩,
    ⟨(some 22), .bin .none .eql (.t 21) (.c (.int .i64 0)), (some (19, true)), false⟩,
    ⟨(some 23), .mov (.t 22), (some (19, true)), true⟩,
    ⟨(some 24), .mov (.t 1), (some (23, true)), false⟩,
    ⟨(some 25), .faddr 0 (.t 3), (some (23, true)), false⟩,
    ⟨(some 26), .load 1 false (.t 25), (some (23, true)), false⟩,
    ⟨(some 27), .bin .none .eql (.t 24) (.t 26), (some (23, true)), false⟩,
    ⟨(some 28), .pick (.t 23) (.t 27) (.c (.bool false)), (some (19, true)), false⟩,
    ⟨(some 29), .not (.t 28), (some (19, true)), false⟩,
    ⟨(some 30), .pick (.t 19) (.t 29) (.c (.bool false)), none, false⟩] none [1, 2, 3, 30])
  (.cond (.t 30)
    (.seq (.ops [⟨(some 31), .mov (.t 1), none, false⟩,
      ⟨(some 32), .faddr 1 (.t 3), none, false⟩,
      ⟨(some 33), .load 1 false (.t 32), none, false⟩,
      ⟨(some 34), .bin .none .sub (.t 31) (.t 33), none, false⟩,
      ⟨(some 35), .faddr 2 (.t 3), none, false⟩,
      ⟨(some 36), .load 1 false (.t 35), none, false⟩,
      ⟨(some 37), .len true (.t 36), none, false⟩,
      ⟨(some 38), .bin .none .add (.t 34) (.t 37), none, false⟩,
      ⟨(some 6), .mov (.t 38), none, false⟩] none [6])
    .ret)
    .skip))
  (.seq (.seq (.ops [⟨(some 39), .mov (.t 2), none, false⟩] none [3, 39])
  (.cond (.t 39)
    (.seq (.ops [⟨(some 40), .faddr 0 (.t 3), none, false⟩,
      ⟨(some 41), .load 1 false (.t 40), none, false⟩,
      ⟨(some 42), .faddr 2 (.t 3), none, false⟩,
      ⟨(some 43), .load 1 false (.t 42), none, false⟩,
      ⟨(some 44), .len true (.t 43), none, false⟩,
      ⟨(some 45), .bin .none .add (.t 41) (.t 44), none, false⟩,
      ⟨(some 6), .mov (.t 45), none, false⟩] none [6])
    .ret)
    .skip))
  (.seq (.ops [⟨(some 46), .faddr 0 (.t 3), none, false⟩,
    ⟨(some 47), .load 1 false (.t 46), none, false⟩,
    ⟨(some 6), .mov (.t 47), none, false⟩] none [6])
  .ret)))))
def ref_editPlace_r : List RRes := [.tmp 6]
theorem ref_editPlace_fun {args : List AVal} {S : Store} {R : AVal → Store → Prop} (h : vcFun Try.prog ref_editPlace_c ref_editPlace_r args S R) (hlen : args.length ≤ 48) : ACalls Try.prog f_ref_editPlace args S R :=
  fun_sound (fn := Try.f41) (draw_sound _ _) Try.func41 rfl (by kernel_rfl : comp Try.prog 48 _ ref_editPlace_c = some ref_editPlace_c) (by kernel_rfl : cRes Try.prog Try.f41.results.toList = some ref_editPlace_r) hlen h

/-- fustian/find.border: slots [0 s, 1 s, 3 out, 4 n, 5 i] -/
def find_border_c : SCode :=
  (.seq (.ops [⟨(some 2), .mov (.c .nils), none, false⟩] none [0])
  (.seq (.ops [⟨(some 6), .mov (.t 0), none, false⟩,
    ⟨(some 7), .len true (.t 6), none, false⟩,
    ⟨(some 8), .mkslice 1 8 [(.int .i64 0)] (.t 7) (.t 7), none, false⟩,
    ⟨(some 3), .mov (.t 8), none, false⟩] none [0, 3])
  (.seq (.ops [⟨(some 4), .mov (.c (.int .i64 0)), none, false⟩] none [0, 3, 4])
  (.seq (.seq (.ops [⟨(some 5), .mov (.c (.int .i64 1)), none, false⟩] none [0, 3, 4, 5])
  (.block 0 (.loop [0, 3] [4, 5] 1
    (.seq (.seq (.ops [⟨(some 9), .mov (.t 5), none, false⟩,
      ⟨(some 10), .mov (.t 0), none, false⟩,
      ⟨(some 11), .len true (.t 10), none, false⟩,
      ⟨(some 12), .bin .none .lss (.t 9) (.t 11), none, false⟩] none [0, 3, 4, 5, 12])
    (.cond (.t 12)
      .skip
      (.exit 0)))
    (.seq (.block 1 (.seq (.block 2 (.loop [0, 3, 5] [4] 1
      (.seq (.seq (.ops [⟨(some 15), .mov (.t 4), none, false⟩,
        ⟨(some 16), .bin .none .gtr (.t 15) (.c (.int .i64 0)), none, false⟩,
        ⟨(some 17), .mov (.t 16), none, true⟩,
        ⟨(some 18), .mov (.t 0), (some (17, true)), false⟩,
        ⟨(some 19), .mov (.t 5), (some (17, true)), false⟩,
        ⟨(some 20), .index 1 none false (.t 18) (.t 19), (some (17, true)), false⟩,
        ⟨(some 21), .mov (.t 0), (some (17, true)), false⟩,
        ⟨(some 22), .mov (.t 4), (some (17, true)), false⟩,
        ⟨(some 23), .index 1 none false (.t 21) (.t 22), (some (17, true)), false⟩,
        ⟨(some 24), .bin .none .neq (.t 20) (.t 23), (some (17, true)), false⟩,
        ⟨(some 25), .pick (.t 17) (.t 24) (.c (.bool false)), none, false⟩] (some 9) [0, 3, 4, 5, 25])
      (.cond (.t 25)
        .skip
        (.exit 2)))
      (.block 3 (.ops [⟨(some 26), .mov (.t 3), none, false⟩,
        ⟨(some 27), .mov (.t 4), none, false⟩,
        ⟨(some 28), .bin .none .sub (.t 27) (.c (.int .i64 1)), none, false⟩,
        ⟨(some 29), .iaddr 1 none (.t 26) (.t 28), none, false⟩,
        ⟨(some 30), .load 1 false (.t 29), none, false⟩,
        ⟨(some 4), .mov (.t 30), none, false⟩] none [0, 3, 4, 5])))))
    (.join [0, 3, 5] [4] 1 (.seq (.ops [⟨(some 31), .mov (.t 0), none, false⟩,
        ⟨(some 32), .mov (.t 5), none, false⟩,
        ⟨(some 33), .index 1 none false (.t 31) (.t 32), none, false⟩,
        ⟨(some 34), .mov (.t 0), none, false⟩,
        ⟨(some 35), .mov (.t 4), none, false⟩,
        ⟨(some 36), .index 1 none false (.t 34) (.t 35), none, false⟩,
        ⟨(some 37), .bin .none .eql (.t 33) (.t 36), none, false⟩] (some 6) [0, 3, 4, 5, 37])
      (.cond (.t 37)
        (.ops [⟨(some 38), .mov (.t 4), none, false⟩,
          ⟨(some 39), .bin .none .add (.t 38) (.c (.int .i64 1)), none, false⟩,
          ⟨(some 4), .mov (.t 39), none, false⟩] none [0, 3, 4, 5])
        .skip))
    (.ops [⟨(some 40), .mov (.t 3), none, false⟩,
      ⟨(some 41), .mov (.t 5), none, false⟩,
      ⟨(some 42), .mov (.t 4), none, false⟩,
      ⟨(some 43), .iaddr 1 none (.t 40) (.t 41), none, false⟩,
      ⟨none, .store 1 (.t 43) (.t 42), none, false⟩] none [0, 3, 4, 5]))))
    (.ops [⟨(some 13), .mov (.t 5), none, false⟩,
      ⟨(some 14), .bin .none .add (.t 13) (.c (.int .i64 1)), none, false⟩,
      ⟨(some 5), .mov (.t 14), none, false⟩] none [0, 3, 4, 5]))))))
  (.seq (.ops [⟨(some 44), .mov (.t 3), none, false⟩,
    ⟨(some 2), .mov (.t 44), none, false⟩] none [2])
  .ret)))))
def find_border_r : List RRes := [.tmp 2]
theorem find_border_fun {args : List AVal} {S : Store} {R : AVal → Store → Prop} (h : vcFun Try.prog find_border_c find_border_r args S R) (hlen : args.length ≤ 45) : ACalls Try.prog f_find_border args S R :=
  fun_sound (fn := Try.f42) (draw_sound _ _) Try.func42 rfl (by kernel_rfl : comp Try.prog 45 _ find_border_c = some find_border_c) (by kernel_rfl : cRes Try.prog Try.f42.results.toList = some find_border_r) hlen h

end Go.Proofs.Ytgnhlecfladigaa
