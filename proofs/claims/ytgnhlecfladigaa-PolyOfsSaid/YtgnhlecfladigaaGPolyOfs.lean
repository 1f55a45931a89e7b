/- The functions' simplified code, printed by a program of the claim's author; each is checked against the program's own code. Conditions: none. -/
import Derived.Test.YtgnhlecfladigaaProg
import Derived.Test.YtgnhlecfladigaaVyM
set_option linter.unusedVariables false
set_option maxRecDepth 100000
namespace Go.Proofs.Ytgnhlecfladigaa
open Go.Vc
abbrev f_gosem_cut_init : Nat := 2
abbrev f_law_Names : Nat := 3
abbrev f_law_PolyMays : Nat := 4
abbrev f_law_PosMays : Nat := 5
abbrev f_law_PolyOfs : Nat := 6
abbrev f_law_PolyJoins : Nat := 7
abbrev f_law_EditChecks : Nat := 8
abbrev f_law_SpansMays : Nat := 9
abbrev f_law_LinesStarts : Nat := 10
abbrev f_law_MarksNears : Nat := 11
abbrev f_law_PosJoins : Nat := 12
abbrev f_law_EditPlaces : Nat := 13
abbrev f_law_FindBorders : Nat := 14
abbrev f_poly_May : Nat := 15
abbrev f_ref_PolyMay : Nat := 16
abbrev f_pos_May : Nat := 17
abbrev f_ref_PosMay : Nat := 18
abbrev f_poly_Of : Nat := 19
abbrev f_ref_PolyOf : Nat := 20
abbrev f_poly_Join : Nat := 21
abbrev f_ref_PolyJoin : Nat := 22
abbrev f_edit_Check : Nat := 23
abbrev f_ref_EditFault : Nat := 24
abbrev f_spans_May : Nat := 25
abbrev f_ref_SpansMay : Nat := 26
abbrev f_lines_Starts : Nat := 27
abbrev f_ref_LinesStarts : Nat := 28
abbrev f_law_sameInts : Nat := 29
abbrev f_marks_Near : Nat := 30
abbrev f_ref_MarksNear : Nat := 31
abbrev f_pos_Join : Nat := 32
abbrev f_ref_PosJoin : Nat := 33
abbrev f_edit_Place : Nat := 34
abbrev f_ref_EditPlace : Nat := 35
abbrev f_find_Border : Nat := 36
abbrev f_ref_FindBorder : Nat := 37
abbrev f_lines_Of : Nat := 38
abbrev f_ref_cutLines : Nat := 39
abbrev f_edit_Moved : Nat := 40
abbrev f_ref_editPlace : Nat := 41
abbrev f_find_border : Nat := 42

/-- fustian/poly.Of: slots [0 text, 1 text, 3 h, 4 i] -/
def poly_Of_c : SCode :=
  (.seq (.ops [⟨(some 2), .alloc 0 [(.int .i64 0), (.int .i64 0)], none, false⟩] none [0, 2])
  (.seq (.ops [⟨(some 5), .build [(.int .i64 0), (.int .i64 0)] [(1, 1, (.c (.int .i64 1)))], none, false⟩,
    ⟨(some 3), .alloc 0 [(.int .i64 0), (.int .i64 0)], none, false⟩,
    ⟨none, .store 2 (.t 3) (.t 5), none, false⟩] none [0, 2, 3])
  (.seq (.seq (.ops [⟨(some 6), .mov (.t 0), none, false⟩,
    ⟨(some 7), .len true (.t 6), none, false⟩,
    ⟨(some 8), .mov (.c (.int .i64 0)), none, false⟩] none [0, 2, 3, 7, 8])
  (.block 0 (.loop [0, 2, 3, 7] [8] 2
    (.seq (.ops [⟨(some 9), .bin .none .lss (.t 8) (.t 7), none, false⟩] none [0, 2, 3, 7, 8, 9])
    (.seq (.cond (.t 9)
      .skip
      (.exit 0))
    (.seq (.block 1 (.seq (.ops [⟨(some 10), .mov (.t 8), none, false⟩,
      ⟨(some 4), .mov (.t 10), none, false⟩] none [0, 2, 3, 4, 7, 8])
    (.seq (.ops [⟨(some 11), .faddr 0 (.t 3), none, false⟩,
      ⟨(some 12), .load 1 false (.t 11), none, false⟩,
      ⟨(some 13), .bin .none .mul (.t 12) (.c (.int .i64 257)), none, false⟩,
      ⟨(some 14), .mov (.t 0), none, false⟩,
      ⟨(some 15), .mov (.t 4), none, false⟩,
      ⟨(some 16), .index 1 none false (.t 14) (.t 15), none, false⟩,
      ⟨(some 17), .conv .i64 (.t 16), none, false⟩,
      ⟨(some 18), .bin .none .add (.t 13) (.t 17), none, false⟩,
      ⟨(some 19), .bin .none .add (.t 18) (.c (.int .i64 1)), none, false⟩,
      ⟨(some 20), .bin .none .rem (.t 19) (.c (.int .i64 2147483647)), none, false⟩,
      ⟨(some 21), .faddr 0 (.t 3), none, false⟩,
      ⟨none, .store 1 (.t 21) (.t 20), none, false⟩] (some 7) [0, 2, 3, 7, 8])
    (.ops [⟨(some 22), .faddr 1 (.t 3), none, false⟩,
      ⟨(some 23), .load 1 false (.t 22), none, false⟩,
      ⟨(some 24), .bin .none .mul (.t 23) (.c (.int .i64 257)), none, false⟩,
      ⟨(some 25), .bin .none .rem (.t 24) (.c (.int .i64 2147483647)), none, false⟩,
      ⟨(some 26), .faddr 1 (.t 3), none, false⟩,
      ⟨none, .store 1 (.t 26) (.t 25), none, false⟩] none [0, 2, 3, 7, 8]))))
    (.ops [⟨(some 27), .bin .none .add (.t 8) (.c (.int .i64 1)), none, false⟩,
      ⟨(some 8), .mov (.t 27), none, false⟩] none [0, 2, 3, 7, 8])))))))
  (.seq (.ops [⟨(some 28), .load 2 true (.t 3), none, false⟩,
    ⟨none, .store 2 (.t 2) (.t 28), none, false⟩] none [2])
  .ret))))
def poly_Of_r : List RRes := [.cell 2 2 true]
def poly_Of_hi : Hi := ⟨[], [(0, "text"), (1, "text"), (3, "h"), (4, "i")]⟩
def poly_Of_an : An := (.seq .d (.seq .d (.seq (.seq .d (.loop [3] [] [] .d)) .d)))
def poly_Of_fi : Fi := ⟨29, poly_Of_c, poly_Of_r, poly_Of_an, poly_Of_hi⟩
theorem poly_Of_ok : FiOk Try.prog f_poly_Of poly_Of_fi :=
  ⟨by kernel_rfl, fun h hlen => fun_sound (fn := Try.f19) (draw_sound _ _) Try.func19 rfl (by kernel_rfl : comp Try.prog 29 _ poly_Of_c = some poly_Of_c) (by kernel_rfl : cRes Try.prog Try.f19.results.toList = some poly_Of_r) hlen h⟩

/-- fustian/fustianref.PolyOf: slots [0 text, 1 text, 3 power, 4 sum, 5 i] -/
def ref_PolyOf_c : SCode :=
  (.seq (.ops [⟨(some 2), .alloc 0 [(.int .i64 0), (.int .i64 0)], none, false⟩] none [0, 2])
  (.seq (.ops [⟨(some 3), .mov (.c (.int .i64 1)), none, false⟩] none [0, 2, 3])
  (.seq (.ops [⟨(some 4), .mov (.c (.int .i64 0)), none, false⟩] none [0, 2, 3, 4])
  (.seq (.seq (.ops [⟨(some 6), .mov (.t 0), none, false⟩,
    ⟨(some 7), .len true (.t 6), none, false⟩,
    ⟨(some 8), .bin .none .sub (.t 7) (.c (.int .i64 1)), none, false⟩,
    ⟨(some 5), .mov (.t 8), none, false⟩] none [0, 2, 3, 4, 5])
  (.block 0 (.loop [0, 2] [3, 4, 5] 1
    (.seq (.seq (.ops [⟨(some 9), .mov (.t 5), none, false⟩,
      ⟨(some 10), .bin .none .geq (.t 9) (.c (.int .i64 0)), none, false⟩] none [0, 2, 3, 4, 5, 10])
    (.cond (.t 10)
      .skip
      (.exit 0)))
    (.seq (.block 1 (.seq (.ops [⟨(some 13), .mov (.t 4), none, false⟩,
      ⟨(some 14), .mov (.t 0), none, false⟩,
      ⟨(some 15), .mov (.t 5), none, false⟩,
      ⟨(some 16), .index 1 none false (.t 14) (.t 15), none, false⟩,
      ⟨(some 17), .conv .i64 (.t 16), none, false⟩,
      ⟨(some 18), .bin .none .add (.t 17) (.c (.int .i64 1)), none, false⟩,
      ⟨(some 19), .mov (.t 3), none, false⟩,
      ⟨(some 20), .bin .none .mul (.t 18) (.t 19), none, false⟩,
      ⟨(some 21), .bin .none .add (.t 13) (.t 20), none, false⟩,
      ⟨(some 22), .bin .none .rem (.t 21) (.c (.int .i64 2147483647)), none, false⟩,
      ⟨(some 4), .mov (.t 22), none, false⟩] none [0, 2, 3, 4, 5])
    (.ops [⟨(some 23), .mov (.t 3), none, false⟩,
      ⟨(some 24), .bin .none .mul (.t 23) (.c (.int .i64 257)), none, false⟩,
      ⟨(some 25), .bin .none .rem (.t 24) (.c (.int .i64 2147483647)), none, false⟩,
      ⟨(some 3), .mov (.t 25), none, false⟩] none [0, 2, 3, 4, 5])))
    (.ops [⟨(some 11), .mov (.t 5), none, false⟩,
      ⟨(some 12), .bin .none .sub (.t 11) (.c (.int .i64 1)), none, false⟩,
      ⟨(some 5), .mov (.t 12), none, false⟩] none [0, 2, 3, 4, 5]))))))
  (.seq (.ops [⟨(some 26), .mov (.t 4), none, false⟩,
    ⟨(some 27), .mov (.t 3), none, false⟩,
    ⟨(some 28), .build [(.int .i64 0), (.int .i64 0)] [(0, 1, (.t 26)), (1, 1, (.t 27))], none, false⟩,
    ⟨none, .store 2 (.t 2) (.t 28), none, false⟩] none [2])
  .ret)))))
def ref_PolyOf_r : List RRes := [.cell 2 2 true]
def ref_PolyOf_hi : Hi := ⟨[], [(0, "text"), (1, "text"), (3, "power"), (4, "sum"), (5, "i")]⟩
def ref_PolyOf_an : An := (.seq .d (.seq .d (.seq .d (.seq (.seq .d (.loop [] [] [] .d)) .d))))
def ref_PolyOf_fi : Fi := ⟨29, ref_PolyOf_c, ref_PolyOf_r, ref_PolyOf_an, ref_PolyOf_hi⟩
theorem ref_PolyOf_ok : FiOk Try.prog f_ref_PolyOf ref_PolyOf_fi :=
  ⟨by kernel_rfl, fun h hlen => fun_sound (fn := Try.f20) (draw_sound _ _) Try.func20 rfl (by kernel_rfl : comp Try.prog 29 _ ref_PolyOf_c = some ref_PolyOf_c) (by kernel_rfl : cRes Try.prog Try.f20.results.toList = some ref_PolyOf_r) hlen h⟩

/-- fustian/fustianlaw.PolyOfs: slots [0 text, 1 text] -/
def law_PolyOfs_c : SCode :=
  (.seq (.ops [⟨(some 2), .mov (.c (.bool false)), none, false⟩] none [0])
  (.seq (.ops [⟨(some 3), .mov (.t 0), none, false⟩,
    ⟨(some 4), .call f_poly_Of [(.t 3)], none, false⟩,
    ⟨(some 5), .mov (.t 0), none, false⟩,
    ⟨(some 6), .call f_ref_PolyOf [(.t 5)], none, false⟩,
    ⟨(some 7), .bin (.agg [.int, .int]) .eql (.t 4) (.t 6), none, false⟩,
    ⟨(some 2), .mov (.t 7), none, false⟩] none [2])
  .ret))
def law_PolyOfs_r : List RRes := [.tmp 2]
def law_PolyOfs_hi : Hi := ⟨[], [(0, "text"), (1, "text")]⟩
def law_PolyOfs_an : An := .d
def law_PolyOfs_fi : Fi := ⟨8, law_PolyOfs_c, law_PolyOfs_r, law_PolyOfs_an, law_PolyOfs_hi⟩
theorem law_PolyOfs_ok : FiOk Try.prog f_law_PolyOfs law_PolyOfs_fi :=
  ⟨by kernel_rfl, fun h hlen => fun_sound (fn := Try.f6) (draw_sound _ _) Try.func6 rfl (by kernel_rfl : comp Try.prog 8 _ law_PolyOfs_c = some law_PolyOfs_c) (by kernel_rfl : cRes Try.prog Try.f6.results.toList = some law_PolyOfs_r) hlen h⟩

end Go.Proofs.Ytgnhlecfladigaa
