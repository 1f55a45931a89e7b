/- The functions' simplified code, printed by a program of the claim's author; each is checked against the program's own code. Conditions: none. -/
import Derived.Test.YtgnhlecfladigaaProg
import Derived.Test.YtgnhlecfladigaaVyM
set_option linter.unusedVariables false
set_option maxRecDepth 100000
namespace Go.Proofs.Ytgnhlecfladigaa
open Go.Vc
abbrev f_gosem_cut_init : Nat := 2
abbrev f_law_Names : Nat := 3
abbrev f_law_PolyMays : Nat := 4
abbrev f_law_PosMays : Nat := 5
abbrev f_law_PolyOfs : Nat := 6
abbrev f_law_PolyJoins : Nat := 7
abbrev f_law_EditChecks : Nat := 8
abbrev f_law_SpansMays : Nat := 9
abbrev f_law_LinesStarts : Nat := 10
abbrev f_law_MarksNears : Nat := 11
abbrev f_law_PosJoins : Nat := 12
abbrev f_law_EditPlaces : Nat := 13
abbrev f_law_FindBorders : Nat := 14
abbrev f_poly_May : Nat := 15
abbrev f_ref_PolyMay : Nat := 16
abbrev f_pos_May : Nat := 17
abbrev f_ref_PosMay : Nat := 18
abbrev f_poly_Of : Nat := 19
abbrev f_ref_PolyOf : Nat := 20
abbrev f_poly_Join : Nat := 21
abbrev f_ref_PolyJoin : Nat := 22
abbrev f_edit_Check : Nat := 23
abbrev f_ref_EditFault : Nat := 24
abbrev f_spans_May : Nat := 25
abbrev f_ref_SpansMay : Nat := 26
abbrev f_lines_Starts : Nat := 27
abbrev f_ref_LinesStarts : Nat := 28
abbrev f_law_sameInts : Nat := 29
abbrev f_marks_Near : Nat := 30
abbrev f_ref_MarksNear : Nat := 31
abbrev f_pos_Join : Nat := 32
abbrev f_ref_PosJoin : Nat := 33
abbrev f_edit_Place : Nat := 34
abbrev f_ref_EditPlace : Nat := 35
abbrev f_find_Border : Nat := 36
abbrev f_ref_FindBorder : Nat := 37
abbrev f_lines_Of : Nat := 38
abbrev f_ref_cutLines : Nat := 39
abbrev f_edit_Moved : Nat := 40
abbrev f_ref_editPlace : Nat := 41
abbrev f_find_border : Nat := 42

/-- fustian/find.border: slots [0 s, 1 s, 3 out, 4 n, 5 i] -/
def find_border_c : SCode :=
  (.seq (.ops [⟨(some 2), .mov (.c .nils), none, false⟩] none [0])
  (.seq (.ops [⟨(some 6), .mov (.t 0), none, false⟩,
    ⟨(some 7), .len true (.t 6), none, false⟩,
    ⟨(some 8), .mkslice 1 8 [(.int .i64 0)] (.t 7) (.t 7), none, false⟩,
    ⟨(some 3), .mov (.t 8), none, false⟩] none [0, 3])
  (.seq (.ops [⟨(some 4), .mov (.c (.int .i64 0)), none, false⟩] none [0, 3, 4])
  (.seq (.seq (.ops [⟨(some 5), .mov (.c (.int .i64 1)), none, false⟩] none [0, 3, 4, 5])
  (.block 0 (.loop [0, 3] [4, 5] 1
    (.seq (.seq (.ops [⟨(some 9), .mov (.t 5), none, false⟩,
      ⟨(some 10), .mov (.t 0), none, false⟩,
      ⟨(some 11), .len true (.t 10), none, false⟩,
      ⟨(some 12), .bin .none .lss (.t 9) (.t 11), none, false⟩] none [0, 3, 4, 5, 12])
    (.cond (.t 12)
      .skip
      (.exit 0)))
    (.seq (.block 1 (.seq (.block 2 (.loop [0, 3, 5] [4] 1
      (.seq (.seq (.ops [⟨(some 15), .mov (.t 4), none, false⟩,
        ⟨(some 16), .bin .none .gtr (.t 15) (.c (.int .i64 0)), none, false⟩,
        ⟨(some 17), .mov (.t 16), none, true⟩,
        ⟨(some 18), .mov (.t 0), (some (17, true)), false⟩,
        ⟨(some 19), .mov (.t 5), (some (17, true)), false⟩,
        ⟨(some 20), .index 1 none false (.t 18) (.t 19), (some (17, true)), false⟩,
        ⟨(some 21), .mov (.t 0), (some (17, true)), false⟩,
        ⟨(some 22), .mov (.t 4), (some (17, true)), false⟩,
        ⟨(some 23), .index 1 none false (.t 21) (.t 22), (some (17, true)), false⟩,
        ⟨(some 24), .bin .none .neq (.t 20) (.t 23), (some (17, true)), false⟩,
        ⟨(some 25), .pick (.t 17) (.t 24) (.c (.bool false)), none, false⟩] (some 9) [0, 3, 4, 5, 25])
      (.cond (.t 25)
        .skip
        (.exit 2)))
      (.block 3 (.ops [⟨(some 26), .mov (.t 3), none, false⟩,
        ⟨(some 27), .mov (.t 4), none, false⟩,
        ⟨(some 28), .bin .none .sub (.t 27) (.c (.int .i64 1)), none, false⟩,
        ⟨(some 29), .iaddr 1 none (.t 26) (.t 28), none, false⟩,
        ⟨(some 30), .load 1 false (.t 29), none, false⟩,
        ⟨(some 4), .mov (.t 30), none, false⟩] none [0, 3, 4, 5])))))
    (.join [0, 3, 5] [4] 1 (.seq (.ops [⟨(some 31), .mov (.t 0), none, false⟩,
        ⟨(some 32), .mov (.t 5), none, false⟩,
        ⟨(some 33), .index 1 none false (.t 31) (.t 32), none, false⟩,
        ⟨(some 34), .mov (.t 0), none, false⟩,
        ⟨(some 35), .mov (.t 4), none, false⟩,
        ⟨(some 36), .index 1 none false (.t 34) (.t 35), none, false⟩,
        ⟨(some 37), .bin .none .eql (.t 33) (.t 36), none, false⟩] (some 6) [0, 3, 4, 5, 37])
      (.cond (.t 37)
        (.ops [⟨(some 38), .mov (.t 4), none, false⟩,
          ⟨(some 39), .bin .none .add (.t 38) (.c (.int .i64 1)), none, false⟩,
          ⟨(some 4), .mov (.t 39), none, false⟩] none [0, 3, 4, 5])
        .skip))
    (.ops [⟨(some 40), .mov (.t 3), none, false⟩,
      ⟨(some 41), .mov (.t 5), none, false⟩,
      ⟨(some 42), .mov (.t 4), none, false⟩,
      ⟨(some 43), .iaddr 1 none (.t 40) (.t 41), none, false⟩,
      ⟨none, .store 1 (.t 43) (.t 42), none, false⟩] none [0, 3, 4, 5]))))
    (.ops [⟨(some 13), .mov (.t 5), none, false⟩,
      ⟨(some 14), .bin .none .add (.t 13) (.c (.int .i64 1)), none, false⟩,
      ⟨(some 5), .mov (.t 14), none, false⟩] none [0, 3, 4, 5]))))))
  (.seq (.ops [⟨(some 44), .mov (.t 3), none, false⟩,
    ⟨(some 2), .mov (.t 44), none, false⟩] none [2])
  .ret)))))
def find_border_r : List RRes := [.tmp 2]
def find_border_hi : Hi := ⟨[(8, (.int .i64))], [(0, "s"), (1, "s"), (3, "out"), (4, "n"), (5, "i")]⟩
def find_border_an : An := (.seq .d (.seq .d (.seq .d (.seq (.seq .d (.loop [3] [] [] (.seq .d (.seq (.seq (.loop [] [] [] .d) .d) .d)))) .d))))
def find_border_fi : Fi := ⟨45, find_border_c, find_border_r, find_border_an, find_border_hi⟩
theorem find_border_ok : FiOk Try.prog f_find_border find_border_fi :=
  ⟨by kernel_rfl, fun h hlen => fun_sound (fn := Try.f42) (draw_sound _ _) Try.func42 rfl (by kernel_rfl : comp Try.prog 45 _ find_border_c = some find_border_c) (by kernel_rfl : cRes Try.prog Try.f42.results.toList = some find_border_r) hlen h⟩

/-- fustian/find.Border: slots [0 s, 1 s] -/
def find_Border_c : SCode :=
  (.seq (.ops [⟨(some 2), .mov (.c .nils), none, false⟩,
    ⟨(some 3), .mov (.c (.int .i64 0)), none, false⟩] none [0])
  (.seq (.seq (.ops [⟨(some 4), .mov (.t 0), none, false⟩,
    ⟨(some 5), .len true (.t 4), none, false⟩,
    ⟨(some 6), .bin .none .gtr (.t 5) (.c (.int .i64 600)), none, false⟩] none [0, 6])
  (.cond (.t 6)
    (.seq (.ops [⟨(some 2), .mov (.c .nils), none, false⟩,
      ⟨(some 3), .mov (.c (.int .i64 1)), none, false⟩] none [2, 3])
    .ret)
    .skip))
  (.seq (.ops [⟨(some 7), .mov (.t 0), none, false⟩,
    ⟨(some 8), .call f_find_border [(.t 7)], none, false⟩,
    ⟨(some 2), .mov (.t 8), none, false⟩,
    ⟨(some 3), .mov (.c (.int .i64 0)), none, false⟩] none [2, 3])
  .ret)))
def find_Border_r : List RRes := [.tmp 2, .tmp 3]
def find_Border_hi : Hi := ⟨[], [(0, "s"), (1, "s")]⟩
def find_Border_an : An := .d
def find_Border_fi : Fi := ⟨9, find_Border_c, find_Border_r, find_Border_an, find_Border_hi⟩
theorem find_Border_ok : FiOk Try.prog f_find_Border find_Border_fi :=
  ⟨by kernel_rfl, fun h hlen => fun_sound (fn := Try.f36) (draw_sound _ _) Try.func36 rfl (by kernel_rfl : comp Try.prog 9 _ find_Border_c = some find_Border_c) (by kernel_rfl : cRes Try.prog Try.f36.results.toList = some find_Border_r) hlen h⟩

/-- fustian/fustianref.FindBorder: slots [0 s, 1 s, 4 out, 5 n, 6 k] -/
def ref_FindBorder_c : SCode :=
  (.seq (.ops [⟨(some 2), .mov (.c .nils), none, false⟩,
    ⟨(some 3), .mov (.c (.int .i64 0)), none, false⟩] none [0])
  (.seq (.seq (.ops [⟨(some 7), .mov (.t 0), none, false⟩,
    ⟨(some 8), .len true (.t 7), none, false⟩,
    ⟨(some 9), .bin .none .gtr (.t 8) (.c (.int .i64 600)), none, false⟩] none [0, 9])
  (.cond (.t 9)
    (.seq (.ops [⟨(some 2), .mov (.c .nils), none, false⟩,
      ⟨(some 3), .mov (.c (.int .i64 1)), none, false⟩] none [2, 3])
    .ret)
    .skip))
  (.seq (.ops [⟨(some 4), .newnil 1, none, false⟩] none [0, 4])
  (.seq (.seq (.ops [⟨(some 5), .mov (.c (.int .i64 1)), none, false⟩] none [0, 4, 5])
  (.block 0 (.loop [0] [4, 5] 1
    (.seq (.seq (.ops [⟨(some 10), .mov (.t 5), none, false⟩,
      ⟨(some 11), .mov (.t 0), none, false⟩,
      ⟨(some 12), .len true (.t 11), none, false⟩,
      ⟨(some 13), .bin .none .leq (.t 10) (.t 12), none, false⟩] none [0, 4, 5, 13])
    (.cond (.t 13)
      .skip
      (.exit 0)))
    (.seq (.block 1 (.seq (.ops [⟨(some 16), .mov (.t 5), none, false⟩,
      ⟨(some 17), .bin .none .sub (.t 16) (.c (.int .i64 1)), none, false⟩,
      ⟨(some 6), .mov (.t 17), none, false⟩] none [0, 4, 5, 6])
    (.seq (.block 2 (.loop [0, 4, 5] [6] 1
      (.seq (.seq (.ops [⟨(some 18), .mov (.t 0), none, false⟩,
        ⟨(some 19), .mov (.t 6), none, false⟩,
        ⟨(some 20), .slice 0 (.t 18) none (some (.t 19)), none, false⟩,
        ⟨(some 21), .mov (.t 0), none, false⟩,
        ⟨(some 22), .mov (.t 5), none, false⟩,
        ⟨(some 23), .mov (.t 6), none, false⟩,
        ⟨(some 24), .bin .none .sub (.t 22) (.t 23), none, false⟩,
        ⟨(some 25), .mov (.t 5), none, false⟩,
        ⟨(some 26), .slice 0 (.t 21) (some (.t 24)) (some (.t 25)), none, false⟩,
        ⟨(some 27), .bin .none .neq (.t 20) (.t 26), none, false⟩] (some 9) [0, 4, 5, 6, 27])
      (.cond (.t 27)
        .skip
        (.exit 2)))
      (.block 3 (.ops [⟨(some 28), .mov (.t 6), none, false⟩,
        ⟨(some 29), .bin .none .sub (.t 28) (.c (.int .i64 1)), none, false⟩,
        ⟨(some 6), .mov (.t 29), none, false⟩] none [0, 4, 5, 6])))))
    (.ops [⟨(some 30), .mov (.t 4), none, false⟩,
      ⟨(some 31), .mov (.t 6), none, false⟩,
      ⟨(some 32), .bslice true 1 1 [(.int .i64 0)] [(0, 1, (.t 31))], none, false⟩,
      ⟨(some 33), .append 1 8 (.t 30) (.t 32), none, false⟩,
      ⟨(some 4), .mov (.t 33), none, false⟩] none [0, 4, 5]))))
    (.ops [⟨(some 14), .mov (.t 5), none, false⟩,
      ⟨(some 15), .bin .none .add (.t 14) (.c (.int .i64 1)), none, false⟩,
      ⟨(some 5), .mov (.t 15), none, false⟩] none [0, 4, 5]))))))
  (.seq (.ops [⟨(some 34), .mov (.t 4), none, false⟩,
    ⟨(some 2), .mov (.t 34), none, false⟩,
    ⟨(some 3), .mov (.c (.int .i64 0)), none, false⟩] none [2, 3])
  .ret)))))
def ref_FindBorder_r : List RRes := [.tmp 2, .tmp 3]
def ref_FindBorder_hi : Hi := ⟨[(4, (.int .i64)), (32, (.int .i64)), (33, (.int .i64))], [(0, "s"), (1, "s"), (4, "out"), (5, "n"), (6, "k")]⟩
def ref_FindBorder_an : An := (.seq .d (.seq .d (.seq .d (.seq (.seq .d (.loop [4] [] [] (.seq .d (.seq (.seq .d (.seq (.loop [] [] [] .d) .d)) .d)))) .d))))
def ref_FindBorder_fi : Fi := ⟨35, ref_FindBorder_c, ref_FindBorder_r, ref_FindBorder_an, ref_FindBorder_hi⟩
theorem ref_FindBorder_ok : FiOk Try.prog f_ref_FindBorder ref_FindBorder_fi :=
  ⟨by kernel_rfl, fun h hlen => fun_sound (fn := Try.f37) (draw_sound _ _) Try.func37 rfl (by kernel_rfl : comp Try.prog 35 _ ref_FindBorder_c = some ref_FindBorder_c) (by kernel_rfl : cRes Try.prog Try.f37.results.toList = some ref_FindBorder_r) hlen h⟩

/-- fustian/fustianlaw.sameInts: slots [0 a, 1 b, 2 a, 3 b, 5 i] -/
def law_sameInts_c : SCode :=
  (.seq (.ops [⟨(some 4), .mov (.c (.bool false)), none, false⟩] none [0, 1])
  (.seq (.seq (.ops [⟨(some 6), .mov (.t 0), none, false⟩,
    ⟨(some 7), .len false (.t 6), none, false⟩,
    ⟨(some 8), .mov (.t 1), none, false⟩,
    ⟨(some 9), .len false (.t 8), none, false⟩,
    ⟨(some 10), .bin .none .neq (.t 7) (.t 9), none, false⟩] none [0, 1, 10])
  (.cond (.t 10)
    (.seq (.ops [⟨(some 4), .mov (.c (.bool false)), none, false⟩] none [4])
    .ret)
    .skip))
  (.seq (.seq (.ops [⟨(some 5), .mov (.c (.int .i64 0)), none, false⟩] none [0, 1, 5])
  (.block 0 (.loop [0, 1] [5] 0
    (.seq (.seq (.ops [⟨(some 11), .mov (.t 5), none, false⟩,
      ⟨(some 12), .mov (.t 0), none, false⟩,
      ⟨(some 13), .len false (.t 12), none, false⟩,
      ⟨(some 14), .bin .none .lss (.t 11) (.t 13), none, false⟩] none [0, 1, 5, 14])
    (.cond (.t 14)
      .skip
      (.exit 0)))
    (.seq (.block 1 (.seq (.ops [⟨(some 17), .mov (.t 0), none, false⟩,
      ⟨(some 18), .mov (.t 5), none, false⟩,
      ⟨(some 19), .iaddr 1 none (.t 17) (.t 18), none, false⟩,
      ⟨(some 20), .load 1 false (.t 19), none, false⟩,
      ⟨(some 21), .mov (.t 1), none, false⟩,
      ⟨(some 22), .mov (.t 5), none, false⟩,
      ⟨(some 23), .iaddr 1 none (.t 21) (.t 22), none, false⟩,
      ⟨(some 24), .load 1 false (.t 23), none, false⟩,
      ⟨(some 25), .bin .none .neq (.t 20) (.t 24), none, false⟩] (some 8) [0, 1, 5, 25])
    (.cond (.t 25)
      (.seq (.ops [⟨(some 4), .mov (.c (.bool false)), none, false⟩] none [4])
      .ret)
      .skip)))
    (.ops [⟨(some 15), .mov (.t 5), none, false⟩,
      ⟨(some 16), .bin .none .add (.t 15) (.c (.int .i64 1)), none, false⟩,
      ⟨(some 5), .mov (.t 16), none, false⟩] none [0, 1, 5]))))))
  (.seq (.ops [⟨(some 4), .mov (.c (.bool true)), none, false⟩] none [4])
  .ret))))
def law_sameInts_r : List RRes := [.tmp 4]
def law_sameInts_hi : Hi := ⟨[], [(0, "a"), (1, "b"), (2, "a"), (3, "b"), (5, "i")]⟩
def law_sameInts_an : An := (.seq .d (.seq .d (.seq (.seq .d (.loop [] [] [] .d)) .d)))
def law_sameInts_fi : Fi := ⟨26, law_sameInts_c, law_sameInts_r, law_sameInts_an, law_sameInts_hi⟩
theorem law_sameInts_ok : FiOk Try.prog f_law_sameInts law_sameInts_fi :=
  ⟨by kernel_rfl, fun h hlen => fun_sound (fn := Try.f29) (draw_sound _ _) Try.func29 rfl (by kernel_rfl : comp Try.prog 26 _ law_sameInts_c = some law_sameInts_c) (by kernel_rfl : cRes Try.prog Try.f29.results.toList = some law_sameInts_r) hlen h⟩

/-- fustian/fustianlaw.FindBorders: slots [0 s, 1 s, 3 x, 4 e, 5 y, 6 f] -/
def law_FindBorders_c : SCode :=
  (.seq (.ops [⟨(some 2), .mov (.c (.bool false)), none, false⟩] none [0])
  (.seq (.ops [⟨(some 8), .mov (.t 0), none, false⟩,
    ⟨(some 9), .call f_find_Border [(.t 8)], none, false⟩,
    ⟨(some 7), .mov (.t 9), none, false⟩,
    ⟨(some 10), .extract (.t 7) 0, none, false⟩,
    ⟨(some 11), .extract (.t 7) 1, none, false⟩,
    ⟨(some 3), .mov (.t 10), none, false⟩,
    ⟨(some 4), .mov (.t 11), none, false⟩] none [0, 3, 4])
  (.seq (.ops [⟨(some 13), .mov (.t 0), none, false⟩,
    ⟨(some 14), .call f_ref_FindBorder [(.t 13)], none, false⟩,
    ⟨(some 12), .mov (.t 14), none, false⟩,
    ⟨(some 15), .extract (.t 12) 0, none, false⟩,
    ⟨(some 16), .extract (.t 12) 1, none, false⟩,
    ⟨(some 5), .mov (.t 15), none, false⟩,
    ⟨(some 6), .mov (.t 16), none, false⟩] none [3, 4, 5, 6])
  (.seq (.ops [⟨(some 17), .mov (.t 3), none, false⟩,
    ⟨(some 18), .mov (.t 5), none, false⟩,
    ⟨(some 19), .call f_law_sameInts [(.t 17), (.t 18)], none, false⟩,
    ⟨(some 20), .mov (.t 19), none, true⟩,
    ⟨(some 21), .mov (.t 4), (some (20, true)), false⟩,
    ⟨(some 22), .mov (.t 6), (some (20, true)), false⟩,
    ⟨(some 23), .bin .none .eql (.t 21) (.t 22), (some (20, true)), false⟩,
    ⟨(some 24), .pick (.t 20) (.t 23) (.c (.bool false)), none, false⟩,
    ⟨(some 2), .mov (.t 24), none, false⟩] none [2])
  .ret))))
def law_FindBorders_r : List RRes := [.tmp 2]
def law_FindBorders_hi : Hi := ⟨[], [(0, "s"), (1, "s"), (3, "x"), (4, "e"), (5, "y"), (6, "f")]⟩
def law_FindBorders_an : An := .d
def law_FindBorders_fi : Fi := ⟨25, law_FindBorders_c, law_FindBorders_r, law_FindBorders_an, law_FindBorders_hi⟩
theorem law_FindBorders_ok : FiOk Try.prog f_law_FindBorders law_FindBorders_fi :=
  ⟨by kernel_rfl, fun h hlen => fun_sound (fn := Try.f14) (draw_sound _ _) Try.func14 rfl (by kernel_rfl : comp Try.prog 25 _ law_FindBorders_c = some law_FindBorders_c) (by kernel_rfl : cRes Try.prog Try.f14.results.toList = some law_FindBorders_r) hlen h⟩

end Go.Proofs.Ytgnhlecfladigaa
