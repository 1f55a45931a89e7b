/- The functions' simplified code, printed by a program of the claim's author; each is checked against the program's own code. Conditions: none. -/
import Derived.Test.YtgnhlecfladigaaProg
import Derived.Test.YtgnhlecfladigaaVyM
set_option linter.unusedVariables false
set_option maxRecDepth 100000
namespace Go.Proofs.Ytgnhlecfladigaa
open Go.Vc
abbrev f_gosem_cut_init : Nat := 2
abbrev f_law_Names : Nat := 3
abbrev f_law_PolyMays : Nat := 4
abbrev f_law_PosMays : Nat := 5
abbrev f_law_PolyOfs : Nat := 6
abbrev f_law_PolyJoins : Nat := 7
abbrev f_law_EditChecks : Nat := 8
abbrev f_law_SpansMays : Nat := 9
abbrev f_law_LinesStarts : Nat := 10
abbrev f_law_MarksNears : Nat := 11
abbrev f_law_PosJoins : Nat := 12
abbrev f_law_EditPlaces : Nat := 13
abbrev f_law_FindBorders : Nat := 14
abbrev f_poly_May : Nat := 15
abbrev f_ref_PolyMay : Nat := 16
abbrev f_pos_May : Nat := 17
abbrev f_ref_PosMay : Nat := 18
abbrev f_poly_Of : Nat := 19
abbrev f_ref_PolyOf : Nat := 20
abbrev f_poly_Join : Nat := 21
abbrev f_ref_PolyJoin : Nat := 22
abbrev f_edit_Check : Nat := 23
abbrev f_ref_EditFault : Nat := 24
abbrev f_spans_May : Nat := 25
abbrev f_ref_SpansMay : Nat := 26
abbrev f_lines_Starts : Nat := 27
abbrev f_ref_LinesStarts : Nat := 28
abbrev f_law_sameInts : Nat := 29
abbrev f_marks_Near : Nat := 30
abbrev f_ref_MarksNear : Nat := 31
abbrev f_pos_Join : Nat := 32
abbrev f_ref_PosJoin : Nat := 33
abbrev f_edit_Place : Nat := 34
abbrev f_ref_EditPlace : Nat := 35
abbrev f_find_Border : Nat := 36
abbrev f_ref_FindBorder : Nat := 37
abbrev f_lines_Of : Nat := 38
abbrev f_ref_cutLines : Nat := 39
abbrev f_edit_Moved : Nat := 40
abbrev f_ref_editPlace : Nat := 41
abbrev f_find_border : Nat := 42

/-- fustian/lines.Of: slots [0 text, 1 text, 3 out, 4 i] -/
def lines_Of_c : SCode :=
  (.seq (.ops [⟨(some 2), .mov (.c .nils), none, false⟩] none [0])
  (.seq (.ops [⟨(some 5), .bslice false 1 1 [(.int .i64 0)] [(0, 1, (.c (.int .i64 0)))], none, false⟩,
    ⟨(some 3), .mov (.t 5), none, false⟩] none [0, 3])
  (.seq (.seq (.ops [⟨(some 6), .mov (.t 0), none, false⟩,
    ⟨(some 7), .len true (.t 6), none, false⟩,
    ⟨(some 8), .mov (.c (.int .i64 0)), none, false⟩] none [0, 3, 7, 8])
  (.block 0 (.loop [0, 7] [3, 8] 1
    (.seq (.ops [⟨(some 9), .bin .none .lss (.t 8) (.t 7), none, false⟩] none [0, 3, 7, 8, 9])
    (.seq (.cond (.t 9)
      .skip
      (.exit 0))
    (.join [0, 7, 8] [3] 1 (.block 1 (.seq (.ops [⟨(some 10), .mov (.t 8), none, false⟩,
        ⟨(some 4), .mov (.t 10), none, false⟩] none [0, 3, 4, 7, 8])
      (.seq (.ops [⟨(some 11), .mov (.t 0), none, false⟩,
        ⟨(some 12), .mov (.t 4), none, false⟩,
        ⟨(some 13), .index 1 none false (.t 11) (.t 12), none, false⟩,
        ⟨(some 14), .bin .none .eql (.t 13) (.c (.int .u8 10)), none, false⟩] none [0, 3, 4, 7, 8, 14])
      (.cond (.t 14)
        (.ops [⟨(some 15), .mov (.t 3), none, false⟩,
          ⟨(some 16), .mov (.t 4), none, false⟩,
          ⟨(some 17), .bin .none .add (.t 16) (.c (.int .i64 1)), none, false⟩,
          ⟨(some 18), .bslice true 1 1 [(.int .i64 0)] [(0, 1, (.t 17))], none, false⟩,
          ⟨(some 19), .append 1 8 (.t 15) (.t 18), none, false⟩,
          ⟨(some 3), .mov (.t 19), none, false⟩] none [0, 3, 7, 8])
        .skip))))
    (.ops [⟨(some 20), .bin .none .add (.t 8) (.c (.int .i64 1)), none, false⟩,
      ⟨(some 8), .mov (.t 20), none, false⟩] none [0, 3, 7, 8])))))))
  (.seq (.ops [⟨(some 21), .mov (.t 3), none, false⟩,
    ⟨(some 2), .mov (.t 21), none, false⟩] none [2])
  .ret))))
def lines_Of_r : List RRes := [.tmp 2]
def lines_Of_hi : Hi := ⟨[(5, (.int .i64)), (18, (.int .i64)), (19, (.int .i64))], [(0, "text"), (1, "text"), (3, "out"), (4, "i")]⟩
def lines_Of_an : An := (.seq .d (.seq .d (.seq (.seq .d (.loop [3] [] [] .d)) .d)))
def lines_Of_fi : Fi := ⟨22, lines_Of_c, lines_Of_r, lines_Of_an, lines_Of_hi⟩
theorem lines_Of_ok : FiOk Try.prog f_lines_Of lines_Of_fi :=
  ⟨by kernel_rfl, fun h hlen => fun_sound (fn := Try.f38) (draw_sound _ _) Try.func38 rfl (by kernel_rfl : comp Try.prog 22 _ lines_Of_c = some lines_Of_c) (by kernel_rfl : cRes Try.prog Try.f38.results.toList = some lines_Of_r) hlen h⟩

/-- fustian/lines.Starts: slots [0 text, 1 text] -/
def lines_Starts_c : SCode :=
  (.seq (.ops [⟨(some 2), .mov (.c .nils), none, false⟩,
    ⟨(some 3), .mov (.c (.int .i64 0)), none, false⟩] none [0])
  (.seq (.seq (.ops [⟨(some 4), .mov (.t 0), none, false⟩,
    ⟨(some 5), .len true (.t 4), none, false⟩,
    ⟨(some 6), .bin .none .gtr (.t 5) (.c (.int .i64 600)), none, false⟩] none [0, 6])
  (.cond (.t 6)
    (.seq (.ops [⟨(some 2), .mov (.c .nils), none, false⟩,
      ⟨(some 3), .mov (.c (.int .i64 1)), none, false⟩] none [2, 3])
    .ret)
    .skip))
  (.seq (.ops [⟨(some 7), .mov (.t 0), none, false⟩,
    ⟨(some 8), .call f_lines_Of [(.t 7)], none, false⟩,
    ⟨(some 2), .mov (.t 8), none, false⟩,
    ⟨(some 3), .mov (.c (.int .i64 0)), none, false⟩] none [2, 3])
  .ret)))
def lines_Starts_r : List RRes := [.tmp 2, .tmp 3]
def lines_Starts_hi : Hi := ⟨[], [(0, "text"), (1, "text")]⟩
def lines_Starts_an : An := .d
def lines_Starts_fi : Fi := ⟨9, lines_Starts_c, lines_Starts_r, lines_Starts_an, lines_Starts_hi⟩
theorem lines_Starts_ok : FiOk Try.prog f_lines_Starts lines_Starts_fi :=
  ⟨by kernel_rfl, fun h hlen => fun_sound (fn := Try.f27) (draw_sound _ _) Try.func27 rfl (by kernel_rfl : comp Try.prog 9 _ lines_Starts_c = some lines_Starts_c) (by kernel_rfl : cRes Try.prog Try.f27.results.toList = some lines_Starts_r) hlen h⟩

/-- fustian/fustianref.cutLines: slots [0 text, 1 text, 3 out, 4 i] -/
def ref_cutLines_c : SCode :=
  (.seq (.ops [⟨(some 2), .mov (.c .nils), none, false⟩] none [0])
  (.seq (.ops [⟨(some 5), .bslice false 1 1 [(.str [])] [(0, 1, (.c (.str [])))], none, false⟩,
    ⟨(some 3), .mov (.t 5), none, false⟩] none [0, 3])
  (.seq (.seq (.ops [⟨(some 4), .mov (.c (.int .i64 0)), none, false⟩] none [0, 3, 4])
  (.block 0 (.loop [0] [3, 4] 1
    (.seq (.seq (.ops [⟨(some 6), .mov (.t 4), none, false⟩,
      ⟨(some 7), .mov (.t 0), none, false⟩,
      ⟨(some 8), .len true (.t 7), none, false⟩,
      ⟨(some 9), .bin .none .lss (.t 6) (.t 8), none, false⟩] none [0, 3, 4, 9])
    (.cond (.t 9)
      .skip
      (.exit 0)))
    (.join [0, 4] [3] 1 (.block 1 (.seq (.ops [⟨(some 12), .mov (.t 0), none, false⟩,
        ⟨(some 13), .mov (.t 4), none, false⟩,
        ⟨(some 14), .index 1 none false (.t 12) (.t 13), none, false⟩,
        ⟨(some 15), .bin .none .eql (.t 14) (.c (.int .u8 10)), none, false⟩] none [0, 3, 4, 15])
      (.cond (.t 15)
        (.ops [⟨(some 16), .mov (.t 3), none, false⟩,
          ⟨(some 17), .bslice true 1 1 [(.str [])] [(0, 1, (.c (.str [])))], none, false⟩,
          ⟨(some 18), .append 1 16 (.t 16) (.t 17), none, false⟩,
          ⟨(some 3), .mov (.t 18), none, false⟩] none [0, 3, 4])
        (.ops [⟨(some 19), .mov (.t 3), none, false⟩,
          ⟨(some 20), .mov (.t 3), none, false⟩,
          ⟨(some 21), .len false (.t 20), none, false⟩,
          ⟨(some 22), .bin .none .sub (.t 21) (.c (.int .i64 1)), none, false⟩,
          ⟨(some 23), .iaddr 1 none (.t 19) (.t 22), none, false⟩,
          ⟨(some 24), .load 1 false (.t 23), none, false⟩,
          ⟨(some 25), .mov (.t 0), none, false⟩,
          ⟨(some 26), .mov (.t 4), none, false⟩,
          ⟨(some 27), .mov (.t 4), none, false⟩,
          ⟨(some 28), .bin .none .add (.t 27) (.c (.int .i64 1)), none, false⟩,
          ⟨(some 29), .slice 0 (.t 25) (some (.t 26)) (some (.t 28)), none, false⟩,
          ⟨(some 30), .bin .none .add (.t 24) (.t 29), none, false⟩,
          ⟨(some 31), .iaddr 1 none (.t 19) (.t 22), none, false⟩,
          ⟨none, .store 1 (.t 31) (.t 30), none, false⟩] (some 11) [0, 3, 4]))))
    (.ops [⟨(some 10), .mov (.t 4), none, false⟩,
      ⟨(some 11), .bin .none .add (.t 10) (.c (.int .i64 1)), none, false⟩,
      ⟨(some 4), .mov (.t 11), none, false⟩] none [0, 3, 4]))))))
  (.seq (.ops [⟨(some 32), .mov (.t 3), none, false⟩,
    ⟨(some 2), .mov (.t 32), none, false⟩] none [2])
  .ret))))
def ref_cutLines_r : List RRes := [.tmp 2]
def ref_cutLines_hi : Hi := ⟨[(5, .str), (17, .str), (18, .str)], [(0, "text"), (1, "text"), (3, "out"), (4, "i")]⟩
def ref_cutLines_an : An := (.seq .d (.seq .d (.seq (.seq .d (.loop [3] [] [] .d)) .d)))
def ref_cutLines_fi : Fi := ⟨33, ref_cutLines_c, ref_cutLines_r, ref_cutLines_an, ref_cutLines_hi⟩
theorem ref_cutLines_ok : FiOk Try.prog f_ref_cutLines ref_cutLines_fi :=
  ⟨by kernel_rfl, fun h hlen => fun_sound (fn := Try.f39) (draw_sound _ _) Try.func39 rfl (by kernel_rfl : comp Try.prog 33 _ ref_cutLines_c = some ref_cutLines_c) (by kernel_rfl : cRes Try.prog Try.f39.results.toList = some ref_cutLines_r) hlen h⟩

/-- fustian/fustianref.LinesStarts: slots [0 text, 1 text, 4 out, 5 at, 6 _, 7 s] -/
def ref_LinesStarts_c : SCode :=
  (.seq (.ops [⟨(some 2), .mov (.c .nils), none, false⟩,
    ⟨(some 3), .mov (.c (.int .i64 0)), none, false⟩] none [0])
  (.seq (.seq (.ops [⟨(some 8), .mov (.t 0), none, false⟩,
    ⟨(some 9), .len true (.t 8), none, false⟩,
    ⟨(some 10), .bin .none .gtr (.t 9) (.c (.int .i64 600)), none, false⟩] none [0, 10])
  (.cond (.t 10)
    (.seq (.ops [⟨(some 2), .mov (.c .nils), none, false⟩,
      ⟨(some 3), .mov (.c (.int .i64 1)), none, false⟩] none [2, 3])
    .ret)
    .skip))
  (.seq (.ops [⟨(some 4), .newnil 1, none, false⟩] none [0, 4])
  (.seq (.ops [⟨(some 5), .mov (.c (.int .i64 0)), none, false⟩] none [0, 4, 5])
  (.seq (.seq (.ops [⟨(some 11), .mov (.t 0), none, false⟩,
    ⟨(some 12), .call f_ref_cutLines [(.t 11)], none, false⟩,
    ⟨(some 13), .len false (.t 12), none, false⟩,
    ⟨(some 14), .mov (.c (.int .i64 0)), none, false⟩] none [4, 5, 12, 13, 14])
  (.block 0 (.loop [12, 13] [4, 5, 14] 1
    (.seq (.ops [⟨(some 15), .bin .none .lss (.t 14) (.t 13), none, false⟩] none [4, 5, 12, 13, 14, 15])
    (.seq (.cond (.t 15)
      .skip
      (.exit 0))
    (.seq (.block 1 (.seq (.ops [⟨(some 16), .iaddr 1 none (.t 12) (.t 14), none, false⟩,
      ⟨(some 17), .load 1 false (.t 16), none, false⟩,
      ⟨(some 7), .mov (.t 17), none, false⟩] none [4, 5, 7, 12, 13, 14])
    (.seq (.ops [⟨(some 18), .mov (.t 4), none, false⟩,
      ⟨(some 19), .mov (.t 5), none, false⟩,
      ⟨(some 20), .bslice true 1 1 [(.int .i64 0)] [(0, 1, (.t 19))], none, false⟩,
      ⟨(some 21), .append 1 8 (.t 18) (.t 20), none, false⟩,
      ⟨(some 4), .mov (.t 21), none, false⟩] none [4, 5, 7, 12, 13, 14])
    (.ops [⟨(some 22), .mov (.t 5), none, false⟩,
      ⟨(some 23), .mov (.t 7), none, false⟩,
      ⟨(some 24), .len true (.t 23), none, false⟩,
      ⟨(some 25), .bin .none .add (.t 24) (.c (.int .i64 1)), none, false⟩,
      ⟨(some 26), .bin .none .add (.t 22) (.t 25), none, false⟩,
      ⟨(some 5), .mov (.t 26), none, false⟩] none [4, 5, 12, 13, 14]))))
    (.ops [⟨(some 27), .bin .none .add (.t 14) (.c (.int .i64 1)), none, false⟩,
      ⟨(some 14), .mov (.t 27), none, false⟩] none [4, 5, 12, 13, 14])))))))
  (.seq (.ops [⟨(some 28), .mov (.t 4), none, false⟩,
    ⟨(some 2), .mov (.t 28), none, false⟩,
    ⟨(some 3), .mov (.c (.int .i64 0)), none, false⟩] none [2, 3])
  .ret))))))
def ref_LinesStarts_r : List RRes := [.tmp 2, .tmp 3]
def ref_LinesStarts_hi : Hi := ⟨[(4, (.int .i64)), (20, (.int .i64)), (21, (.int .i64))], [(0, "text"), (1, "text"), (4, "out"), (5, "at"), (7, "s")]⟩
def ref_LinesStarts_an : An := (.seq .d (.seq .d (.seq .d (.seq .d (.seq (.seq .d (.loop [4] [] [] .d)) .d)))))
def ref_LinesStarts_fi : Fi := ⟨29, ref_LinesStarts_c, ref_LinesStarts_r, ref_LinesStarts_an, ref_LinesStarts_hi⟩
theorem ref_LinesStarts_ok : FiOk Try.prog f_ref_LinesStarts ref_LinesStarts_fi :=
  ⟨by kernel_rfl, fun h hlen => fun_sound (fn := Try.f28) (draw_sound _ _) Try.func28 rfl (by kernel_rfl : comp Try.prog 29 _ ref_LinesStarts_c = some ref_LinesStarts_c) (by kernel_rfl : cRes Try.prog Try.f28.results.toList = some ref_LinesStarts_r) hlen h⟩

/-- fustian/fustianlaw.sameInts: slots [0 a, 1 b, 2 a, 3 b, 5 i] -/
def law_sameInts_c : SCode :=
  (.seq (.ops [⟨(some 4), .mov (.c (.bool false)), none, false⟩] none [0, 1])
  (.seq (.seq (.ops [⟨(some 6), .mov (.t 0), none, false⟩,
    ⟨(some 7), .len false (.t 6), none, false⟩,
    ⟨(some 8), .mov (.t 1), none, false⟩,
    ⟨(some 9), .len false (.t 8), none, false⟩,
    ⟨(some 10), .bin .none .neq (.t 7) (.t 9), none, false⟩] none [0, 1, 10])
  (.cond (.t 10)
    (.seq (.ops [⟨(some 4), .mov (.c (.bool false)), none, false⟩] none [4])
    .ret)
    .skip))
  (.seq (.seq (.ops [⟨(some 5), .mov (.c (.int .i64 0)), none, false⟩] none [0, 1, 5])
  (.block 0 (.loop [0, 1] [5] 0
    (.seq (.seq (.ops [⟨(some 11), .mov (.t 5), none, false⟩,
      ⟨(some 12), .mov (.t 0), none, false⟩,
      ⟨(some 13), .len false (.t 12), none, false⟩,
      ⟨(some 14), .bin .none .lss (.t 11) (.t 13), none, false⟩] none [0, 1, 5, 14])
    (.cond (.t 14)
      .skip
      (.exit 0)))
    (.seq (.block 1 (.seq (.ops [⟨(some 17), .mov (.t 0), none, false⟩,
      ⟨(some 18), .mov (.t 5), none, false⟩,
      ⟨(some 19), .iaddr 1 none (.t 17) (.t 18), none, false⟩,
      ⟨(some 20), .load 1 false (.t 19), none, false⟩,
      ⟨(some 21), .mov (.t 1), none, false⟩,
      ⟨(some 22), .mov (.t 5), none, false⟩,
      ⟨(some 23), .iaddr 1 none (.t 21) (.t 22), none, false⟩,
      ⟨(some 24), .load 1 false (.t 23), none, false⟩,
      ⟨(some 25), .bin .none .neq (.t 20) (.t 24), none, false⟩] (some 8) [0, 1, 5, 25])
    (.cond (.t 25)
      (.seq (.ops [⟨(some 4), .mov (.c (.bool false)), none, false⟩] none [4])
      .ret)
      .skip)))
    (.ops [⟨(some 15), .mov (.t 5), none, false⟩,
      ⟨(some 16), .bin .none .add (.t 15) (.c (.int .i64 1)), none, false⟩,
      ⟨(some 5), .mov (.t 16), none, false⟩] none [0, 1, 5]))))))
  (.seq (.ops [⟨(some 4), .mov (.c (.bool true)), none, false⟩] none [4])
  .ret))))
def law_sameInts_r : List RRes := [.tmp 4]
def law_sameInts_hi : Hi := ⟨[], [(0, "a"), (1, "b"), (2, "a"), (3, "b"), (5, "i")]⟩
def law_sameInts_an : An := (.seq .d (.seq .d (.seq (.seq .d (.loop [] [] [] .d)) .d)))
def law_sameInts_fi : Fi := ⟨26, law_sameInts_c, law_sameInts_r, law_sameInts_an, law_sameInts_hi⟩
theorem law_sameInts_ok : FiOk Try.prog f_law_sameInts law_sameInts_fi :=
  ⟨by kernel_rfl, fun h hlen => fun_sound (fn := Try.f29) (draw_sound _ _) Try.func29 rfl (by kernel_rfl : comp Try.prog 26 _ law_sameInts_c = some law_sameInts_c) (by kernel_rfl : cRes Try.prog Try.f29.results.toList = some law_sameInts_r) hlen h⟩

/-- fustian/fustianlaw.LinesStarts: slots [0 text, 1 text, 3 x, 4 e, 5 y, 6 f] -/
def law_LinesStarts_c : SCode :=
  (.seq (.ops [⟨(some 2), .mov (.c (.bool false)), none, false⟩] none [0])
  (.seq (.ops [⟨(some 8), .mov (.t 0), none, false⟩,
    ⟨(some 9), .call f_lines_Starts [(.t 8)], none, false⟩,
    ⟨(some 7), .mov (.t 9), none, false⟩,
    ⟨(some 10), .extract (.t 7) 0, none, false⟩,
    ⟨(some 11), .extract (.t 7) 1, none, false⟩,
    ⟨(some 3), .mov (.t 10), none, false⟩,
    ⟨(some 4), .mov (.t 11), none, false⟩] none [0, 3, 4])
  (.seq (.ops [⟨(some 13), .mov (.t 0), none, false⟩,
    ⟨(some 14), .call f_ref_LinesStarts [(.t 13)], none, false⟩,
    ⟨(some 12), .mov (.t 14), none, false⟩,
    ⟨(some 15), .extract (.t 12) 0, none, false⟩,
    ⟨(some 16), .extract (.t 12) 1, none, false⟩,
    ⟨(some 5), .mov (.t 15), none, false⟩,
    ⟨(some 6), .mov (.t 16), none, false⟩] none [3, 4, 5, 6])
  (.seq (.ops [⟨(some 17), .mov (.t 3), none, false⟩,
    ⟨(some 18), .mov (.t 5), none, false⟩,
    ⟨(some 19), .call f_law_sameInts [(.t 17), (.t 18)], none, false⟩,
    ⟨(some 20), .mov (.t 19), none, true⟩,
    ⟨(some 21), .mov (.t 4), (some (20, true)), false⟩,
    ⟨(some 22), .mov (.t 6), (some (20, true)), false⟩,
    ⟨(some 23), .bin .none .eql (.t 21) (.t 22), (some (20, true)), false⟩,
    ⟨(some 24), .pick (.t 20) (.t 23) (.c (.bool false)), none, false⟩,
    ⟨(some 2), .mov (.t 24), none, false⟩] none [2])
  .ret))))
def law_LinesStarts_r : List RRes := [.tmp 2]
def law_LinesStarts_hi : Hi := ⟨[], [(0, "text"), (1, "text"), (3, "x"), (4, "e"), (5, "y"), (6, "f")]⟩
def law_LinesStarts_an : An := .d
def law_LinesStarts_fi : Fi := ⟨25, law_LinesStarts_c, law_LinesStarts_r, law_LinesStarts_an, law_LinesStarts_hi⟩
theorem law_LinesStarts_ok : FiOk Try.prog f_law_LinesStarts law_LinesStarts_fi :=
  ⟨by kernel_rfl, fun h hlen => fun_sound (fn := Try.f10) (draw_sound _ _) Try.func10 rfl (by kernel_rfl : comp Try.prog 25 _ law_LinesStarts_c = some law_LinesStarts_c) (by kernel_rfl : cRes Try.prog Try.f10.results.toList = some law_LinesStarts_r) hlen h⟩

end Go.Proofs.Ytgnhlecfladigaa
