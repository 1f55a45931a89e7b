/- The functions' simplified code, printed by a program of the claim's author; each is checked against the program's own code. Conditions: none. -/
import Derived.Test.YtcgggoaefceokaaProg
import Derived.Test.YtcgggoaefceokaaVyM
set_option linter.unusedVariables false
set_option maxRecDepth 100000
namespace Go.Proofs.Ytcgggoaefceokaa
open Go.Vc
abbrev f_gosem_cut_init : Nat := 2
abbrev f_law_WrapChecks : Nat := 3
abbrev f_law_PosFinds : Nat := 4
abbrev f_law_DiffPatches : Nat := 5
abbrev f_law_EditApplies : Nat := 6
abbrev f_law_LinesLines : Nat := 7
abbrev f_law_SpansWidens : Nat := 8
abbrev f_law_EditInverts : Nat := 9
abbrev f_law_WrapGreedies : Nat := 10
abbrev f_law_SchedPlays : Nat := 11
abbrev f_law_EditOvers : Nat := 12
abbrev f_law_FindAlls : Nat := 13
abbrev f_law_WrapBests : Nat := 14
abbrev f_wrap_Check : Nat := 15
abbrev f_ref_WrapFault : Nat := 16
abbrev f_pos_Find : Nat := 17
abbrev f_ref_PosFind : Nat := 18
abbrev f_diff_Patch : Nat := 19
abbrev f_ref_DiffPatch : Nat := 20
abbrev f_law_sameTexts : Nat := 21
abbrev f_edit_Apply : Nat := 22
abbrev f_ref_EditApply : Nat := 23
abbrev f_lines_Line : Nat := 24
abbrev f_ref_LinesLine : Nat := 25
abbrev f_spans_Widen : Nat := 26
abbrev f_ref_SpansWiden : Nat := 27
abbrev f_edit_Invert : Nat := 28
abbrev f_ref_EditInvert : Nat := 29
abbrev f_wrap_Greedy : Nat := 30
abbrev f_ref_WrapGreedy : Nat := 31
abbrev f_law_sameInts : Nat := 32
abbrev f_sched_Play : Nat := 33
abbrev f_ref_SchedPlayed : Nat := 34
abbrev f_edit_Over : Nat := 35
abbrev f_ref_EditOver : Nat := 36
abbrev f_find_All : Nat := 37
abbrev f_ref_FindAll : Nat := 38
abbrev f_wrap_Best : Nat := 39
abbrev f_ref_WrapCost : Nat := 40
abbrev f_ref_WrapLeast : Nat := 41
abbrev f_slices_ContainsFunc___int_int_ : Nat := 42
abbrev f_wrap_Check_1 : Nat := 43
abbrev f_strings_IndexByte : Nat := 44
abbrev f_ref_PosOf : Nat := 45
abbrev f_edit_run : Nat := 46
abbrev f_ref_EditApplied : Nat := 47
abbrev f_lines_may : Nat := 48
abbrev f_sort_Search : Nat := 49
abbrev f_lines_Line_1 : Nat := 50
abbrev f_ref_startsMay : Nat := 51
abbrev f_spans_Widened : Nat := 52
abbrev f_slices_Reverse___api_Edit_api_Edit_ : Nat := 53
abbrev f_ref_lineWide : Nat := 54
abbrev f___sched_ring__push : Nat := 55
abbrev f___sched_ring__turn : Nat := 56
abbrev f_edit_Check : Nat := 57
abbrev f_edit_clash : Nat := 58
abbrev f_edit_Moved : Nat := 59
abbrev f_ref_EditFault : Nat := 60
abbrev f_ref_EditOver_1 : Nat := 61
abbrev f_ref_EditOver_2 : Nat := 62
abbrev f_ref_editPlace : Nat := 63
abbrev f_find_fault : Nat := 64
abbrev f_find_In : Nat := 65
abbrev f_ref_findFault : Nat := 66
abbrev f_ref_standsAt : Nat := 67
abbrev f_slices_IndexFunc___int_int_ : Nat := 68
abbrev f_internal_stringslite_IndexByte : Nat := 69
abbrev f_edit_Undo : Nat := 70
abbrev f_edit_Made : Nat := 71
abbrev f_ref_editMade : Nat := 72
abbrev f_strings_LastIndexByte : Nat := 73
abbrev f_edit_nothing : Nat := 74
abbrev f_edit_within : Nat := 75
abbrev f_find_border : Nat := 76
abbrev f_internal_bytealg_LastIndexByteString : Nat := 78

/-- fustian/pos.Find: slots [0 text, 1 line, 2 col, 3 text, 4 line, 5 col, 8 at, 9 i, 10 wide] -/
def pos_Find_c : SCode :=
  (.seq (.ops [⟨(some 6), .mov (.c (.int .i64 0)), none, false⟩,
    ⟨(some 7), .mov (.c (.int .i64 0)), none, false⟩] none [0, 1, 2])
  (.seq (.seq (.ops [⟨(some 11), .mov (.t 1), none, false⟩,
    ⟨(some 12), .bin .none .lss (.t 11) (.c (.int .i64 0)), none, false⟩,
    ⟨(some 13), .mov (.t 12), none, true⟩,
    ⟨(some 14), .mov (.t 2), (some (13, false)), false⟩,
    ⟨(some 15), .bin .none .lss (.t 14) (.c (.int .i64 0)), (some (13, false)), false⟩,
    ⟨(some 16), .pick (.t 13) (.c (.bool true)) (.t 15), none, false⟩] none [0, 1, 2, 16])
  (.cond (.t 16)
    (.seq (.ops [⟨(some 6), .mov (.c (.int .i64 0)), none, false⟩,
      ⟨(some 7), .mov (.c (.int .i64 2)), none, false⟩] none [6, 7])
    .ret)
    .skip))
  (.seq (.ops [⟨(some 8), .mov (.c (.int .i64 0)), none, false⟩] none [0, 1, 2, 8])
  (.seq (.block 0 (.loop [0, 2] [1, 8] 0
    (.seq (.seq (.ops [⟨(some 17), .mov (.t 1), none, false⟩,
      ⟨(some 18), .bin .none .gtr (.t 17) (.c (.int .i64 0)), none, false⟩] none [0, 1, 2, 8, 18])
    (.cond (.t 18)
      .skip
      (.exit 0)))
    (.seq (.block 1 (.seq (.ops [⟨(some 21), .mov (.t 0), none, false⟩,
      ⟨(some 22), .mov (.t 8), none, false⟩,
      ⟨(some 23), .slice 0 (.t 21) (some (.t 22)) none, none, false⟩,
      ⟨(some 24), .call f_strings_IndexByte [(.t 23), (.c (.int .u8 10))], none, false⟩,
      ⟨(some 9), .mov (.t 24), none, false⟩] none [0, 1, 2, 8, 9])
    (.seq (.seq (.ops [⟨(some 25), .mov (.t 9), none, false⟩,
      ⟨(some 26), .bin .none .lss (.t 25) (.c (.int .i64 0)), none, false⟩] none [0, 1, 2, 8, 9, 26])
    (.cond (.t 26)
      (.seq (.ops [⟨(some 6), .mov (.c (.int .i64 0)), none, false⟩,
        ⟨(some 7), .mov (.c (.int .i64 2)), none, false⟩] none [6, 7])
      .ret)
      .skip))
    (.ops [⟨(some 27), .mov (.t 8), none, false⟩,
      ⟨(some 28), .mov (.t 9), none, false⟩,
      ⟨(some 29), .bin .none .add (.t 28) (.c (.int .i64 1)), none, false⟩,
      ⟨(some 30), .bin .none .add (.t 27) (.t 29), none, false⟩,
      ⟨(some 8), .mov (.t 30), none, false⟩] none [0, 1, 2, 8]))))
    (.ops [⟨(some 19), .mov (.t 1), none, false⟩,
      ⟨(some 20), .bin .none .sub (.t 19) (.c (.int .i64 1)), none, false⟩,
      ⟨(some 1), .mov (.t 20), none, false⟩] none [0, 1, 2, 8])))))
  (.seq (.ops [⟨(some 31), .mov (.t 0), none, false⟩,
    ⟨(some 32), .mov (.t 8), none, false⟩,
    ⟨(some 33), .slice 0 (.t 31) (some (.t 32)) none, none, false⟩,
    ⟨(some 34), .call f_strings_IndexByte [(.t 33), (.c (.int .u8 10))], none, false⟩,
    ⟨(some 10), .mov (.t 34), none, false⟩] none [0, 2, 8, 10])
  (.join [2, 8] [10] 0 (.seq (.ops [⟨(some 35), .mov (.t 10), none, false⟩,
      ⟨(some 36), .bin .none .lss (.t 35) (.c (.int .i64 0)), none, false⟩] none [0, 2, 8, 10, 36])
    (.cond (.t 36)
      (.ops [⟨(some 37), .mov (.t 0), none, false⟩,
        ⟨(some 38), .len true (.t 37), none, false⟩,
        ⟨(some 39), .mov (.t 8), none, false⟩,
        ⟨(some 40), .bin .none .sub (.t 38) (.t 39), none, false⟩,
        ⟨(some 10), .mov (.t 40), none, false⟩] none [2, 8, 10])
      .skip))
  (.seq (.seq (.ops [⟨(some 41), .mov (.t 2), none, false⟩,
    ⟨(some 42), .mov (.t 10), none, false⟩,
    ⟨(some 43), .bin .none .gtr (.t 41) (.t 42), none, false⟩] none [2, 8, 43])
  (.cond (.t 43)
    (.seq (.ops [⟨(some 6), .mov (.c (.int .i64 0)), none, false⟩,
      ⟨(some 7), .mov (.c (.int .i64 7)), none, false⟩] none [6, 7])
    .ret)
    .skip))
  (.seq (.ops [⟨(some 44), .mov (.t 8), none, false⟩,
    ⟨(some 45), .mov (.t 2), none, false⟩,
    ⟨(some 46), .bin .none .add (.t 44) (.t 45), none, false⟩,
    ⟨(some 6), .mov (.t 46), none, false⟩,
    ⟨(some 7), .mov (.c (.int .i64 0)), none, false⟩] none [6, 7])
  .ret))))))))
def pos_Find_r : List RRes := [.tmp 6, .tmp 7]
def pos_Find_hi : Hi := ⟨[], [(0, "text"), (1, "line"), (2, "col"), (3, "text"), (4, "line"), (5, "col"), (8, "at"), (9, "i"), (10, "wide")]⟩
def pos_Find_an : An := (.seq .d (.seq .d (.seq .d (.seq (.loop [] [] [] .d) .d))))
def pos_Find_fi : Fi := ⟨47, pos_Find_c, pos_Find_r, pos_Find_an, pos_Find_hi⟩
theorem pos_Find_ok : FiOk Try.prog f_pos_Find pos_Find_fi :=
  ⟨by kernel_rfl, fun h hlen => fun_sound (fn := Try.f17) (draw_sound _ _) Try.func17 rfl (by kernel_rfl : comp Try.prog 47 _ pos_Find_c = some pos_Find_c) (by kernel_rfl : cRes Try.prog Try.f17.results.toList = some pos_Find_r) hlen h⟩

/-- fustian/fustianref.PosOf: slots [0 text, 1 text, 3 p, 4 i] -/
def ref_PosOf_c : SCode :=
  (.seq (.ops [⟨(some 2), .alloc 0 [(.int .i64 0), (.int .i64 0), (.int .i64 0)], none, false⟩] none [0, 2])
  (.seq (.ops [⟨(some 3), .alloc 0 [(.int .i64 0), (.int .i64 0), (.int .i64 0)], none, false⟩] none [0, 2, 3])
  (.seq (.seq (.ops [⟨(some 4), .mov (.c (.int .i64 0)), none, false⟩] none [0, 2, 3, 4])
  (.block 0 (.loop [0, 2, 3] [4] 2
    (.seq (.seq (.ops [⟨(some 5), .mov (.t 4), none, false⟩,
      ⟨(some 6), .mov (.t 0), none, false⟩,
      ⟨(some 7), .len true (.t 6), none, false⟩,
      ⟨(some 8), .bin .none .lss (.t 5) (.t 7), none, false⟩] none [0, 2, 3, 4, 8])
    (.cond (.t 8)
      .skip
      (.exit 0)))
    (.join [0, 2, 3, 4] [] 2 (.block 1 (.seq (.ops [⟨(some 11), .faddr 0 (.t 3), none, false⟩,
        ⟨(some 12), .load 1 false (.t 11), none, false⟩,
        ⟨(some 13), .bin .none .add (.t 12) (.c (.int .i64 1)), none, false⟩,
        ⟨(some 14), .faddr 0 (.t 3), none, false⟩,
        ⟨none, .store 1 (.t 14) (.t 13), none, false⟩] none [0, 2, 3, 4])
      (.seq (.ops [⟨(some 15), .faddr 2 (.t 3), none, false⟩,
        ⟨(some 16), .load 1 false (.t 15), none, false⟩,
        ⟨(some 17), .bin .none .add (.t 16) (.c (.int .i64 1)), none, false⟩,
        ⟨(some 18), .faddr 2 (.t 3), none, false⟩,
        ⟨none, .store 1 (.t 18) (.t 17), none, false⟩] none [0, 2, 3, 4])
      (.seq (.ops [⟨(some 19), .mov (.t 0), none, false⟩,
        ⟨(some 20), .mov (.t 4), none, false⟩,
        ⟨(some 21), .index 1 none false (.t 19) (.t 20), none, false⟩,
        ⟨(some 22), .bin .none .eql (.t 21) (.c (.int .u8 10)), none, false⟩] none [0, 2, 3, 4, 22])
      (.cond (.t 22)
        (.seq (.ops [⟨(some 23), .faddr 1 (.t 3), none, false⟩,
          ⟨(some 24), .load 1 false (.t 23), none, false⟩,
          ⟨(some 25), .bin .none .add (.t 24) (.c (.int .i64 1)), none, false⟩,
          ⟨(some 26), .faddr 1 (.t 3), none, false⟩,
          ⟨none, .store 1 (.t 26) (.t 25), none, false⟩] none [0, 2, 3, 4])
        (.ops [⟨(some 27), .faddr 2 (.t 3), none, false⟩,
          ⟨none, .store 1 (.t 27) (.c (.int .i64 0)), none, false⟩] none [0, 2, 3, 4]))
        .skip)))))
    (.ops [⟨(some 9), .mov (.t 4), none, false⟩,
      ⟨(some 10), .bin .none .add (.t 9) (.c (.int .i64 1)), none, false⟩,
      ⟨(some 4), .mov (.t 10), none, false⟩] none [0, 2, 3, 4]))))))
  (.seq (.ops [⟨(some 28), .load 3 true (.t 3), none, false⟩,
    ⟨none, .store 3 (.t 2) (.t 28), none, false⟩] none [2])
  .ret))))
def ref_PosOf_r : List RRes := [.cell 2 3 true]
def ref_PosOf_hi : Hi := ⟨[], [(0, "text"), (1, "text"), (3, "p"), (4, "i")]⟩
def ref_PosOf_an : An := (.seq .d (.seq .d (.seq (.seq .d (.loop [3] [] [] .d)) .d)))
def ref_PosOf_fi : Fi := ⟨29, ref_PosOf_c, ref_PosOf_r, ref_PosOf_an, ref_PosOf_hi⟩
theorem ref_PosOf_ok : FiOk Try.prog f_ref_PosOf ref_PosOf_fi :=
  ⟨by kernel_rfl, fun h hlen => fun_sound (fn := Try.f45) (draw_sound _ _) Try.func45 rfl (by kernel_rfl : comp Try.prog 29 _ ref_PosOf_c = some ref_PosOf_c) (by kernel_rfl : cRes Try.prog Try.f45.results.toList = some ref_PosOf_r) hlen h⟩

/-- fustian/fustianref.PosFind: slots [0 text, 1 line, 2 col, 3 text, 4 line, 5 col, 8 at, 9 p] -/
def ref_PosFind_c : SCode :=
  (.seq (.ops [⟨(some 6), .mov (.c (.int .i64 0)), none, false⟩,
    ⟨(some 7), .mov (.c (.int .i64 0)), none, false⟩] none [0, 1, 2])
  (.seq (.seq (.ops [⟨(some 10), .mov (.t 1), none, false⟩,
    ⟨(some 11), .bin .none .lss (.t 10) (.c (.int .i64 0)), none, false⟩,
    ⟨(some 12), .mov (.t 11), none, true⟩,
    ⟨(some 13), .mov (.t 2), (some (12, false)), false⟩,
    ⟨(some 14), .bin .none .lss (.t 13) (.c (.int .i64 0)), (some (12, false)), false⟩,
    ⟨(some 15), .pick (.t 12) (.c (.bool true)) (.t 14), none, false⟩,
    ⟨(some 16), .mov (.t 15), none, true⟩,
    ⟨(some 17), .mov (.t 1), (some (16, false)), false⟩,
    ⟨(some 18), .mov (.t 0), (some (16, false)), false⟩,
    ⟨(some 19), .call f_ref_PosOf [(.t 18)], (some (16, false)), false⟩,
    ⟨(some 20), .field 1 1 false (.t 19), (some (16, false)), false⟩,
    ⟨(some 21), .bin .none .gtr (.t 17) (.t 20), (some (16, false)), false⟩,
    ⟨(some 22), .pick (.t 16) (.c (.bool true)) (.t 21), none, false⟩] none [0, 1, 2, 22])
  (.cond (.t 22)
    (.seq (.ops [⟨(some 6), .mov (.c (.int .i64 0)), none, false⟩,
      ⟨(some 7), .mov (.c (.int .i64 2)), none, false⟩] none [6, 7])
    .ret)
    .skip))
  (.seq (.seq (.ops [⟨(some 8), .mov (.c (.int .i64 0)), none, false⟩] none [0, 1, 2, 8])
  (.block 0 (.loop [0, 1, 2] [8] 0
    (.seq (.seq (.ops [⟨(some 23), .mov (.t 8), none, false⟩,
      ⟨(some 24), .mov (.t 0), none, false⟩,
      ⟨(some 25), .len true (.t 24), none, false⟩,
      ⟨(some 26), .bin .none .leq (.t 23) (.t 25), none, false⟩] none [0, 1, 2, 8, 26])
    (.cond (.t 26)
      .skip
      (.exit 0)))
    (.seq (.block 1 (.seq (.ops [⟨(some 29), .mov (.t 0), none, false⟩,
      ⟨(some 30), .mov (.t 8), none, false⟩,
      ⟨(some 31), .slice 0 (.t 29) none (some (.t 30)), none, false⟩,
      ⟨(some 32), .call f_ref_PosOf [(.t 31)], none, false⟩,
      ⟨(some 9), .alloc 0 [(.int .i64 0), (.int .i64 0), (.int .i64 0)], none, false⟩,
      ⟨none, .store 3 (.t 9) (.t 32), none, false⟩] none [0, 1, 2, 8, 9])
    (.seq (.ops [⟨(some 33), .faddr 1 (.t 9), none, false⟩,
      ⟨(some 34), .load 1 false (.t 33), none, false⟩,
      ⟨(some 35), .mov (.t 1), none, false⟩,
      ⟨(some 36), .bin .none .eql (.t 34) (.t 35), none, false⟩,
      ⟨(some 37), .mov (.t 36), none, true⟩,
      ⟨(some 38), .faddr 2 (.t 9), (some (37, true)), false⟩,
      ⟨(some 39), .load 1 false (.t 38), (some (37, true)), false⟩,
      ⟨(some 40), .mov (.t 2), (some (37, true)), false⟩,
      ⟨(some 41), .bin .none .eql (.t 39) (.t 40), (some (37, true)), false⟩,
      ⟨(some 42), .pick (.t 37) (.t 41) (.c (.bool false)), none, false⟩] none [0, 1, 2, 8, 42])
    (.cond (.t 42)
      (.seq (.ops [⟨(some 43), .mov (.t 8), none, false⟩,
        ⟨(some 6), .mov (.t 43), none, false⟩,
        ⟨(some 7), .mov (.c (.int .i64 0)), none, false⟩] none [6, 7])
      .ret)
      .skip))))
    (.ops [⟨(some 27), .mov (.t 8), none, false⟩,
      ⟨(some 28), .bin .none .add (.t 27) (.c (.int .i64 1)), none, false⟩,
      ⟨(some 8), .mov (.t 28), none, false⟩] none [0, 1, 2, 8]))))))
  (.seq (.ops [⟨(some 6), .mov (.c (.int .i64 0)), none, false⟩,
    ⟨(some 7), .mov (.c (.int .i64 7)), none, false⟩] none [6, 7])
  .ret))))
def ref_PosFind_r : List RRes := [.tmp 6, .tmp 7]
def ref_PosFind_hi : Hi := ⟨[], [(0, "text"), (1, "line"), (2, "col"), (3, "text"), (4, "line"), (5, "col"), (8, "at"), (9, "p")]⟩
def ref_PosFind_an : An := (.seq .d (.seq .d (.seq (.seq .d (.loop [] [] [] .d)) .d)))
def ref_PosFind_fi : Fi := ⟨44, ref_PosFind_c, ref_PosFind_r, ref_PosFind_an, ref_PosFind_hi⟩
theorem ref_PosFind_ok : FiOk Try.prog f_ref_PosFind ref_PosFind_fi :=
  ⟨by kernel_rfl, fun h hlen => fun_sound (fn := Try.f18) (draw_sound _ _) Try.func18 rfl (by kernel_rfl : comp Try.prog 44 _ ref_PosFind_c = some ref_PosFind_c) (by kernel_rfl : cRes Try.prog Try.f18.results.toList = some ref_PosFind_r) hlen h⟩

/-- fustian/fustianlaw.PosFinds: slots [0 text, 1 line, 2 col, 3 text, 4 line, 5 col, 7 x, 8 e, 9 y, 10 f] -/
def law_PosFinds_c : SCode :=
  (.seq (.ops [⟨(some 6), .mov (.c (.bool false)), none, false⟩] none [0, 1, 2])
  (.seq (.ops [⟨(some 12), .mov (.t 0), none, false⟩,
    ⟨(some 13), .mov (.t 1), none, false⟩,
    ⟨(some 14), .mov (.t 2), none, false⟩,
    ⟨(some 15), .call f_pos_Find [(.t 12), (.t 13), (.t 14)], none, false⟩,
    ⟨(some 11), .mov (.t 15), none, false⟩,
    ⟨(some 16), .extract (.t 11) 0, none, false⟩,
    ⟨(some 17), .extract (.t 11) 1, none, false⟩,
    ⟨(some 7), .mov (.t 16), none, false⟩,
    ⟨(some 8), .mov (.t 17), none, false⟩] none [0, 1, 2, 7, 8])
  (.seq (.ops [⟨(some 19), .mov (.t 0), none, false⟩,
    ⟨(some 20), .mov (.t 1), none, false⟩,
    ⟨(some 21), .mov (.t 2), none, false⟩,
    ⟨(some 22), .call f_ref_PosFind [(.t 19), (.t 20), (.t 21)], none, false⟩,
    ⟨(some 18), .mov (.t 22), none, false⟩,
    ⟨(some 23), .extract (.t 18) 0, none, false⟩,
    ⟨(some 24), .extract (.t 18) 1, none, false⟩,
    ⟨(some 9), .mov (.t 23), none, false⟩,
    ⟨(some 10), .mov (.t 24), none, false⟩] none [7, 8, 9, 10])
  (.seq (.ops [⟨(some 25), .mov (.t 7), none, false⟩,
    ⟨(some 26), .mov (.t 9), none, false⟩,
    ⟨(some 27), .bin .none .eql (.t 25) (.t 26), none, false⟩,
    ⟨(some 28), .mov (.t 27), none, true⟩,
    ⟨(some 29), .mov (.t 8), (some (28, true)), false⟩,
    ⟨(some 30), .mov (.t 10), (some (28, true)), false⟩,
    ⟨(some 31), .bin .none .eql (.t 29) (.t 30), (some (28, true)), false⟩,
    ⟨(some 32), .pick (.t 28) (.t 31) (.c (.bool false)), none, false⟩,
    ⟨(some 6), .mov (.t 32), none, false⟩] none [6])
  .ret))))
def law_PosFinds_r : List RRes := [.tmp 6]
def law_PosFinds_hi : Hi := ⟨[], [(0, "text"), (1, "line"), (2, "col"), (3, "text"), (4, "line"), (5, "col"), (7, "x"), (8, "e"), (9, "y"), (10, "f")]⟩
def law_PosFinds_an : An := .d
def law_PosFinds_fi : Fi := ⟨33, law_PosFinds_c, law_PosFinds_r, law_PosFinds_an, law_PosFinds_hi⟩
theorem law_PosFinds_ok : FiOk Try.prog f_law_PosFinds law_PosFinds_fi :=
  ⟨by kernel_rfl, fun h hlen => fun_sound (fn := Try.f4) (draw_sound _ _) Try.func4 rfl (by kernel_rfl : comp Try.prog 33 _ law_PosFinds_c = some law_PosFinds_c) (by kernel_rfl : cRes Try.prog Try.f4.results.toList = some law_PosFinds_r) hlen h⟩

/-- strings.IndexByte: slots [0 s, 1 c, 2 s, 3 c] -/
def strings_IndexByte_c : SCode :=
  (.seq (.ops [⟨(some 4), .mov (.c (.int .i64 0)), none, false⟩] none [0, 1])
  (.seq (.ops [⟨(some 5), .mov (.t 0), none, false⟩,
    ⟨(some 6), .mov (.t 1), none, false⟩,
    ⟨(some 7), .call f_internal_stringslite_IndexByte [(.t 5), (.t 6)], none, false⟩,
    ⟨(some 4), .mov (.t 7), none, false⟩] none [4])
  .ret))
def strings_IndexByte_r : List RRes := [.tmp 4]
def strings_IndexByte_hi : Hi := ⟨[], [(0, "s"), (1, "c"), (2, "s"), (3, "c")]⟩
def strings_IndexByte_an : An := .d
def strings_IndexByte_fi : Fi := ⟨8, strings_IndexByte_c, strings_IndexByte_r, strings_IndexByte_an, strings_IndexByte_hi⟩
theorem strings_IndexByte_ok : FiOk Try.prog f_strings_IndexByte strings_IndexByte_fi :=
  ⟨by kernel_rfl, fun h hlen => fun_sound (fn := Try.f44) (draw_sound _ _) Try.func44 rfl (by kernel_rfl : comp Try.prog 8 _ strings_IndexByte_c = some strings_IndexByte_c) (by kernel_rfl : cRes Try.prog Try.f44.results.toList = some strings_IndexByte_r) hlen h⟩

/-- internal/stringslite.IndexByte: slots [0 s, 1 c, 2 s, 3 c] -/
def internal_stringslite_IndexByte_c : SCode :=
  (.seq (.ops [⟨(some 4), .mov (.c (.int .i64 0)), none, false⟩] none [0, 1])
  (.seq (.ops [⟨(some 5), .mov (.t 0), none, false⟩,
    ⟨(some 6), .mov (.t 1), none, false⟩,
    ⟨(some 7), .ext .idxb [(.t 5), (.t 6)], none, false⟩,
    ⟨(some 4), .mov (.t 7), none, false⟩] none [4])
  .ret))
def internal_stringslite_IndexByte_r : List RRes := [.tmp 4]
def internal_stringslite_IndexByte_hi : Hi := ⟨[], [(0, "s"), (1, "c"), (2, "s"), (3, "c")]⟩
def internal_stringslite_IndexByte_an : An := .d
def internal_stringslite_IndexByte_fi : Fi := ⟨8, internal_stringslite_IndexByte_c, internal_stringslite_IndexByte_r, internal_stringslite_IndexByte_an, internal_stringslite_IndexByte_hi⟩
theorem internal_stringslite_IndexByte_ok : FiOk Try.prog f_internal_stringslite_IndexByte internal_stringslite_IndexByte_fi :=
  ⟨by kernel_rfl, fun h hlen => fun_sound (fn := Try.f69) (draw_sound _ _) Try.func69 rfl (by kernel_rfl : comp Try.prog 8 _ internal_stringslite_IndexByte_c = some internal_stringslite_IndexByte_c) (by kernel_rfl : cRes Try.prog Try.f69.results.toList = some internal_stringslite_IndexByte_r) hlen h⟩

end Go.Proofs.Ytcgggoaefceokaa
