/- The functions' simplified code, printed by a program of the claim's author; each is checked against the program's own code. Conditions: none. -/
import Derived.Test.YtcgggoaefceokaaProg
import Derived.Test.YtcgggoaefceokaaVyM
set_option linter.unusedVariables false
set_option maxRecDepth 100000
namespace Go.Proofs.Ytcgggoaefceokaa
open Go.Vc
abbrev f_gosem_cut_init : Nat := 2
abbrev f_law_WrapChecks : Nat := 3
abbrev f_law_PosFinds : Nat := 4
abbrev f_law_DiffPatches : Nat := 5
abbrev f_law_EditApplies : Nat := 6
abbrev f_law_LinesLines : Nat := 7
abbrev f_law_SpansWidens : Nat := 8
abbrev f_law_EditInverts : Nat := 9
abbrev f_law_WrapGreedies : Nat := 10
abbrev f_law_SchedPlays : Nat := 11
abbrev f_law_EditOvers : Nat := 12
abbrev f_law_FindAlls : Nat := 13
abbrev f_law_WrapBests : Nat := 14
abbrev f_wrap_Check : Nat := 15
abbrev f_ref_WrapFault : Nat := 16
abbrev f_pos_Find : Nat := 17
abbrev f_ref_PosFind : Nat := 18
abbrev f_diff_Patch : Nat := 19
abbrev f_ref_DiffPatch : Nat := 20
abbrev f_law_sameTexts : Nat := 21
abbrev f_edit_Apply : Nat := 22
abbrev f_ref_EditApply : Nat := 23
abbrev f_lines_Line : Nat := 24
abbrev f_ref_LinesLine : Nat := 25
abbrev f_spans_Widen : Nat := 26
abbrev f_ref_SpansWiden : Nat := 27
abbrev f_edit_Invert : Nat := 28
abbrev f_ref_EditInvert : Nat := 29
abbrev f_wrap_Greedy : Nat := 30
abbrev f_ref_WrapGreedy : Nat := 31
abbrev f_law_sameInts : Nat := 32
abbrev f_sched_Play : Nat := 33
abbrev f_ref_SchedPlayed : Nat := 34
abbrev f_edit_Over : Nat := 35
abbrev f_ref_EditOver : Nat := 36
abbrev f_find_All : Nat := 37
abbrev f_ref_FindAll : Nat := 38
abbrev f_wrap_Best : Nat := 39
abbrev f_ref_WrapCost : Nat := 40
abbrev f_ref_WrapLeast : Nat := 41
abbrev f_slices_ContainsFunc___int_int_ : Nat := 42
abbrev f_wrap_Check_1 : Nat := 43
abbrev f_strings_IndexByte : Nat := 44
abbrev f_ref_PosOf : Nat := 45
abbrev f_edit_run : Nat := 46
abbrev f_ref_EditApplied : Nat := 47
abbrev f_lines_may : Nat := 48
abbrev f_sort_Search : Nat := 49
abbrev f_lines_Line_1 : Nat := 50
abbrev f_ref_startsMay : Nat := 51
abbrev f_spans_Widened : Nat := 52
abbrev f_slices_Reverse___api_Edit_api_Edit_ : Nat := 53
abbrev f_ref_lineWide : Nat := 54
abbrev f___sched_ring__push : Nat := 55
abbrev f___sched_ring__turn : Nat := 56
abbrev f_edit_Check : Nat := 57
abbrev f_edit_clash : Nat := 58
abbrev f_edit_Moved : Nat := 59
abbrev f_ref_EditFault : Nat := 60
abbrev f_ref_EditOver_1 : Nat := 61
abbrev f_ref_EditOver_2 : Nat := 62
abbrev f_ref_editPlace : Nat := 63
abbrev f_find_fault : Nat := 64
abbrev f_find_In : Nat := 65
abbrev f_ref_findFault : Nat := 66
abbrev f_ref_standsAt : Nat := 67
abbrev f_slices_IndexFunc___int_int_ : Nat := 68
abbrev f_internal_stringslite_IndexByte : Nat := 69
abbrev f_edit_Undo : Nat := 70
abbrev f_edit_Made : Nat := 71
abbrev f_ref_editMade : Nat := 72
abbrev f_strings_LastIndexByte : Nat := 73
abbrev f_edit_nothing : Nat := 74
abbrev f_edit_within : Nat := 75
abbrev f_find_border : Nat := 76
abbrev f_internal_bytealg_LastIndexByteString : Nat := 78

/-- fustian/wrap.Check: slots [0 widths, 1 wide, 2 widths, 3 wide] -/
def wrap_Check_c : SCode :=
  (.seq (.ops [⟨(some 3), .box 0 (.t 1), none, false⟩,
    ⟨(some 4), .mov (.c (.int .i64 0)), none, false⟩] none [0, 3])
  (.seq (.block 0 (.seq (.ops [⟨(some 6), .mov (.t 0), none, false⟩,
    ⟨(some 7), .len false (.t 6), none, false⟩,
    ⟨(some 8), .bin .none .gtr (.t 7) (.c (.int .i64 80)), none, false⟩,
    ⟨(some 5), .mov (.t 8), none, false⟩] none [0, 3, 5])
  (.cond (.t 5)
    (.seq (.ops [⟨(some 4), .mov (.c (.int .i64 1)), none, false⟩] none [4])
    .ret)
    (.seq (.ops [⟨(some 10), .load 1 false (.t 3), none, false⟩,
      ⟨(some 11), .bin .none .lss (.t 10) (.c (.int .i64 1)), none, false⟩,
      ⟨(some 12), .mov (.t 11), none, true⟩,
      ⟨(some 13), .load 1 false (.t 3), (some (12, false)), false⟩,
      ⟨(some 14), .bin .none .gtr (.t 13) (.c (.int .i64 60)), (some (12, false)), false⟩,
      ⟨(some 15), .pick (.t 12) (.c (.bool true)) (.t 14), none, false⟩,
      ⟨(some 9), .mov (.t 15), none, false⟩] none [0, 3, 9])
    (.cond (.t 9)
      (.seq (.ops [⟨(some 4), .mov (.c (.int .i64 2)), none, false⟩] none [4])
      .ret)
      (.seq (.ops [⟨(some 17), .mov (.t 0), none, false⟩,
        ⟨(some 18), .mkfunc (.func f_wrap_Check_1) [] [(.t 3)], none, false⟩,
        ⟨(some 19), .call f_slices_ContainsFunc___int_int_ [(.t 17), (.t 18)], none, false⟩,
        ⟨(some 16), .mov (.t 19), none, false⟩] none [16])
      (.cond (.t 16)
        (.seq (.ops [⟨(some 4), .mov (.c (.int .i64 2)), none, false⟩] none [4])
        .ret)
        .skip)))))))
  (.seq (.ops [⟨(some 4), .mov (.c (.int .i64 0)), none, false⟩] none [4])
  .ret)))
def wrap_Check_r : List RRes := [.tmp 4]
def wrap_Check_hi : Hi := ⟨[], [(0, "widths"), (1, "wide"), (2, "widths"), (3, "wide")]⟩
def wrap_Check_an : An := .d
def wrap_Check_fi : Fi := ⟨20, wrap_Check_c, wrap_Check_r, wrap_Check_an, wrap_Check_hi⟩
theorem wrap_Check_ok : FiOk Try.prog f_wrap_Check wrap_Check_fi :=
  ⟨by kernel_rfl, fun h hlen => fun_sound (fn := Try.f15) (draw_sound _ _) Try.func15 rfl (by kernel_rfl : comp Try.prog 20 _ wrap_Check_c = some wrap_Check_c) (by kernel_rfl : cRes Try.prog Try.f15.results.toList = some wrap_Check_r) hlen h⟩

/-- fustian/fustianref.WrapFault: slots [0 widths, 1 wide, 2 widths, 3 wide, 5 _, 6 n] -/
def ref_WrapFault_c : SCode :=
  (.seq (.ops [⟨(some 4), .mov (.c (.int .i64 0)), none, false⟩] none [0, 1])
  (.seq (.seq (.ops [⟨(some 7), .mov (.t 0), none, false⟩,
    ⟨(some 8), .len false (.t 7), none, false⟩,
    ⟨(some 9), .bin .none .gtr (.t 8) (.c (.int .i64 80)), none, false⟩] none [0, 1, 9])
  (.cond (.t 9)
    (.seq (.ops [⟨(some 4), .mov (.c (.int .i64 1)), none, false⟩] none [4])
    .ret)
    .skip))
  (.seq (.seq (.ops [⟨(some 10), .mov (.t 1), none, false⟩,
    ⟨(some 11), .bin .none .lss (.t 10) (.c (.int .i64 1)), none, false⟩,
    ⟨(some 12), .mov (.t 11), none, true⟩,
    ⟨(some 13), .mov (.t 1), (some (12, false)), false⟩,
    ⟨(some 14), .bin .none .gtr (.t 13) (.c (.int .i64 60)), (some (12, false)), false⟩,
    ⟨(some 15), .pick (.t 12) (.c (.bool true)) (.t 14), none, false⟩] none [0, 1, 15])
  (.cond (.t 15)
    (.seq (.ops [⟨(some 4), .mov (.c (.int .i64 2)), none, false⟩] none [4])
    .ret)
    .skip))
  (.seq (.seq (.ops [⟨(some 16), .mov (.t 0), none, false⟩,
    ⟨(some 17), .len false (.t 16), none, false⟩,
    ⟨(some 18), .mov (.c (.int .i64 0)), none, false⟩] none [1, 16, 17, 18])
  (.block 0 (.loop [1, 16, 17] [18] 0
    (.seq (.ops [⟨(some 19), .bin .none .lss (.t 18) (.t 17), none, false⟩] none [1, 16, 17, 18, 19])
    (.seq (.cond (.t 19)
      .skip
      (.exit 0))
    (.seq (.block 1 (.seq (.ops [⟨(some 20), .iaddr 1 none (.t 16) (.t 18), none, false⟩,
      ⟨(some 21), .load 1 false (.t 20), none, false⟩,
      ⟨(some 6), .mov (.t 21), none, false⟩] none [1, 6, 16, 17, 18])
    (.seq (.ops [⟨(some 22), .mov (.t 6), none, false⟩,
      ⟨(some 23), .bin .none .lss (.t 22) (.c (.int .i64 1)), none, false⟩,
      ⟨(some 24), .mov (.t 23), none, true⟩,
      ⟨(some 25), .mov (.t 6), (some (24, false)), false⟩,
      ⟨(some 26), .mov (.t 1), (some (24, false)), false⟩,
      ⟨(some 27), .bin .none .gtr (.t 25) (.t 26), (some (24, false)), false⟩,
      ⟨(some 28), .pick (.t 24) (.c (.bool true)) (.t 27), none, false⟩] none [1, 16, 17, 18, 28])
    (.cond (.t 28)
      (.seq (.ops [⟨(some 4), .mov (.c (.int .i64 2)), none, false⟩] none [4])
      .ret)
      .skip))))
    (.ops [⟨(some 29), .bin .none .add (.t 18) (.c (.int .i64 1)), none, false⟩,
      ⟨(some 18), .mov (.t 29), none, false⟩] none [1, 16, 17, 18])))))))
  (.seq (.ops [⟨(some 4), .mov (.c (.int .i64 0)), none, false⟩] none [4])
  .ret)))))
def ref_WrapFault_r : List RRes := [.tmp 4]
def ref_WrapFault_hi : Hi := ⟨[], [(0, "widths"), (1, "wide"), (2, "widths"), (3, "wide"), (6, "n")]⟩
def ref_WrapFault_an : An := (.seq .d (.seq .d (.seq .d (.seq (.seq .d (.loop [] [] [] .d)) .d))))
def ref_WrapFault_fi : Fi := ⟨30, ref_WrapFault_c, ref_WrapFault_r, ref_WrapFault_an, ref_WrapFault_hi⟩
theorem ref_WrapFault_ok : FiOk Try.prog f_ref_WrapFault ref_WrapFault_fi :=
  ⟨by kernel_rfl, fun h hlen => fun_sound (fn := Try.f16) (draw_sound _ _) Try.func16 rfl (by kernel_rfl : comp Try.prog 30 _ ref_WrapFault_c = some ref_WrapFault_c) (by kernel_rfl : cRes Try.prog Try.f16.results.toList = some ref_WrapFault_r) hlen h⟩

/-- fustian/fustianref.lineWide: slots [0 words, 1 words, 3 n, 4 _, 5 w] -/
def ref_lineWide_c : SCode :=
  (.seq (.ops [⟨(some 2), .mov (.c (.int .i64 0)), none, false⟩] none [0])
  (.seq (.ops [⟨(some 6), .mov (.t 0), none, false⟩,
    ⟨(some 7), .len false (.t 6), none, false⟩,
    ⟨(some 8), .bin .none .sub (.t 7) (.c (.int .i64 1)), none, false⟩,
    ⟨(some 3), .mov (.t 8), none, false⟩] none [0, 3])
  (.seq (.seq (.ops [⟨(some 9), .mov (.t 0), none, false⟩,
    ⟨(some 10), .len false (.t 9), none, false⟩,
    ⟨(some 11), .mov (.c (.int .i64 0)), none, false⟩] none [3, 9, 10, 11])
  (.block 0 (.loop [9, 10] [3, 11] 0
    (.seq (.ops [⟨(some 12), .bin .none .lss (.t 11) (.t 10), none, false⟩] none [3, 9, 10, 11, 12])
    (.seq (.cond (.t 12)
      .skip
      (.exit 0))
    (.seq (.block 1 (.seq (.ops [⟨(some 13), .iaddr 1 none (.t 9) (.t 11), none, false⟩,
      ⟨(some 14), .load 1 false (.t 13), none, false⟩,
      ⟨(some 5), .mov (.t 14), none, false⟩] none [3, 5, 9, 10, 11])
    (.ops [⟨(some 15), .mov (.t 3), none, false⟩,
      ⟨(some 16), .mov (.t 5), none, false⟩,
      ⟨(some 17), .bin .none .add (.t 15) (.t 16), none, false⟩,
      ⟨(some 3), .mov (.t 17), none, false⟩] none [3, 9, 10, 11])))
    (.ops [⟨(some 18), .bin .none .add (.t 11) (.c (.int .i64 1)), none, false⟩,
      ⟨(some 11), .mov (.t 18), none, false⟩] none [3, 9, 10, 11])))))))
  (.seq (.ops [⟨(some 19), .mov (.t 3), none, false⟩,
    ⟨(some 2), .mov (.t 19), none, false⟩] none [2])
  .ret))))
def ref_lineWide_r : List RRes := [.tmp 2]
def ref_lineWide_hi : Hi := ⟨[], [(0, "words"), (1, "words"), (3, "n"), (5, "w")]⟩
def ref_lineWide_an : An := (.seq .d (.seq .d (.seq (.seq .d (.loop [] [] [] .d)) .d)))
def ref_lineWide_fi : Fi := ⟨20, ref_lineWide_c, ref_lineWide_r, ref_lineWide_an, ref_lineWide_hi⟩
theorem ref_lineWide_ok : FiOk Try.prog f_ref_lineWide ref_lineWide_fi :=
  ⟨by kernel_rfl, fun h hlen => fun_sound (fn := Try.f54) (draw_sound _ _) Try.func54 rfl (by kernel_rfl : comp Try.prog 20 _ ref_lineWide_c = some ref_lineWide_c) (by kernel_rfl : cRes Try.prog Try.f54.results.toList = some ref_lineWide_r) hlen h⟩

/-- fustian/fustianref.WrapCost: slots [0 widths, 1 wide, 2 starts, 3 widths, 4 wide, 5 starts, 8 e, 9 i, 10 at, 11 cost, 12 i, 13 at, 14 n] -/
def ref_WrapCost_c : SCode :=
  (.seq (.ops [⟨(some 6), .mov (.c (.int .i64 0)), none, false⟩,
    ⟨(some 7), .mov (.c (.int .i64 0)), none, false⟩] none [0, 1, 2])
  (.seq (.seq (.ops [⟨(some 15), .mov (.t 0), none, false⟩,
    ⟨(some 16), .mov (.t 1), none, false⟩,
    ⟨(some 17), .call f_ref_WrapFault [(.t 15), (.t 16)], none, false⟩,
    ⟨(some 8), .mov (.t 17), none, false⟩] none [0, 1, 2, 8])
  (.seq (.ops [⟨(some 18), .mov (.t 8), none, false⟩,
    ⟨(some 19), .bin .none .neq (.t 18) (.c (.int .i64 0)), none, false⟩] none [0, 1, 2, 8, 19])
  (.cond (.t 19)
    (.seq (.ops [⟨(some 20), .mov (.t 8), none, false⟩,
      ⟨(some 6), .mov (.c (.int .i64 0)), none, false⟩,
      ⟨(some 7), .mov (.t 20), none, false⟩] none [6, 7])
    .ret)
    .skip)))
  (.seq (.seq (.ops [⟨(some 21), .mov (.t 0), none, false⟩,
    ⟨(some 22), .len false (.t 21), none, false⟩,
    ⟨(some 23), .bin .none .eql (.t 22) (.c (.int .i64 0)), none, false⟩] none [0, 1, 2, 23])
  (.cond (.t 23)
    (.seq (.seq (.ops [⟨(some 24), .mov (.t 2), none, false⟩,
      ⟨(some 25), .len false (.t 24), none, false⟩,
      ⟨(some 26), .bin .none .gtr (.t 25) (.c (.int .i64 0)), none, false⟩] none [26])
    (.cond (.t 26)
      (.seq (.ops [⟨(some 6), .mov (.c (.int .i64 0)), none, false⟩,
        ⟨(some 7), .mov (.c (.int .i64 4)), none, false⟩] none [6, 7])
      .ret)
      .skip))
    (.seq (.ops [⟨(some 6), .mov (.c (.int .i64 0)), none, false⟩,
      ⟨(some 7), .mov (.c (.int .i64 0)), none, false⟩] none [6, 7])
    .ret))
    .skip))
  (.seq (.seq (.ops [⟨(some 27), .mov (.t 2), none, false⟩,
    ⟨(some 28), .len false (.t 27), none, false⟩,
    ⟨(some 29), .bin .none .eql (.t 28) (.c (.int .i64 0)), none, false⟩,
    ⟨(some 30), .mov (.t 29), none, true⟩,
    ⟨(some 31), .mov (.t 2), (some (30, false)), false⟩,
    ⟨(some 32), .iaddr 1 none (.t 31) (.c (.int .i64 0)), (some (30, false)), false⟩,
    ⟨(some 33), .load 1 false (.t 32), (some (30, false)), false⟩,
    ⟨(some 34), .bin .none .neq (.t 33) (.c (.int .i64 0)), (some (30, false)), false⟩,
    ⟨(some 35), .pick (.t 30) (.c (.bool true)) (.t 34), none, false⟩] none [0, 1, 2, 35])
  (.cond (.t 35)
    (.seq (.ops [⟨(some 6), .mov (.c (.int .i64 0)), none, false⟩,
      ⟨(some 7), .mov (.c (.int .i64 4)), none, false⟩] none [6, 7])
    .ret)
    .skip))
  (.seq (.seq (.ops [⟨(some 36), .mov (.t 2), none, false⟩,
    ⟨(some 37), .len false (.t 36), none, false⟩,
    ⟨(some 38), .mov (.c (.int .i64 0)), none, false⟩] none [0, 1, 2, 36, 37, 38])
  (.block 0 (.loop [0, 1, 2, 36, 37] [38] 0
    (.seq (.ops [⟨(some 39), .bin .none .lss (.t 38) (.t 37), none, false⟩] none [0, 1, 2, 36, 37, 38, 39])
    (.seq (.cond (.t 39)
      .skip
      (.exit 0))
    (.seq (.block 1 (.seq (.ops [⟨(some 40), .mov (.t 38), none, false⟩,
      ⟨(some 41), .iaddr 1 none (.t 36) (.t 38), none, false⟩,
      ⟨(some 42), .load 1 false (.t 41), none, false⟩,
      ⟨(some 9), .mov (.t 40), none, false⟩,
      ⟨(some 10), .mov (.t 42), none, false⟩] none [0, 1, 2, 9, 10, 36, 37, 38])
    (.seq (.ops [⟨(some 43), .mov (.t 10), none, false⟩,
      ⟨(some 44), .bin .none .lss (.t 43) (.c (.int .i64 0)), none, false⟩,
      ⟨(some 45), .mov (.t 44), none, true⟩,
      ⟨(some 46), .mov (.t 10), (some (45, false)), false⟩,
      ⟨(some 47), .mov (.t 0), (some (45, false)), false⟩,
      ⟨(some 48), .len false (.t 47), (some (45, false)), false⟩,
      ⟨(some 49), .bin .none .geq (.t 46) (.t 48), (some (45, false)), false⟩,
      ⟨(some 50), .pick (.t 45) (.c (.bool true)) (.t 49), none, false⟩,
      ⟨(some 51), .mov (.t 50), none, true⟩,
      ⟨(some 52), .mov (.t 9), (some (51, false)), false⟩,
      ⟨(some 53), .bin .none .gtr (.t 52) (.c (.int .i64 0)), (some (51, false)), false⟩,
      ⟨(some 54), .mov (.t 53), (some (51, false)), true⟩,
      ⟨(some 55), .mov (.t 10), (some (54, true)), false⟩,
      ⟨(some 56), .mov (.t 2), (some (54, true)), false⟩,
      ⟨(some 57), .mov (.t 9), (some (54, true)), false⟩,
      ⟨(some 58), .bin .none .sub (.t 57) (.c (.int .i64 1)), (some (54, true)), false⟩,
      ⟨(some 59), .iaddr 1 none (.t 56) (.t 58), (some (54, true)), false⟩,
      ⟨(some 60), .load 1 false (.t 59), (some (54, true)), false⟩,
      ⟨(some 61), .bin .none .leq (.t 55) (.t 60), (some (54, true)), false⟩,
      ⟨(some 62), .pick (.t 54) (.t 61) (.c (.bool false)), (some (51, false)), false⟩,
      ⟨(some 63), .pick (.t 51) (.c (.bool true)) (.t 62), none, false⟩] none [0, 1, 2, 36, 37, 38, 63])
    (.cond (.t 63)
      (.seq (.ops [⟨(some 6), .mov (.c (.int .i64 0)), none, false⟩,
        ⟨(some 7), .mov (.c (.int .i64 4)), none, false⟩] none [6, 7])
      .ret)
      .skip))))
    (.ops [⟨(some 64), .bin .none .add (.t 38) (.c (.int .i64 1)), none, false⟩,
      ⟨(some 38), .mov (.t 64), none, false⟩] none [0, 1, 2, 36, 37, 38])))))))
  (.seq (.ops [⟨(some 11), .mov (.c (.int .i64 0)), none, false⟩] none [0, 1, 2, 11])
  (.join [] [11] 0 (.seq (.ops [⟨(some 65), .mov (.t 2), none, false⟩,
      ⟨(some 66), .len false (.t 65), none, false⟩,
      ⟨(some 67), .mov (.c (.int .i64 0)), none, false⟩] none [0, 1, 2, 11, 65, 66, 67])
    (.block 2 (.loop [0, 1, 2, 65, 66] [11, 67] 0
      (.seq (.ops [⟨(some 68), .bin .none .lss (.t 67) (.t 66), none, false⟩] none [0, 1, 2, 11, 65, 66, 67, 68])
      (.seq (.cond (.t 68)
        .skip
        (.exit 2))
      (.seq (.block 3 (.seq (.ops [⟨(some 69), .mov (.t 67), none, false⟩,
        ⟨(some 70), .iaddr 1 none (.t 65) (.t 67), none, false⟩,
        ⟨(some 71), .load 1 false (.t 70), none, false⟩,
        ⟨(some 12), .mov (.t 69), none, false⟩,
        ⟨(some 13), .mov (.t 71), none, false⟩] none [0, 1, 2, 11, 12, 13, 65, 66, 67])
      (.seq (.seq (.ops [⟨(some 72), .mov (.t 12), none, false⟩,
        ⟨(some 73), .bin .none .add (.t 72) (.c (.int .i64 1)), none, false⟩,
        ⟨(some 74), .mov (.t 2), none, false⟩,
        ⟨(some 75), .len false (.t 74), none, false⟩,
        ⟨(some 76), .bin .none .eql (.t 73) (.t 75), none, false⟩] none [0, 1, 2, 11, 12, 13, 65, 66, 67, 76])
      (.cond (.t 76)
        (.seq (.seq (.ops [⟨(some 77), .mov (.t 0), none, false⟩,
          ⟨(some 78), .mov (.t 13), none, false⟩,
          ⟨(some 79), .slice 1 (.t 77) (some (.t 78)) none, none, false⟩,
          ⟨(some 80), .call f_ref_lineWide [(.t 79)], none, false⟩,
          ⟨(some 81), .mov (.t 1), none, false⟩,
          ⟨(some 82), .bin .none .gtr (.t 80) (.t 81), none, false⟩] none [11, 82])
        (.cond (.t 82)
          (.seq (.ops [⟨(some 6), .mov (.c (.int .i64 0)), none, false⟩,
            ⟨(some 7), .mov (.c (.int .i64 4)), none, false⟩] none [6, 7])
          .ret)
          .skip))
        (.exit 2))
        .skip))
      (.seq (.ops [⟨(some 83), .mov (.t 0), none, false⟩,
        ⟨(some 84), .mov (.t 13), none, false⟩,
        ⟨(some 85), .mov (.t 2), none, false⟩,
        ⟨(some 86), .mov (.t 12), none, false⟩,
        ⟨(some 87), .bin .none .add (.t 86) (.c (.int .i64 1)), none, false⟩,
        ⟨(some 88), .iaddr 1 none (.t 85) (.t 87), none, false⟩,
        ⟨(some 89), .load 1 false (.t 88), none, false⟩,
        ⟨(some 90), .slice 1 (.t 83) (some (.t 84)) (some (.t 89)), none, false⟩,
        ⟨(some 91), .call f_ref_lineWide [(.t 90)], none, false⟩,
        ⟨(some 14), .mov (.t 91), none, false⟩] none [0, 1, 2, 11, 14, 65, 66, 67])
      (.seq (.seq (.ops [⟨(some 92), .mov (.t 14), none, false⟩,
        ⟨(some 93), .mov (.t 1), none, false⟩,
        ⟨(some 94), .bin .none .gtr (.t 92) (.t 93), none, false⟩] none [0, 1, 2, 11, 14, 65, 66, 67, 94])
      (.cond (.t 94)
        (.seq (.ops [⟨(some 6), .mov (.c (.int .i64 0)), none, false⟩,
          ⟨(some 7), .mov (.c (.int .i64 4)), none, false⟩] none [6, 7])
        .ret)
        .skip))
      (.ops [⟨(some 95), .mov (.t 11), none, false⟩,
        ⟨(some 96), .mov (.t 1), none, false⟩,
        ⟨(some 97), .mov (.t 14), none, false⟩,
        ⟨(some 98), .bin .none .sub (.t 96) (.t 97), none, false⟩,
        ⟨(some 99), .mov (.t 1), none, false⟩,
        ⟨(some 100), .mov (.t 14), none, false⟩,
        ⟨(some 101), .bin .none .sub (.t 99) (.t 100), none, false⟩,
        ⟨(some 102), .bin .none .mul (.t 98) (.t 101), none, false⟩,
        ⟨(some 103), .bin .none .add (.t 95) (.t 102), none, false⟩,
        ⟨(some 11), .mov (.t 103), none, false⟩] none [0, 1, 2, 11, 65, 66, 67]))))))
      (.ops [⟨(some 104), .bin .none .add (.t 67) (.c (.int .i64 1)), none, false⟩,
        ⟨(some 67), .mov (.t 104), none, false⟩] none [0, 1, 2, 11, 65, 66, 67])))))))
  (.seq (.ops [⟨(some 105), .mov (.t 11), none, false⟩,
    ⟨(some 6), .mov (.t 105), none, false⟩,
    ⟨(some 7), .mov (.c (.int .i64 0)), none, false⟩] none [6, 7])
  .ret))))))))
def ref_WrapCost_r : List RRes := [.tmp 6, .tmp 7]
def ref_WrapCost_hi : Hi := ⟨[], [(0, "widths"), (1, "wide"), (2, "starts"), (3, "widths"), (4, "wide"), (5, "starts"), (8, "e"), (9, "i"), (10, "at"), (11, "cost"), (12, "i"), (13, "at"), (14, "n")]⟩
def ref_WrapCost_an : An := (.seq .d (.seq .d (.seq .d (.seq .d (.seq (.seq .d (.loop [] [] [] .d)) (.seq .d (.seq (.seq .d (.loop [0] [] [] .d)) .d)))))))
def ref_WrapCost_fi : Fi := ⟨106, ref_WrapCost_c, ref_WrapCost_r, ref_WrapCost_an, ref_WrapCost_hi⟩
theorem ref_WrapCost_ok : FiOk Try.prog f_ref_WrapCost ref_WrapCost_fi :=
  ⟨by kernel_rfl, fun h hlen => fun_sound (fn := Try.f40) (draw_sound _ _) Try.func40 rfl (by kernel_rfl : comp Try.prog 106 _ ref_WrapCost_c = some ref_WrapCost_c) (by kernel_rfl : cRes Try.prog Try.f40.results.toList = some ref_WrapCost_r) hlen h⟩

/-- fustian/fustianref.WrapLeast: slots [0 widths, 1 wide, 2 widths, 3 wide, 5 best, 6 to, 7 least, 8 from, 9 c, 10 free] -/
def ref_WrapLeast_c : SCode :=
  (.seq (.ops [⟨(some 4), .mov (.c (.int .i64 0)), none, false⟩] none [0, 1])
  (.seq (.ops [⟨(some 11), .bslice false 1 1 [(.int .i64 0)] [(0, 1, (.c (.int .i64 0)))], none, false⟩,
    ⟨(some 5), .mov (.t 11), none, false⟩] none [0, 1, 5])
  (.seq (.seq (.ops [⟨(some 6), .mov (.c (.int .i64 1)), none, false⟩] none [0, 1, 5, 6])
  (.block 0 (.loop [0, 1] [5, 6] 1
    (.seq (.seq (.ops [⟨(some 12), .mov (.t 6), none, false⟩,
      ⟨(some 13), .mov (.t 0), none, false⟩,
      ⟨(some 14), .len false (.t 13), none, false⟩,
      ⟨(some 15), .bin .none .leq (.t 12) (.t 14), none, false⟩] none [0, 1, 5, 6, 15])
    (.cond (.t 15)
      .skip
      (.exit 0)))
    (.seq (.block 1 (.seq (.ops [⟨(some 7), .mov (.c (.int .i64 (-1))), none, false⟩] none [0, 1, 5, 6, 7])
    (.seq (.seq (.ops [⟨(some 18), .mov (.t 6), none, false⟩,
      ⟨(some 19), .bin .none .sub (.t 18) (.c (.int .i64 1)), none, false⟩,
      ⟨(some 8), .mov (.t 19), none, false⟩] none [0, 1, 5, 6, 7, 8])
    (.block 2 (.loop [0, 1, 5, 6] [7, 8] 1
      (.seq (.seq (.ops [⟨(some 20), .mov (.t 8), none, false⟩,
        ⟨(some 21), .bin .none .geq (.t 20) (.c (.int .i64 0)), none, false⟩,
        ⟨(some 22), .mov (.t 21), none, true⟩,
        ⟨(some 23), .mov (.t 0), (some (22, true)), false⟩,
        ⟨(some 24), .mov (.t 8), (some (22, true)), false⟩,
        ⟨(some 25), .mov (.t 6), (some (22, true)), false⟩,
        ⟨(some 26), .slice 1 (.t 23) (some (.t 24)) (some (.t 25)), (some (22, true)), false⟩,
        ⟨(some 27), .call f_ref_lineWide [(.t 26)], (some (22, true)), false⟩,
        ⟨(some 28), .mov (.t 1), (some (22, true)), false⟩,
        ⟨(some 29), .bin .none .leq (.t 27) (.t 28), (some (22, true)), false⟩,
        ⟨(some 30), .pick (.t 22) (.t 29) (.c (.bool false)), none, false⟩] none [0, 1, 5, 6, 7, 8, 30])
      (.cond (.t 30)
        .skip
        (.exit 2)))
      (.join [0, 1, 5, 6, 8] [7] 1 (.block 3 (.seq (.ops [⟨(some 33), .mov (.t 5), none, false⟩,
          ⟨(some 34), .mov (.t 8), none, false⟩,
          ⟨(some 35), .iaddr 1 none (.t 33) (.t 34), none, false⟩,
          ⟨(some 36), .load 1 false (.t 35), none, false⟩,
          ⟨(some 9), .mov (.t 36), none, false⟩] none [0, 1, 5, 6, 7, 8, 9])
        (.join [0, 1, 5, 6, 7, 8] [9] 1 (.seq (.ops [⟨(some 37), .mov (.t 6), none, false⟩,
            ⟨(some 38), .mov (.t 0), none, false⟩,
            ⟨(some 39), .len false (.t 38), none, false⟩,
            ⟨(some 40), .bin .none .lss (.t 37) (.t 39), none, false⟩] none [0, 1, 5, 6, 7, 8, 9, 40])
          (.cond (.t 40)
            (.seq (.ops [⟨(some 41), .mov (.t 1), none, false⟩,
              ⟨(some 42), .mov (.t 0), none, false⟩,
              ⟨(some 43), .mov (.t 8), none, false⟩,
              ⟨(some 44), .mov (.t 6), none, false⟩,
              ⟨(some 45), .slice 1 (.t 42) (some (.t 43)) (some (.t 44)), none, false⟩,
              ⟨(some 46), .call f_ref_lineWide [(.t 45)], none, false⟩,
              ⟨(some 47), .bin .none .sub (.t 41) (.t 46), none, false⟩,
              ⟨(some 10), .mov (.t 47), none, false⟩] none [0, 1, 5, 6, 7, 8, 9, 10])
            (.ops [⟨(some 48), .mov (.t 9), none, false⟩,
              ⟨(some 49), .mov (.t 10), none, false⟩,
              ⟨(some 50), .mov (.t 10), none, false⟩,
              ⟨(some 51), .bin .none .mul (.t 49) (.t 50), none, false⟩,
              ⟨(some 52), .bin .none .add (.t 48) (.t 51), none, false⟩,
              ⟨(some 9), .mov (.t 52), none, false⟩] none [0, 1, 5, 6, 7, 8, 9]))
            .skip))
        (.seq (.ops [⟨(some 53), .mov (.t 7), none, false⟩,
          ⟨(some 54), .bin .none .lss (.t 53) (.c (.int .i64 0)), none, false⟩,
          ⟨(some 55), .mov (.t 54), none, true⟩,
          ⟨(some 56), .mov (.t 9), (some (55, false)), false⟩,
          ⟨(some 57), .mov (.t 7), (some (55, false)), false⟩,
          ⟨(some 58), .bin .none .lss (.t 56) (.t 57), (some (55, false)), false⟩,
          ⟨(some 59), .pick (.t 55) (.c (.bool true)) (.t 58), none, false⟩] none [0, 1, 5, 6, 7, 8, 9, 59])
        (.cond (.t 59)
          (.ops [⟨(some 60), .mov (.t 9), none, false⟩,
            ⟨(some 7), .mov (.t 60), none, false⟩] none [0, 1, 5, 6, 7, 8])
          .skip)))))
      (.ops [⟨(some 31), .mov (.t 8), none, false⟩,
        ⟨(some 32), .bin .none .sub (.t 31) (.c (.int .i64 1)), none, false⟩,
        ⟨(some 8), .mov (.t 32), none, false⟩] none [0, 1, 5, 6, 7, 8]))))))
    (.ops [⟨(some 61), .mov (.t 5), none, false⟩,
      ⟨(some 62), .mov (.t 7), none, false⟩,
      ⟨(some 63), .bslice true 1 1 [(.int .i64 0)] [(0, 1, (.t 62))], none, false⟩,
      ⟨(some 64), .append 1 8 (.t 61) (.t 63), none, false⟩,
      ⟨(some 5), .mov (.t 64), none, false⟩] none [0, 1, 5, 6]))))
    (.ops [⟨(some 16), .mov (.t 6), none, false⟩,
      ⟨(some 17), .bin .none .add (.t 16) (.c (.int .i64 1)), none, false⟩,
      ⟨(some 6), .mov (.t 17), none, false⟩] none [0, 1, 5, 6]))))))
  (.seq (.ops [⟨(some 65), .mov (.t 5), none, false⟩,
    ⟨(some 66), .mov (.t 0), none, false⟩,
    ⟨(some 67), .len false (.t 66), none, false⟩,
    ⟨(some 68), .iaddr 1 none (.t 65) (.t 67), none, false⟩,
    ⟨(some 69), .load 1 false (.t 68), none, false⟩,
    ⟨(some 4), .mov (.t 69), none, false⟩] none [4])
  .ret))))
def ref_WrapLeast_r : List RRes := [.tmp 4]
def ref_WrapLeast_hi : Hi := ⟨[(11, (.int .i64)), (63, (.int .i64)), (64, (.int .i64))], [(0, "widths"), (1, "wide"), (2, "widths"), (3, "wide"), (5, "best"), (6, "to"), (7, "least"), (8, "from"), (9, "c"), (10, "free")]⟩
def ref_WrapLeast_an : An := (.seq .d (.seq .d (.seq (.seq .d (.loop [0, 5] [] [] (.seq .d (.seq (.seq .d (.seq (.seq .d (.loop [0] [] [] .d)) .d)) .d)))) .d)))
def ref_WrapLeast_fi : Fi := ⟨70, ref_WrapLeast_c, ref_WrapLeast_r, ref_WrapLeast_an, ref_WrapLeast_hi⟩
theorem ref_WrapLeast_ok : FiOk Try.prog f_ref_WrapLeast ref_WrapLeast_fi :=
  ⟨by kernel_rfl, fun h hlen => fun_sound (fn := Try.f41) (draw_sound _ _) Try.func41 rfl (by kernel_rfl : comp Try.prog 70 _ ref_WrapLeast_c = some ref_WrapLeast_c) (by kernel_rfl : cRes Try.prog Try.f41.results.toList = some ref_WrapLeast_r) hlen h⟩

/-- fustian/fustianlaw.WrapBests: slots [0 widths, 1 wide, 2 widths, 3 wide, 5 x, 6 e, 7 f, 8 c, 9 f] -/
def law_WrapBests_c : SCode :=
  (.seq (.ops [⟨(some 4), .mov (.c (.bool false)), none, false⟩] none [0, 1])
  (.seq (.ops [⟨(some 11), .mov (.t 0), none, false⟩,
    ⟨(some 12), .mov (.t 1), none, false⟩,
    ⟨(some 13), .call f_wrap_Best [(.t 11), (.t 12)], none, false⟩,
    ⟨(some 10), .mov (.t 13), none, false⟩,
    ⟨(some 14), .extract (.t 10) 0, none, false⟩,
    ⟨(some 15), .extract (.t 10) 1, none, false⟩,
    ⟨(some 5), .mov (.t 14), none, false⟩,
    ⟨(some 6), .mov (.t 15), none, false⟩] none [0, 1, 5, 6])
  (.seq (.seq (.ops [⟨(some 16), .mov (.t 0), none, false⟩,
    ⟨(some 17), .mov (.t 1), none, false⟩,
    ⟨(some 18), .call f_ref_WrapFault [(.t 16), (.t 17)], none, false⟩,
    ⟨(some 7), .mov (.t 18), none, false⟩] none [0, 1, 5, 6, 7])
  (.seq (.ops [⟨(some 19), .mov (.t 7), none, false⟩,
    ⟨(some 20), .bin .none .neq (.t 19) (.c (.int .i64 0)), none, false⟩] none [0, 1, 5, 6, 7, 20])
  (.cond (.t 20)
    (.seq (.ops [⟨(some 21), .mov (.t 5), none, false⟩,
      ⟨(some 22), .len false (.t 21), none, false⟩,
      ⟨(some 23), .bin .none .eql (.t 22) (.c (.int .i64 0)), none, false⟩,
      ⟨(some 24), .mov (.t 23), none, true⟩,
      ⟨(some 25), .mov (.t 6), (some (24, true)), false⟩,
      ⟨(some 26), .mov (.t 7), (some (24, true)), false⟩,
      ⟨(some 27), .bin .none .eql (.t 25) (.t 26), (some (24, true)), false⟩,
      ⟨(some 28), .pick (.t 24) (.t 27) (.c (.bool false)), none, false⟩,
      ⟨(some 4), .mov (.t 28), none, false⟩] none [4])
    .ret)
    .skip)))
  (.seq (.ops [⟨(some 30), .mov (.t 0), none, false⟩,
    ⟨(some 31), .mov (.t 1), none, false⟩,
    ⟨(some 32), .mov (.t 5), none, false⟩,
    ⟨(some 33), .call f_ref_WrapCost [(.t 30), (.t 31), (.t 32)], none, false⟩,
    ⟨(some 29), .mov (.t 33), none, false⟩,
    ⟨(some 34), .extract (.t 29) 0, none, false⟩,
    ⟨(some 35), .extract (.t 29) 1, none, false⟩,
    ⟨(some 8), .mov (.t 34), none, false⟩,
    ⟨(some 9), .mov (.t 35), none, false⟩] none [0, 1, 6, 8, 9])
  (.seq (.ops [⟨(some 36), .mov (.t 6), none, false⟩,
    ⟨(some 37), .bin .none .eql (.t 36) (.c (.int .i64 0)), none, false⟩,
    ⟨(some 38), .mov (.t 37), none, true⟩,
    ⟨(some 39), .mov (.t 9), (some (38, true)), false⟩,
    ⟨(some 40), .bin .none .eql (.t 39) (.c (.int .i64 0)), (some (38, true)), false⟩,
    ⟨(some 41), .pick (.t 38) (.t 40) (.c (.bool false)), none, false⟩,
    ⟨(some 42), .mov (.t 41), none, true⟩,
    ⟨(some 43), .mov (.t 8), (some (42, true)), false⟩,
    ⟨(some 44), .mov (.t 0), (some (42, true)), false⟩,
    ⟨(some 45), .mov (.t 1), (some (42, true)), false⟩,
    ⟨(some 46), .call f_ref_WrapLeast [(.t 44), (.t 45)], (some (42, true)), false⟩,
    ⟨(some 47), .bin .none .eql (.t 43) (.t 46), (some (42, true)), false⟩,
    ⟨(some 48), .pick (.t 42) (.t 47) (.c (.bool false)), none, false⟩,
    ⟨(some 4), .mov (.t 48), none, false⟩] none [4])
  .ret)))))
def law_WrapBests_r : List RRes := [.tmp 4]
def law_WrapBests_hi : Hi := ⟨[], [(0, "widths"), (1, "wide"), (2, "widths"), (3, "wide"), (5, "x"), (6, "e"), (7, "f"), (8, "c"), (9, "f")]⟩
def law_WrapBests_an : An := .d
def law_WrapBests_fi : Fi := ⟨49, law_WrapBests_c, law_WrapBests_r, law_WrapBests_an, law_WrapBests_hi⟩
theorem law_WrapBests_ok : FiOk Try.prog f_law_WrapBests law_WrapBests_fi :=
  ⟨by kernel_rfl, fun h hlen => fun_sound (fn := Try.f14) (draw_sound _ _) Try.func14 rfl (by kernel_rfl : comp Try.prog 49 _ law_WrapBests_c = some law_WrapBests_c) (by kernel_rfl : cRes Try.prog Try.f14.results.toList = some law_WrapBests_r) hlen h⟩

/-- slices.ContainsFunc[[]int,int]: slots [0 s, 1 f, 2 s, 3 f] -/
def slices_ContainsFunc___int_int__c : SCode :=
  (.seq (.ops [⟨(some 4), .mov (.c (.bool false)), none, false⟩] none [0, 1])
  (.seq (.ops [⟨(some 5), .mov (.t 0), none, false⟩,
    ⟨(some 6), .mov (.t 1), none, false⟩,
    ⟨(some 7), .call f_slices_IndexFunc___int_int_ [(.t 5), (.t 6)], none, false⟩,
    ⟨(some 8), .bin .none .geq (.t 7) (.c (.int .i64 0)), none, false⟩,
    ⟨(some 4), .mov (.t 8), none, false⟩] none [4])
  .ret))
def slices_ContainsFunc___int_int__r : List RRes := [.tmp 4]
def slices_ContainsFunc___int_int__hi : Hi := ⟨[], [(0, "s"), (1, "f"), (2, "s"), (3, "f")]⟩
def slices_ContainsFunc___int_int__an : An := .d
def slices_ContainsFunc___int_int__fi : Fi := ⟨9, slices_ContainsFunc___int_int__c, slices_ContainsFunc___int_int__r, slices_ContainsFunc___int_int__an, slices_ContainsFunc___int_int__hi⟩
theorem slices_ContainsFunc___int_int__ok : FiOk Try.prog f_slices_ContainsFunc___int_int_ slices_ContainsFunc___int_int__fi :=
  ⟨by kernel_rfl, fun h hlen => fun_sound (fn := Try.f42) (draw_sound _ _) Try.func42 rfl (by kernel_rfl : comp Try.prog 9 _ slices_ContainsFunc___int_int__c = some slices_ContainsFunc___int_int__c) (by kernel_rfl : cRes Try.prog Try.f42.results.toList = some slices_ContainsFunc___int_int__r) hlen h⟩

/-- slices.IndexFunc[[]int,int]: slots [0 s, 1 f, 2 s, 3 f, 5 i] -/
def slices_IndexFunc___int_int__c : SCode :=
  (.seq (.ops [⟨(some 4), .mov (.c (.int .i64 0)), none, false⟩] none [0, 1])
  (.seq (.seq (.ops [⟨(some 6), .mov (.t 0), none, false⟩,
    ⟨(some 7), .len false (.t 6), none, false⟩,
    ⟨(some 8), .mov (.c (.int .i64 0)), none, false⟩] none [0, 1, 7, 8])
  (.block 0 (.loop [0, 1, 7] [8] 0
    (.seq (.ops [⟨(some 9), .bin .none .lss (.t 8) (.t 7), none, false⟩] none [0, 1, 7, 8, 9])
    (.seq (.cond (.t 9)
      .skip
      (.exit 0))
    (.seq (.block 1 (.seq (.ops [⟨(some 10), .mov (.t 8), none, false⟩,
      ⟨(some 5), .mov (.t 10), none, false⟩] none [0, 1, 5, 7, 8])
    (.seq (.ops [⟨(some 11), .mov (.t 1), none, false⟩,
      ⟨(some 12), .mov (.t 0), none, false⟩,
      ⟨(some 13), .mov (.t 5), none, false⟩,
      ⟨(some 14), .iaddr 1 none (.t 12) (.t 13), none, false⟩,
      ⟨(some 15), .load 1 false (.t 14), none, false⟩,
      ⟨(some 16), .callv (.t 11) [(.t 15)], none, false⟩] none [0, 1, 5, 7, 8, 16])
    (.cond (.t 16)
      (.seq (.ops [⟨(some 17), .mov (.t 5), none, false⟩,
        ⟨(some 4), .mov (.t 17), none, false⟩] none [4])
      .ret)
      .skip))))
    (.ops [⟨(some 18), .bin .none .add (.t 8) (.c (.int .i64 1)), none, false⟩,
      ⟨(some 8), .mov (.t 18), none, false⟩] none [0, 1, 7, 8])))))))
  (.seq (.ops [⟨(some 4), .mov (.c (.int .i64 (-1))), none, false⟩] none [4])
  .ret)))
def slices_IndexFunc___int_int__r : List RRes := [.tmp 4]
def slices_IndexFunc___int_int__hi : Hi := ⟨[], [(0, "s"), (1, "f"), (2, "s"), (3, "f"), (5, "i")]⟩
def slices_IndexFunc___int_int__an : An := (.seq .d (.seq (.seq .d (.loop [1] [] [] .d)) .d))
def slices_IndexFunc___int_int__fi : Fi := ⟨19, slices_IndexFunc___int_int__c, slices_IndexFunc___int_int__r, slices_IndexFunc___int_int__an, slices_IndexFunc___int_int__hi⟩
theorem slices_IndexFunc___int_int__ok : FiOk Try.prog f_slices_IndexFunc___int_int_ slices_IndexFunc___int_int__fi :=
  ⟨by kernel_rfl, fun h hlen => fun_sound (fn := Try.f68) (draw_sound _ _) Try.func68 rfl (by kernel_rfl : comp Try.prog 19 _ slices_IndexFunc___int_int__c = some slices_IndexFunc___int_int__c) (by kernel_rfl : cRes Try.prog Try.f68.results.toList = some slices_IndexFunc___int_int__r) hlen h⟩

/-- fustian/wrap.Check$1: slots [0 n, 2 n] -/
def wrap_Check_1_c : SCode :=
  (.seq (.ops [⟨(some 3), .mov (.c (.bool false)), none, false⟩] none [0, 1])
  (.seq (.ops [⟨(some 4), .mov (.t 0), none, false⟩,
    ⟨(some 5), .bin .none .lss (.t 4) (.c (.int .i64 1)), none, false⟩,
    ⟨(some 6), .mov (.t 5), none, true⟩,
    ⟨(some 7), .mov (.t 0), (some (6, false)), false⟩,
    ⟨(some 8), .load 1 false (.t 1), (some (6, false)), false⟩,
    ⟨(some 9), .bin .none .gtr (.t 7) (.t 8), (some (6, false)), false⟩,
    ⟨(some 10), .pick (.t 6) (.c (.bool true)) (.t 9), none, false⟩,
    ⟨(some 3), .mov (.t 10), none, false⟩] none [3])
  .ret))
def wrap_Check_1_r : List RRes := [.tmp 3]
def wrap_Check_1_hi : Hi := ⟨[], [(0, "n"), (2, "n")]⟩
def wrap_Check_1_an : An := .d
def wrap_Check_1_fi : Fi := ⟨11, wrap_Check_1_c, wrap_Check_1_r, wrap_Check_1_an, wrap_Check_1_hi⟩
theorem wrap_Check_1_ok : FiOk Try.prog f_wrap_Check_1 wrap_Check_1_fi :=
  ⟨by kernel_rfl, fun h hlen => fun_sound (fn := Try.f43) (draw_sound _ _) Try.func43 rfl (by kernel_rfl : comp Try.prog 11 _ wrap_Check_1_c = some wrap_Check_1_c) (by kernel_rfl : cRes Try.prog Try.f43.results.toList = some wrap_Check_1_r) hlen h⟩

/-- fustian/wrap.Best: slots [0 widths, 1 wide, 2 widths, 3 wide, 6 e, 7 n, 8 cost, 9 next, 10 i, 11 free, 12 k, 13 c, 14 out, 15 i] -/
def wrap_Best_c : SCode :=
  (.seq (.ops [⟨(some 4), .mov (.c .nils), none, false⟩,
    ⟨(some 5), .mov (.c (.int .i64 0)), none, false⟩] none [0, 1])
  (.seq (.seq (.ops [⟨(some 16), .mov (.t 0), none, false⟩,
    ⟨(some 17), .mov (.t 1), none, false⟩,
    ⟨(some 18), .call f_wrap_Check [(.t 16), (.t 17)], none, false⟩,
    ⟨(some 6), .mov (.t 18), none, false⟩] none [0, 1, 6])
  (.seq (.ops [⟨(some 19), .mov (.t 6), none, false⟩,
    ⟨(some 20), .bin .none .neq (.t 19) (.c (.int .i64 0)), none, false⟩] none [0, 1, 6, 20])
  (.cond (.t 20)
    (.seq (.ops [⟨(some 21), .mov (.t 6), none, false⟩,
      ⟨(some 4), .mov (.c .nils), none, false⟩,
      ⟨(some 5), .mov (.t 21), none, false⟩] none [4, 5])
    .ret)
    .skip)))
  (.seq (.ops [⟨(some 22), .mov (.t 0), none, false⟩,
    ⟨(some 23), .len false (.t 22), none, false⟩,
    ⟨(some 7), .mov (.t 23), none, false⟩] none [0, 1, 7])
  (.seq (.ops [⟨(some 24), .mov (.t 7), none, false⟩,
    ⟨(some 25), .bin .none .add (.t 24) (.c (.int .i64 1)), none, false⟩,
    ⟨(some 27), .mov (.t 7), none, false⟩,
    ⟨(some 28), .bin .none .add (.t 27) (.c (.int .i64 1)), none, false⟩,
    ⟨(some 26), .mkres 2 1 8 [(.int .i64 0)] (.t 25) (.t 25), none, false⟩,
    ⟨(some 8), .mov (.t 26), none, false⟩,
    ⟨(some 29), .mkres 1 1 8 [(.int .i64 0)] (.t 28) (.t 28), none, false⟩,
    ⟨(some 9), .mov (.t 29), none, false⟩] (some (4, 2, [0, 1, 3, 4, 2, 6, 5, 7])) [0, 1, 7, 8, 9])
  (.seq (.seq (.ops [⟨(some 30), .mov (.t 7), none, false⟩,
    ⟨(some 31), .bin .none .sub (.t 30) (.c (.int .i64 1)), none, false⟩,
    ⟨(some 10), .mov (.t 31), none, false⟩] none [0, 1, 7, 8, 9, 10])
  (.block 0 (.loop [0, 1, 7, 8, 9] [10] 2
    (.seq (.seq (.ops [⟨(some 32), .mov (.t 10), none, false⟩,
      ⟨(some 33), .bin .none .geq (.t 32) (.c (.int .i64 0)), none, false⟩] none [0, 1, 7, 8, 9, 10, 33])
    (.cond (.t 33)
      .skip
      (.exit 0)))
    (.join [0, 1, 7, 8, 9, 10] [] 2 (.block 1 (.seq (.ops [⟨(some 36), .mov (.t 8), none, false⟩,
        ⟨(some 37), .mov (.t 10), none, false⟩,
        ⟨(some 38), .iaddr 1 none (.t 36) (.t 37), none, false⟩,
        ⟨none, .store 1 (.t 38) (.c (.int .i64 (-1))), none, false⟩] none [0, 1, 7, 8, 9, 10])
      (.seq (.ops [⟨(some 39), .mov (.t 1), none, false⟩,
        ⟨(some 40), .bin .none .add (.t 39) (.c (.int .i64 1)), none, false⟩,
        ⟨(some 11), .mov (.t 40), none, false⟩] none [0, 1, 7, 8, 9, 10, 11])
      (.seq (.ops [⟨(some 41), .mov (.t 10), none, false⟩,
        ⟨(some 12), .mov (.t 41), none, false⟩] none [0, 1, 7, 8, 9, 10, 11, 12])
      (.block 2 (.loop [0, 1, 7, 8, 9, 10] [11, 12] 2
        (.seq (.seq (.ops [⟨(some 42), .mov (.t 12), none, false⟩,
          ⟨(some 43), .mov (.t 7), none, false⟩,
          ⟨(some 44), .bin .none .lss (.t 42) (.t 43), none, false⟩] none [0, 1, 7, 8, 9, 10, 11, 12, 44])
        (.cond (.t 44)
          .skip
          (.exit 2)))
        (.join [0, 1, 7, 8, 9, 10, 12] [11] 2 (.block 3 (.seq (.seq (.ops [⟨(some 47), .mov (.t 11), none, false⟩,
            ⟨(some 48), .mov (.t 0), none, false⟩,
            ⟨(some 49), .mov (.t 12), none, false⟩,
            ⟨(some 50), .iaddr 1 none (.t 48) (.t 49), none, false⟩,
            ⟨(some 51), .load 1 false (.t 50), none, false⟩,
            ⟨(some 52), .bin .none .add (.t 51) (.c (.int .i64 1)), none, false⟩,
            ⟨(some 53), .bin .none .sub (.t 47) (.t 52), none, false⟩,
            ⟨(some 11), .mov (.t 53), none, false⟩] none [0, 1, 7, 8, 9, 10, 11, 12])
          (.seq (.ops [⟨(some 54), .mov (.t 11), none, false⟩,
            ⟨(some 55), .bin .none .lss (.t 54) (.c (.int .i64 0)), none, false⟩] none [0, 1, 7, 8, 9, 10, 11, 12, 55])
          (.cond (.t 55)
            (.exit 2)
            .skip)))
          (.seq (.ops [⟨(some 13), .mov (.c (.int .i64 0)), none, false⟩] none [0, 1, 7, 8, 9, 10, 11, 12, 13])
          (.join [0, 1, 7, 8, 9, 10, 11, 12] [13] 2 (.seq (.ops [⟨(some 56), .mov (.t 12), none, false⟩,
              ⟨(some 57), .bin .none .add (.t 56) (.c (.int .i64 1)), none, false⟩,
              ⟨(some 58), .mov (.t 7), none, false⟩,
              ⟨(some 59), .bin .none .lss (.t 57) (.t 58), none, false⟩] none [0, 1, 7, 8, 9, 10, 11, 12, 13, 59])
            (.cond (.t 59)
              (.ops [⟨(some 60), .mov (.t 11), none, false⟩,
                ⟨(some 61), .mov (.t 11), none, false⟩,
                ⟨(some 62), .bin .none .mul (.t 60) (.t 61), none, false⟩,
                ⟨(some 63), .mov (.t 8), none, false⟩,
                ⟨(some 64), .mov (.t 12), none, false⟩,
                ⟨(some 65), .bin .none .add (.t 64) (.c (.int .i64 1)), none, false⟩,
                ⟨(some 66), .iaddr 1 none (.t 63) (.t 65), none, false⟩,
                ⟨(some 67), .load 1 false (.t 66), none, false⟩,
                ⟨(some 68), .bin .none .add (.t 62) (.t 67), none, false⟩,
                ⟨(some 13), .mov (.t 68), none, false⟩] none [0, 1, 7, 8, 9, 10, 11, 12, 13])
              .skip))
          (.seq (.ops [⟨(some 69), .mov (.t 8), none, false⟩,
            ⟨(some 70), .mov (.t 10), none, false⟩,
            ⟨(some 71), .iaddr 1 none (.t 69) (.t 70), none, false⟩,
            ⟨(some 72), .load 1 false (.t 71), none, false⟩,
            ⟨(some 73), .bin .none .lss (.t 72) (.c (.int .i64 0)), none, false⟩,
            ⟨(some 74), .mov (.t 73), none, true⟩,
            ⟨(some 75), .mov (.t 13), (some (74, false)), false⟩,
            ⟨(some 76), .mov (.t 8), (some (74, false)), false⟩,
            ⟨(some 77), .mov (.t 10), (some (74, false)), false⟩,
            ⟨(some 78), .iaddr 1 none (.t 76) (.t 77), (some (74, false)), false⟩,
            ⟨(some 79), .load 1 false (.t 78), (some (74, false)), false⟩,
            ⟨(some 80), .bin .none .lss (.t 75) (.t 79), (some (74, false)), false⟩,
            ⟨(some 81), .pick (.t 74) (.c (.bool true)) (.t 80), none, false⟩] none [0, 1, 7, 8, 9, 10, 11, 12, 13, 81])
          (.cond (.t 81)
            (.ops [⟨(some 82), .mov (.t 8), none, false⟩,
              ⟨(some 83), .mov (.t 10), none, false⟩,
              ⟨(some 84), .mov (.t 9), none, false⟩,
              ⟨(some 85), .mov (.t 10), none, false⟩,
              ⟨(some 86), .mov (.t 13), none, false⟩,
              ⟨(some 87), .mov (.t 12), none, false⟩,
              ⟨(some 88), .bin .none .add (.t 87) (.c (.int .i64 1)), none, false⟩,
              ⟨(some 89), .iaddr 1 none (.t 82) (.t 83), none, false⟩,
              ⟨none, .store 1 (.t 89) (.t 86), none, false⟩,
              ⟨(some 90), .iaddr 1 none (.t 84) (.t 85), none, false⟩,
              ⟨none, .store 1 (.t 90) (.t 88), none, false⟩] none [0, 1, 7, 8, 9, 10, 11, 12])
            .skip))))))
        (.ops [⟨(some 45), .mov (.t 12), none, false⟩,
          ⟨(some 46), .bin .none .add (.t 45) (.c (.int .i64 1)), none, false⟩,
          ⟨(some 12), .mov (.t 46), none, false⟩] none [0, 1, 7, 8, 9, 10, 11, 12])))))))))
    (.ops [⟨(some 34), .mov (.t 10), none, false⟩,
      ⟨(some 35), .bin .none .sub (.t 34) (.c (.int .i64 1)), none, false⟩,
      ⟨(some 10), .mov (.t 35), none, false⟩] none [0, 1, 7, 8, 9, 10]))))))
  (.seq (.ops [⟨(some 14), .newnil 1, none, false⟩] none [7, 9, 14])
  (.seq (.seq (.ops [⟨(some 15), .mov (.c (.int .i64 0)), none, false⟩] none [7, 9, 14, 15])
  (.block 4 (.loop [7, 9] [14, 15] 3
    (.seq (.seq (.ops [⟨(some 91), .mov (.t 15), none, false⟩,
      ⟨(some 92), .mov (.t 7), none, false⟩,
      ⟨(some 93), .bin .none .lss (.t 91) (.t 92), none, false⟩] none [7, 9, 14, 15, 93])
    (.cond (.t 93)
      .skip
      (.exit 4)))
    (.seq (.block 5 (.ops [⟨(some 98), .mov (.t 14), none, false⟩,
      ⟨(some 99), .mov (.t 15), none, false⟩,
      ⟨(some 100), .bslice true 1 1 [(.int .i64 0)] [(0, 1, (.t 99))], none, false⟩,
      ⟨(some 101), .append 1 8 (.t 98) (.t 100), none, false⟩,
      ⟨(some 14), .mov (.t 101), none, false⟩] none [7, 9, 14, 15]))
    (.ops [⟨(some 94), .mov (.t 9), none, false⟩,
      ⟨(some 95), .mov (.t 15), none, false⟩,
      ⟨(some 96), .iaddr 1 none (.t 94) (.t 95), none, false⟩,
      ⟨(some 97), .load 1 false (.t 96), none, false⟩,
      ⟨(some 15), .mov (.t 97), none, false⟩] none [7, 9, 14, 15]))))))
  (.seq (.ops [⟨(some 102), .mov (.t 14), none, false⟩,
    ⟨(some 4), .mov (.t 102), none, false⟩,
    ⟨(some 5), .mov (.c (.int .i64 0)), none, false⟩] none [4, 5])
  .ret))))))))
def wrap_Best_r : List RRes := [.tmp 4, .tmp 5]
def wrap_Best_hi : Hi := ⟨[(26, (.int .i64)), (29, (.int .i64)), (14, (.int .i64)), (100, (.int .i64)), (101, (.int .i64))], [(0, "widths"), (1, "wide"), (2, "widths"), (3, "wide"), (6, "e"), (7, "n"), (8, "cost"), (9, "next"), (10, "i"), (11, "free"), (12, "k"), (13, "c"), (14, "out"), (15, "i")]⟩
def wrap_Best_an : An := (.seq .d (.seq .d (.seq .d (.seq .d (.seq (.seq .d (.loop [8, 9] [] [] (.seq .d (.seq (.seq .d (.seq .d (.seq .d (.loop [8, 9] [] [] .d)))) .d)))) (.seq .d (.seq (.seq .d (.loop [14] [] [] .d)) .d)))))))
def wrap_Best_fi : Fi := ⟨103, wrap_Best_c, wrap_Best_r, wrap_Best_an, wrap_Best_hi⟩
theorem wrap_Best_ok : FiOk Try.prog f_wrap_Best wrap_Best_fi :=
  ⟨by kernel_rfl, fun h hlen => fun_sound (fn := Try.f39) (draw_sound _ _) Try.func39 rfl (by kernel_rfl : comp Try.prog 103 _ wrap_Best_c = some wrap_Best_c) (by kernel_rfl : cRes Try.prog Try.f39.results.toList = some wrap_Best_r) hlen h⟩

end Go.Proofs.Ytcgggoaefceokaa
