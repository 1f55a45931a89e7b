/- The functions' simplified code, printed by a program of the claim's author; each is checked against the program's own code. Conditions: none. -/
import Derived.Test.YtcgggoaefceokaaProg
import Derived.Test.YtcgggoaefceokaaVyM
set_option linter.unusedVariables false
set_option maxRecDepth 100000
namespace Go.Proofs.Ytcgggoaefceokaa
open Go.Vc
abbrev f_gosem_cut_init : Nat := 2
abbrev f_law_WrapChecks : Nat := 3
abbrev f_law_PosFinds : Nat := 4
abbrev f_law_DiffPatches : Nat := 5
abbrev f_law_EditApplies : Nat := 6
abbrev f_law_LinesLines : Nat := 7
abbrev f_law_SpansWidens : Nat := 8
abbrev f_law_EditInverts : Nat := 9
abbrev f_law_WrapGreedies : Nat := 10
abbrev f_law_SchedPlays : Nat := 11
abbrev f_law_EditOvers : Nat := 12
abbrev f_law_FindAlls : Nat := 13
abbrev f_law_WrapBests : Nat := 14
abbrev f_wrap_Check : Nat := 15
abbrev f_ref_WrapFault : Nat := 16
abbrev f_pos_Find : Nat := 17
abbrev f_ref_PosFind : Nat := 18
abbrev f_diff_Patch : Nat := 19
abbrev f_ref_DiffPatch : Nat := 20
abbrev f_law_sameTexts : Nat := 21
abbrev f_edit_Apply : Nat := 22
abbrev f_ref_EditApply : Nat := 23
abbrev f_lines_Line : Nat := 24
abbrev f_ref_LinesLine : Nat := 25
abbrev f_spans_Widen : Nat := 26
abbrev f_ref_SpansWiden : Nat := 27
abbrev f_edit_Invert : Nat := 28
abbrev f_ref_EditInvert : Nat := 29
abbrev f_wrap_Greedy : Nat := 30
abbrev f_ref_WrapGreedy : Nat := 31
abbrev f_law_sameInts : Nat := 32
abbrev f_sched_Play : Nat := 33
abbrev f_ref_SchedPlayed : Nat := 34
abbrev f_edit_Over : Nat := 35
abbrev f_ref_EditOver : Nat := 36
abbrev f_find_All : Nat := 37
abbrev f_ref_FindAll : Nat := 38
abbrev f_wrap_Best : Nat := 39
abbrev f_ref_WrapCost : Nat := 40
abbrev f_ref_WrapLeast : Nat := 41
abbrev f_slices_ContainsFunc___int_int_ : Nat := 42
abbrev f_wrap_Check_1 : Nat := 43
abbrev f_strings_IndexByte : Nat := 44
abbrev f_ref_PosOf : Nat := 45
abbrev f_edit_run : Nat := 46
abbrev f_ref_EditApplied : Nat := 47
abbrev f_lines_may : Nat := 48
abbrev f_sort_Search : Nat := 49
abbrev f_lines_Line_1 : Nat := 50
abbrev f_ref_startsMay : Nat := 51
abbrev f_spans_Widened : Nat := 52
abbrev f_slices_Reverse___api_Edit_api_Edit_ : Nat := 53
abbrev f_ref_lineWide : Nat := 54
abbrev f___sched_ring__push : Nat := 55
abbrev f___sched_ring__turn : Nat := 56
abbrev f_edit_Check : Nat := 57
abbrev f_edit_clash : Nat := 58
abbrev f_edit_Moved : Nat := 59
abbrev f_ref_EditFault : Nat := 60
abbrev f_ref_EditOver_1 : Nat := 61
abbrev f_ref_EditOver_2 : Nat := 62
abbrev f_ref_editPlace : Nat := 63
abbrev f_find_fault : Nat := 64
abbrev f_find_In : Nat := 65
abbrev f_ref_findFault : Nat := 66
abbrev f_ref_standsAt : Nat := 67
abbrev f_slices_IndexFunc___int_int_ : Nat := 68
abbrev f_internal_stringslite_IndexByte : Nat := 69
abbrev f_edit_Undo : Nat := 70
abbrev f_edit_Made : Nat := 71
abbrev f_ref_editMade : Nat := 72
abbrev f_strings_LastIndexByte : Nat := 73
abbrev f_edit_nothing : Nat := 74
abbrev f_edit_within : Nat := 75
abbrev f_find_border : Nat := 76
abbrev f_internal_bytealg_LastIndexByteString : Nat := 78

/-- fustian/lines.may: slots [0 l, 1 l, 3 i, 4 n] -/
def lines_may_c : SCode :=
  (.seq (.ops [⟨(some 2), .mov (.c (.bool false)), none, false⟩] none [0])
  (.seq (.seq (.ops [⟨(some 5), .mov (.t 0), none, false⟩,
    ⟨(some 6), .len false (.t 5), none, false⟩,
    ⟨(some 7), .mov (.c (.int .i64 0)), none, false⟩] none [0, 5, 6, 7])
  (.block 0 (.loop [0, 5, 6] [7] 0
    (.seq (.ops [⟨(some 8), .bin .none .lss (.t 7) (.t 6), none, false⟩] none [0, 5, 6, 7, 8])
    (.seq (.cond (.t 8)
      .skip
      (.exit 0))
    (.seq (.block 1 (.seq (.ops [⟨(some 9), .mov (.t 7), none, false⟩,
      ⟨(some 10), .iaddr 1 none (.t 5) (.t 7), none, false⟩,
      ⟨(some 11), .load 1 false (.t 10), none, false⟩,
      ⟨(some 3), .mov (.t 9), none, false⟩,
      ⟨(some 4), .mov (.t 11), none, false⟩] none [0, 3, 4, 5, 6, 7])
    (.seq (.ops [⟨(some 12), .mov (.t 3), none, false⟩,
      ⟨(some 13), .bin .none .gtr (.t 12) (.c (.int .i64 0)), none, false⟩,
      ⟨(some 14), .mov (.t 13), none, true⟩,
      ⟨(some 15), .mov (.t 4), (some (14, true)), false⟩,
      ⟨(some 16), .mov (.t 0), (some (14, true)), false⟩,
      ⟨(some 17), .mov (.t 3), (some (14, true)), false⟩,
      ⟨(some 18), .bin .none .sub (.t 17) (.c (.int .i64 1)), (some (14, true)), false⟩,
      ⟨(some 19), .iaddr 1 none (.t 16) (.t 18), (some (14, true)), false⟩,
      ⟨(some 20), .load 1 false (.t 19), (some (14, true)), false⟩,
      ⟨(some 21), .bin .none .leq (.t 15) (.t 20), (some (14, true)), false⟩,
      ⟨(some 22), .pick (.t 14) (.t 21) (.c (.bool false)), none, false⟩] none [0, 5, 6, 7, 22])
    (.cond (.t 22)
      (.seq (.ops [⟨(some 2), .mov (.c (.bool false)), none, false⟩] none [2])
      .ret)
      .skip))))
    (.ops [⟨(some 23), .bin .none .add (.t 7) (.c (.int .i64 1)), none, false⟩,
      ⟨(some 7), .mov (.t 23), none, false⟩] none [0, 5, 6, 7])))))))
  (.seq (.ops [⟨(some 24), .mov (.t 0), none, false⟩,
    ⟨(some 25), .len false (.t 24), none, false⟩,
    ⟨(some 26), .bin .none .gtr (.t 25) (.c (.int .i64 0)), none, false⟩,
    ⟨(some 27), .mov (.t 26), none, true⟩,
    ⟨(some 28), .mov (.t 0), (some (27, true)), false⟩,
    ⟨(some 29), .iaddr 1 none (.t 28) (.c (.int .i64 0)), (some (27, true)), false⟩,
    ⟨(some 30), .load 1 false (.t 29), (some (27, true)), false⟩,
    ⟨(some 31), .bin .none .eql (.t 30) (.c (.int .i64 0)), (some (27, true)), false⟩,
    ⟨(some 32), .pick (.t 27) (.t 31) (.c (.bool false)), none, false⟩,
    ⟨(some 33), .mov (.t 32), none, true⟩,
    ⟨(some 34), .mov (.t 0), (some (33, true)), false⟩,
    ⟨(some 35), .mov (.t 0), (some (33, true)), false⟩,
    ⟨(some 36), .len false (.t 35), (some (33, true)), false⟩,
    ⟨(some 37), .bin .none .sub (.t 36) (.c (.int .i64 1)), (some (33, true)), false⟩,
    ⟨(some 38), .iaddr 1 none (.t 34) (.t 37), (some (33, true)), false⟩,
    ⟨(some 39), .load 1 false (.t 38), (some (33, true)), false⟩,
    ⟨(some 40), .bin .none .leq (.t 39) (.c (.int .i64 600)), (some (33, true)), false⟩,
    ⟨(some 41), .pick (.t 33) (.t 40) (.c (.bool false)), none, false⟩,
    ⟨(some 2), .mov (.t 41), none, false⟩] none [2])
  .ret)))
def lines_may_r : List RRes := [.tmp 2]
def lines_may_hi : Hi := ⟨[], [(0, "l"), (1, "l"), (3, "i"), (4, "n")]⟩
def lines_may_an : An := (.seq .d (.seq (.seq .d (.loop [] [] [] .d)) .d))
def lines_may_fi : Fi := ⟨42, lines_may_c, lines_may_r, lines_may_an, lines_may_hi⟩
theorem lines_may_ok : FiOk Try.prog f_lines_may lines_may_fi :=
  ⟨by kernel_rfl, fun h hlen => fun_sound (fn := Try.f48) (draw_sound _ _) Try.func48 rfl (by kernel_rfl : comp Try.prog 42 _ lines_may_c = some lines_may_c) (by kernel_rfl : cRes Try.prog Try.f48.results.toList = some lines_may_r) hlen h⟩

/-- fustian/lines.Line: slots [0 starts, 1 at, 2 starts, 3 at] -/
def lines_Line_c : SCode :=
  (.seq (.ops [⟨(some 2), .box 0 (.t 0), none, false⟩,
    ⟨(some 3), .box 0 (.t 1), none, false⟩,
    ⟨(some 4), .mov (.c (.int .i64 0)), none, false⟩,
    ⟨(some 5), .mov (.c (.int .i64 0)), none, false⟩] none [2, 3])
  (.seq (.block 0 (.seq (.ops [⟨(some 7), .load 1 false (.t 2), none, false⟩,
    ⟨(some 8), .call f_lines_may [(.t 7)], none, false⟩,
    ⟨(some 9), .not (.t 8), none, false⟩,
    ⟨(some 6), .mov (.t 9), none, false⟩] none [2, 3, 6])
  (.cond (.t 6)
    (.seq (.ops [⟨(some 4), .mov (.c (.int .i64 0)), none, false⟩,
      ⟨(some 5), .mov (.c (.int .i64 4)), none, false⟩] none [4, 5])
    .ret)
    (.seq (.ops [⟨(some 11), .load 1 false (.t 3), none, false⟩,
      ⟨(some 12), .bin .none .lss (.t 11) (.c (.int .i64 0)), none, false⟩,
      ⟨(some 10), .mov (.t 12), none, false⟩] none [2, 3, 10])
    (.cond (.t 10)
      (.seq (.ops [⟨(some 4), .mov (.c (.int .i64 0)), none, false⟩,
        ⟨(some 5), .mov (.c (.int .i64 2)), none, false⟩] none [4, 5])
      .ret)
      .skip)))))
  (.seq (.ops [⟨(some 13), .load 1 false (.t 2), none, false⟩,
    ⟨(some 14), .len false (.t 13), none, false⟩,
    ⟨(some 15), .mkfunc (.func f_lines_Line_1) [] [(.t 2), (.t 3)], none, false⟩,
    ⟨(some 16), .call f_sort_Search [(.t 14), (.t 15)], none, false⟩,
    ⟨(some 17), .bin .none .sub (.t 16) (.c (.int .i64 1)), none, false⟩,
    ⟨(some 4), .mov (.t 17), none, false⟩,
    ⟨(some 5), .mov (.c (.int .i64 0)), none, false⟩] none [4, 5])
  .ret)))
def lines_Line_r : List RRes := [.tmp 4, .tmp 5]
def lines_Line_hi : Hi := ⟨[], [(0, "starts"), (1, "at"), (2, "starts"), (3, "at")]⟩
def lines_Line_an : An := .d
def lines_Line_fi : Fi := ⟨18, lines_Line_c, lines_Line_r, lines_Line_an, lines_Line_hi⟩
theorem lines_Line_ok : FiOk Try.prog f_lines_Line lines_Line_fi :=
  ⟨by kernel_rfl, fun h hlen => fun_sound (fn := Try.f24) (draw_sound _ _) Try.func24 rfl (by kernel_rfl : comp Try.prog 18 _ lines_Line_c = some lines_Line_c) (by kernel_rfl : cRes Try.prog Try.f24.results.toList = some lines_Line_r) hlen h⟩

/-- fustian/fustianref.startsMay: slots [0 l, 1 l, 3 i] -/
def ref_startsMay_c : SCode :=
  (.seq (.ops [⟨(some 2), .mov (.c (.bool false)), none, false⟩] none [0])
  (.seq (.seq (.ops [⟨(some 4), .mov (.t 0), none, false⟩,
    ⟨(some 5), .len false (.t 4), none, false⟩,
    ⟨(some 6), .bin .none .eql (.t 5) (.c (.int .i64 0)), none, false⟩,
    ⟨(some 7), .mov (.t 6), none, true⟩,
    ⟨(some 8), .mov (.t 0), (some (7, false)), false⟩,
    ⟨(some 9), .iaddr 1 none (.t 8) (.c (.int .i64 0)), (some (7, false)), false⟩,
    ⟨(some 10), .load 1 false (.t 9), (some (7, false)), false⟩,
    ⟨(some 11), .bin .none .neq (.t 10) (.c (.int .i64 0)), (some (7, false)), false⟩,
    ⟨(some 12), .pick (.t 7) (.c (.bool true)) (.t 11), none, false⟩] none [0, 12])
  (.cond (.t 12)
    (.seq (.ops [⟨(some 2), .mov (.c (.bool false)), none, false⟩] none [2])
    .ret)
    .skip))
  (.seq (.seq (.ops [⟨(some 3), .mov (.c (.int .i64 1)), none, false⟩] none [0, 3])
  (.block 0 (.loop [0] [3] 0
    (.seq (.seq (.ops [⟨(some 13), .mov (.t 3), none, false⟩,
      ⟨(some 14), .mov (.t 0), none, false⟩,
      ⟨(some 15), .len false (.t 14), none, false⟩,
      ⟨(some 16), .bin .none .lss (.t 13) (.t 15), none, false⟩] none [0, 3, 16])
    (.cond (.t 16)
      .skip
      (.exit 0)))
    (.seq (.block 1 (.seq (.ops [⟨(some 19), .mov (.t 0), none, false⟩,
      ⟨(some 20), .mov (.t 3), none, false⟩,
      ⟨(some 21), .iaddr 1 none (.t 19) (.t 20), none, false⟩,
      ⟨(some 22), .load 1 false (.t 21), none, false⟩,
      ⟨(some 23), .mov (.t 0), none, false⟩,
      ⟨(some 24), .mov (.t 3), none, false⟩,
      ⟨(some 25), .bin .none .sub (.t 24) (.c (.int .i64 1)), none, false⟩,
      ⟨(some 26), .iaddr 1 none (.t 23) (.t 25), none, false⟩,
      ⟨(some 27), .load 1 false (.t 26), none, false⟩,
      ⟨(some 28), .bin .none .leq (.t 22) (.t 27), none, false⟩,
      ⟨(some 29), .mov (.t 28), none, true⟩,
      ⟨(some 30), .mov (.t 0), (some (29, false)), false⟩,
      ⟨(some 31), .mov (.t 3), (some (29, false)), false⟩,
      ⟨(some 32), .iaddr 1 none (.t 30) (.t 31), (some (29, false)), false⟩,
      ⟨(some 33), .load 1 false (.t 32), (some (29, false)), false⟩,
      ⟨(some 34), .bin .none .gtr (.t 33) (.c (.int .i64 600)), (some (29, false)), false⟩,
      ⟨(some 35), .pick (.t 29) (.c (.bool true)) (.t 34), none, false⟩] (some (0, 0, [0, 1, 2, 3, 4, 5, 6, 7, 8, 9, 10, 11, 12, 13, 14, 15, 16])) [0, 3, 35])
    (.cond (.t 35)
      (.seq (.ops [⟨(some 2), .mov (.c (.bool false)), none, false⟩] none [2])
      .ret)
      .skip)))
    (.ops [⟨(some 17), .mov (.t 3), none, false⟩,
      ⟨(some 18), .bin .none .add (.t 17) (.c (.int .i64 1)), none, false⟩,
      ⟨(some 3), .mov (.t 18), none, false⟩] none [0, 3]))))))
  (.seq (.ops [⟨(some 2), .mov (.c (.bool true)), none, false⟩] none [2])
  .ret))))
def ref_startsMay_r : List RRes := [.tmp 2]
def ref_startsMay_hi : Hi := ⟨[], [(0, "l"), (1, "l"), (3, "i")]⟩
def ref_startsMay_an : An := (.seq .d (.seq .d (.seq (.seq .d (.loop [] [] [] .d)) .d)))
def ref_startsMay_fi : Fi := ⟨36, ref_startsMay_c, ref_startsMay_r, ref_startsMay_an, ref_startsMay_hi⟩
theorem ref_startsMay_ok : FiOk Try.prog f_ref_startsMay ref_startsMay_fi :=
  ⟨by kernel_rfl, fun h hlen => fun_sound (fn := Try.f51) (draw_sound _ _) Try.func51 rfl (by kernel_rfl : comp Try.prog 36 _ ref_startsMay_c = some ref_startsMay_c) (by kernel_rfl : cRes Try.prog Try.f51.results.toList = some ref_startsMay_r) hlen h⟩

/-- fustian/fustianref.LinesLine: slots [0 starts, 1 at, 2 starts, 3 at, 6 n, 7 i, 8 x] -/
def ref_LinesLine_c : SCode :=
  (.seq (.ops [⟨(some 4), .mov (.c (.int .i64 0)), none, false⟩,
    ⟨(some 5), .mov (.c (.int .i64 0)), none, false⟩] none [0, 1])
  (.seq (.seq (.ops [⟨(some 9), .mov (.t 0), none, false⟩,
    ⟨(some 10), .call f_ref_startsMay [(.t 9)], none, false⟩,
    ⟨(some 11), .not (.t 10), none, false⟩] none [0, 1, 11])
  (.cond (.t 11)
    (.seq (.ops [⟨(some 4), .mov (.c (.int .i64 0)), none, false⟩,
      ⟨(some 5), .mov (.c (.int .i64 4)), none, false⟩] none [4, 5])
    .ret)
    .skip))
  (.seq (.seq (.ops [⟨(some 12), .mov (.t 1), none, false⟩,
    ⟨(some 13), .bin .none .lss (.t 12) (.c (.int .i64 0)), none, false⟩] none [0, 1, 13])
  (.cond (.t 13)
    (.seq (.ops [⟨(some 4), .mov (.c (.int .i64 0)), none, false⟩,
      ⟨(some 5), .mov (.c (.int .i64 2)), none, false⟩] none [4, 5])
    .ret)
    .skip))
  (.seq (.ops [⟨(some 6), .mov (.c (.int .i64 0)), none, false⟩] none [0, 1, 6])
  (.seq (.seq (.ops [⟨(some 14), .mov (.t 0), none, false⟩,
    ⟨(some 15), .len false (.t 14), none, false⟩,
    ⟨(some 16), .mov (.c (.int .i64 0)), none, false⟩] none [1, 6, 14, 15, 16])
  (.block 0 (.loop [1, 14, 15] [6, 16] 0
    (.seq (.ops [⟨(some 17), .bin .none .lss (.t 16) (.t 15), none, false⟩] none [1, 6, 14, 15, 16, 17])
    (.seq (.cond (.t 17)
      .skip
      (.exit 0))
    (.join [1, 14, 15, 16] [6] 0 (.block 1 (.seq (.ops [⟨(some 18), .mov (.t 16), none, false⟩,
        ⟨(some 19), .iaddr 1 none (.t 14) (.t 16), none, false⟩,
        ⟨(some 20), .load 1 false (.t 19), none, false⟩,
        ⟨(some 7), .mov (.t 18), none, false⟩,
        ⟨(some 8), .mov (.t 20), none, false⟩] none [1, 6, 7, 8, 14, 15, 16])
      (.seq (.ops [⟨(some 21), .mov (.t 8), none, false⟩,
        ⟨(some 22), .mov (.t 1), none, false⟩,
        ⟨(some 23), .bin .none .leq (.t 21) (.t 22), none, false⟩] none [1, 6, 7, 14, 15, 16, 23])
      (.cond (.t 23)
        (.ops [⟨(some 24), .mov (.t 7), none, false⟩,
          ⟨(some 6), .mov (.t 24), none, false⟩] none [1, 6, 14, 15, 16])
        .skip))))
    (.ops [⟨(some 25), .bin .none .add (.t 16) (.c (.int .i64 1)), none, false⟩,
      ⟨(some 16), .mov (.t 25), none, false⟩] none [1, 6, 14, 15, 16])))))))
  (.seq (.ops [⟨(some 26), .mov (.t 6), none, false⟩,
    ⟨(some 4), .mov (.t 26), none, false⟩,
    ⟨(some 5), .mov (.c (.int .i64 0)), none, false⟩] none [4, 5])
  .ret))))))
def ref_LinesLine_r : List RRes := [.tmp 4, .tmp 5]
def ref_LinesLine_hi : Hi := ⟨[], [(0, "starts"), (1, "at"), (2, "starts"), (3, "at"), (6, "n"), (7, "i"), (8, "x")]⟩
def ref_LinesLine_an : An := (.seq .d (.seq .d (.seq .d (.seq .d (.seq (.seq .d (.loop [] [] [] .d)) .d)))))
def ref_LinesLine_fi : Fi := ⟨27, ref_LinesLine_c, ref_LinesLine_r, ref_LinesLine_an, ref_LinesLine_hi⟩
theorem ref_LinesLine_ok : FiOk Try.prog f_ref_LinesLine ref_LinesLine_fi :=
  ⟨by kernel_rfl, fun h hlen => fun_sound (fn := Try.f25) (draw_sound _ _) Try.func25 rfl (by kernel_rfl : comp Try.prog 27 _ ref_LinesLine_c = some ref_LinesLine_c) (by kernel_rfl : cRes Try.prog Try.f25.results.toList = some ref_LinesLine_r) hlen h⟩

/-- fustian/fustianlaw.LinesLines: slots [0 starts, 1 at, 2 starts, 3 at, 5 x, 6 e, 7 y, 8 f] -/
def law_LinesLines_c : SCode :=
  (.seq (.ops [⟨(some 4), .mov (.c (.bool false)), none, false⟩] none [0, 1])
  (.seq (.ops [⟨(some 10), .mov (.t 0), none, false⟩,
    ⟨(some 11), .mov (.t 1), none, false⟩,
    ⟨(some 12), .call f_lines_Line [(.t 10), (.t 11)], none, false⟩,
    ⟨(some 9), .mov (.t 12), none, false⟩,
    ⟨(some 13), .extract (.t 9) 0, none, false⟩,
    ⟨(some 14), .extract (.t 9) 1, none, false⟩,
    ⟨(some 5), .mov (.t 13), none, false⟩,
    ⟨(some 6), .mov (.t 14), none, false⟩] none [0, 1, 5, 6])
  (.seq (.ops [⟨(some 16), .mov (.t 0), none, false⟩,
    ⟨(some 17), .mov (.t 1), none, false⟩,
    ⟨(some 18), .call f_ref_LinesLine [(.t 16), (.t 17)], none, false⟩,
    ⟨(some 15), .mov (.t 18), none, false⟩,
    ⟨(some 19), .extract (.t 15) 0, none, false⟩,
    ⟨(some 20), .extract (.t 15) 1, none, false⟩,
    ⟨(some 7), .mov (.t 19), none, false⟩,
    ⟨(some 8), .mov (.t 20), none, false⟩] none [5, 6, 7, 8])
  (.seq (.ops [⟨(some 21), .mov (.t 5), none, false⟩,
    ⟨(some 22), .mov (.t 7), none, false⟩,
    ⟨(some 23), .bin .none .eql (.t 21) (.t 22), none, false⟩,
    ⟨(some 24), .mov (.t 23), none, true⟩,
    ⟨(some 25), .mov (.t 6), (some (24, true)), false⟩,
    ⟨(some 26), .mov (.t 8), (some (24, true)), false⟩,
    ⟨(some 27), .bin .none .eql (.t 25) (.t 26), (some (24, true)), false⟩,
    ⟨(some 28), .pick (.t 24) (.t 27) (.c (.bool false)), none, false⟩,
    ⟨(some 4), .mov (.t 28), none, false⟩] none [4])
  .ret))))
def law_LinesLines_r : List RRes := [.tmp 4]
def law_LinesLines_hi : Hi := ⟨[], [(0, "starts"), (1, "at"), (2, "starts"), (3, "at"), (5, "x"), (6, "e"), (7, "y"), (8, "f")]⟩
def law_LinesLines_an : An := .d
def law_LinesLines_fi : Fi := ⟨29, law_LinesLines_c, law_LinesLines_r, law_LinesLines_an, law_LinesLines_hi⟩
theorem law_LinesLines_ok : FiOk Try.prog f_law_LinesLines law_LinesLines_fi :=
  ⟨by kernel_rfl, fun h hlen => fun_sound (fn := Try.f7) (draw_sound _ _) Try.func7 rfl (by kernel_rfl : comp Try.prog 29 _ law_LinesLines_c = some law_LinesLines_c) (by kernel_rfl : cRes Try.prog Try.f7.results.toList = some law_LinesLines_r) hlen h⟩

/-- sort.Search: slots [0 n, 1 f, 2 n, 3 f, 5 i, 6 j, 7 h] -/
def sort_Search_c : SCode :=
  (.seq (.ops [⟨(some 4), .mov (.c (.int .i64 0)), none, false⟩] none [0, 1])
  (.seq (.ops [⟨(some 8), .mov (.t 0), none, false⟩,
    ⟨(some 5), .mov (.c (.int .i64 0)), none, false⟩,
    ⟨(some 6), .mov (.t 8), none, false⟩] none [1, 5, 6])
  (.seq (.block 0 (.loop [1] [5, 6] 0
    (.seq (.seq (.ops [⟨(some 9), .mov (.t 5), none, false⟩,
      ⟨(some 10), .mov (.t 6), none, false⟩,
      ⟨(some 11), .bin .none .lss (.t 9) (.t 10), none, false⟩] none [1, 5, 6, 11])
    (.cond (.t 11)
      .skip
      (.exit 0)))
    (.block 1 (.seq (.ops [⟨(some 12), .mov (.t 5), none, false⟩,
      ⟨(some 13), .mov (.t 6), none, false⟩,
      ⟨(some 14), .bin .none .add (.t 12) (.t 13), none, false⟩,
      ⟨(some 15), .conv .u64 (.t 14), none, false⟩,
      ⟨(some 16), .bin .none .shr (.t 15) (.c (.int .u64 1)), none, false⟩,
      ⟨(some 17), .conv .i64 (.t 16), none, false⟩,
      ⟨(some 7), .mov (.t 17), none, false⟩] none [1, 5, 6, 7])
    (.seq (.ops [⟨(some 18), .mov (.t 1), none, false⟩,
      ⟨(some 19), .mov (.t 7), none, false⟩,
      ⟨(some 20), .callv (.t 18) [(.t 19)], none, false⟩,
      ⟨(some 21), .not (.t 20), none, false⟩] none [1, 5, 6, 7, 21])
    (.cond (.t 21)
      (.ops [⟨(some 22), .mov (.t 7), none, false⟩,
        ⟨(some 23), .bin .none .add (.t 22) (.c (.int .i64 1)), none, false⟩,
        ⟨(some 5), .mov (.t 23), none, false⟩] none [1, 5, 6])
      (.ops [⟨(some 24), .mov (.t 7), none, false⟩,
        ⟨(some 6), .mov (.t 24), none, false⟩] none [1, 5, 6]))))))))
  (.seq (.ops [⟨(some 25), .mov (.t 5), none, false⟩,
    ⟨(some 4), .mov (.t 25), none, false⟩] none [4])
  .ret))))
def sort_Search_r : List RRes := [.tmp 4]
def sort_Search_hi : Hi := ⟨[], [(0, "n"), (1, "f"), (2, "n"), (3, "f"), (5, "i"), (6, "j"), (7, "h")]⟩
def sort_Search_an : An := (.seq .d (.seq .d (.seq (.loop [1] [] [] .d) .d)))
def sort_Search_fi : Fi := ⟨26, sort_Search_c, sort_Search_r, sort_Search_an, sort_Search_hi⟩
theorem sort_Search_ok : FiOk Try.prog f_sort_Search sort_Search_fi :=
  ⟨by kernel_rfl, fun h hlen => fun_sound (fn := Try.f49) (draw_sound _ _) Try.func49 rfl (by kernel_rfl : comp Try.prog 26 _ sort_Search_c = some sort_Search_c) (by kernel_rfl : cRes Try.prog Try.f49.results.toList = some sort_Search_r) hlen h⟩

/-- fustian/lines.Line$1: slots [0 i, 3 i] -/
def lines_Line_1_c : SCode :=
  (.seq (.ops [⟨(some 4), .mov (.c (.bool false)), none, false⟩] none [0, 1, 2])
  (.seq (.ops [⟨(some 5), .load 1 false (.t 1), none, false⟩,
    ⟨(some 6), .mov (.t 0), none, false⟩,
    ⟨(some 7), .iaddr 1 none (.t 5) (.t 6), none, false⟩,
    ⟨(some 8), .load 1 false (.t 7), none, false⟩,
    ⟨(some 9), .load 1 false (.t 2), none, false⟩,
    ⟨(some 10), .bin .none .gtr (.t 8) (.t 9), none, false⟩,
    ⟨(some 4), .mov (.t 10), none, false⟩] (some (0, 0, [0, 1, 2, 3, 4, 5, 6])) [4])
  .ret))
def lines_Line_1_r : List RRes := [.tmp 4]
def lines_Line_1_hi : Hi := ⟨[], [(0, "i"), (3, "i")]⟩
def lines_Line_1_an : An := .d
def lines_Line_1_fi : Fi := ⟨11, lines_Line_1_c, lines_Line_1_r, lines_Line_1_an, lines_Line_1_hi⟩
theorem lines_Line_1_ok : FiOk Try.prog f_lines_Line_1 lines_Line_1_fi :=
  ⟨by kernel_rfl, fun h hlen => fun_sound (fn := Try.f50) (draw_sound _ _) Try.func50 rfl (by kernel_rfl : comp Try.prog 11 _ lines_Line_1_c = some lines_Line_1_c) (by kernel_rfl : cRes Try.prog Try.f50.results.toList = some lines_Line_1_r) hlen h⟩

end Go.Proofs.Ytcgggoaefceokaa
