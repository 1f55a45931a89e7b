/- The functions' simplified code, printed by a program of the claim's author; each is checked against the program's own code. Conditions: none. -/
import Derived.Test.YtcgggoaefceokaaProg
import Derived.Test.YtcgggoaefceokaaVyM
set_option linter.unusedVariables false
set_option maxRecDepth 100000
namespace Go.Proofs.Ytcgggoaefceokaa
open Go.Vc
abbrev f_gosem_cut_init : Nat := 2
abbrev f_law_WrapChecks : Nat := 3
abbrev f_law_PosFinds : Nat := 4
abbrev f_law_DiffPatches : Nat := 5
abbrev f_law_EditApplies : Nat := 6
abbrev f_law_LinesLines : Nat := 7
abbrev f_law_SpansWidens : Nat := 8
abbrev f_law_EditInverts : Nat := 9
abbrev f_law_WrapGreedies : Nat := 10
abbrev f_law_SchedPlays : Nat := 11
abbrev f_law_EditOvers : Nat := 12
abbrev f_law_FindAlls : Nat := 13
abbrev f_law_WrapBests : Nat := 14
abbrev f_wrap_Check : Nat := 15
abbrev f_ref_WrapFault : Nat := 16
abbrev f_pos_Find : Nat := 17
abbrev f_ref_PosFind : Nat := 18
abbrev f_diff_Patch : Nat := 19
abbrev f_ref_DiffPatch : Nat := 20
abbrev f_law_sameTexts : Nat := 21
abbrev f_edit_Apply : Nat := 22
abbrev f_ref_EditApply : Nat := 23
abbrev f_lines_Line : Nat := 24
abbrev f_ref_LinesLine : Nat := 25
abbrev f_spans_Widen : Nat := 26
abbrev f_ref_SpansWiden : Nat := 27
abbrev f_edit_Invert : Nat := 28
abbrev f_ref_EditInvert : Nat := 29
abbrev f_wrap_Greedy : Nat := 30
abbrev f_ref_WrapGreedy : Nat := 31
abbrev f_law_sameInts : Nat := 32
abbrev f_sched_Play : Nat := 33
abbrev f_ref_SchedPlayed : Nat := 34
abbrev f_edit_Over : Nat := 35
abbrev f_ref_EditOver : Nat := 36
abbrev f_find_All : Nat := 37
abbrev f_ref_FindAll : Nat := 38
abbrev f_wrap_Best : Nat := 39
abbrev f_ref_WrapCost : Nat := 40
abbrev f_ref_WrapLeast : Nat := 41
abbrev f_slices_ContainsFunc___int_int_ : Nat := 42
abbrev f_wrap_Check_1 : Nat := 43
abbrev f_strings_IndexByte : Nat := 44
abbrev f_ref_PosOf : Nat := 45
abbrev f_edit_run : Nat := 46
abbrev f_ref_EditApplied : Nat := 47
abbrev f_lines_may : Nat := 48
abbrev f_sort_Search : Nat := 49
abbrev f_lines_Line_1 : Nat := 50
abbrev f_ref_startsMay : Nat := 51
abbrev f_spans_Widened : Nat := 52
abbrev f_slices_Reverse___api_Edit_api_Edit_ : Nat := 53
abbrev f_ref_lineWide : Nat := 54
abbrev f___sched_ring__push : Nat := 55
abbrev f___sched_ring__turn : Nat := 56
abbrev f_edit_Check : Nat := 57
abbrev f_edit_clash : Nat := 58
abbrev f_edit_Moved : Nat := 59
abbrev f_ref_EditFault : Nat := 60
abbrev f_ref_EditOver_1 : Nat := 61
abbrev f_ref_EditOver_2 : Nat := 62
abbrev f_ref_editPlace : Nat := 63
abbrev f_find_fault : Nat := 64
abbrev f_find_In : Nat := 65
abbrev f_ref_findFault : Nat := 66
abbrev f_ref_standsAt : Nat := 67
abbrev f_slices_IndexFunc___int_int_ : Nat := 68
abbrev f_internal_stringslite_IndexByte : Nat := 69
abbrev f_edit_Undo : Nat := 70
abbrev f_edit_Made : Nat := 71
abbrev f_ref_editMade : Nat := 72
abbrev f_strings_LastIndexByte : Nat := 73
abbrev f_edit_nothing : Nat := 74
abbrev f_edit_within : Nat := 75
abbrev f_find_border : Nat := 76
abbrev f_internal_bytealg_LastIndexByteString : Nat := 78

/-- fustian/wrap.Check: slots [0 widths, 1 wide, 2 widths, 3 wide] -/
def wrap_Check_c : SCode :=
  (.seq (.ops [⟨(some 3), .box 0 (.t 1), none, false⟩,
    ⟨(some 4), .mov (.c (.int .i64 0)), none, false⟩] none [0, 3])
  (.seq (.block 0 (.seq (.ops [⟨(some 6), .mov (.t 0), none, false⟩,
    ⟨(some 7), .len false (.t 6), none, false⟩,
    ⟨(some 8), .bin .none .gtr (.t 7) (.c (.int .i64 80)), none, false⟩,
    ⟨(some 5), .mov (.t 8), none, false⟩] none [0, 3, 5])
  (.cond (.t 5)
    (.seq (.ops [⟨(some 4), .mov (.c (.int .i64 1)), none, false⟩] none [4])
    .ret)
    (.seq (.ops [⟨(some 10), .load 1 false (.t 3), none, false⟩,
      ⟨(some 11), .bin .none .lss (.t 10) (.c (.int .i64 1)), none, false⟩,
      ⟨(some 12), .mov (.t 11), none, true⟩,
      ⟨(some 13), .load 1 false (.t 3), (some (12, false)), false⟩,
      ⟨(some 14), .bin .none .gtr (.t 13) (.c (.int .i64 60)), (some (12, false)), false⟩,
      ⟨(some 15), .pick (.t 12) (.c (.bool true)) (.t 14), none, false⟩,
      ⟨(some 9), .mov (.t 15), none, false⟩] none [0, 3, 9])
    (.cond (.t 9)
      (.seq (.ops [⟨(some 4), .mov (.c (.int .i64 2)), none, false⟩] none [4])
      .ret)
      (.seq (.ops [⟨(some 17), .mov (.t 0), none, false⟩,
        ⟨(some 18), .mkfunc (.func f_wrap_Check_1) [] [(.t 3)], none, false⟩,
        ⟨(some 19), .call f_slices_ContainsFunc___int_int_ [(.t 17), (.t 18)], none, false⟩,
        ⟨(some 16), .mov (.t 19), none, false⟩] none [16])
      (.cond (.t 16)
        (.seq (.ops [⟨(some 4), .mov (.c (.int .i64 2)), none, false⟩] none [4])
        .ret)
        .skip)))))))
  (.seq (.ops [⟨(some 4), .mov (.c (.int .i64 0)), none, false⟩] none [4])
  .ret)))
def wrap_Check_r : List RRes := [.tmp 4]
def wrap_Check_hi : Hi := ⟨[], [(0, "widths"), (1, "wide"), (2, "widths"), (3, "wide")]⟩
def wrap_Check_an : An := .d
def wrap_Check_fi : Fi := ⟨20, wrap_Check_c, wrap_Check_r, wrap_Check_an, wrap_Check_hi⟩
theorem wrap_Check_ok : FiOk Try.prog f_wrap_Check wrap_Check_fi :=
  ⟨by kernel_rfl, fun h hlen => fun_sound (fn := Try.f15) (draw_sound _ _) Try.func15 rfl (by kernel_rfl : comp Try.prog 20 _ wrap_Check_c = some wrap_Check_c) (by kernel_rfl : cRes Try.prog Try.f15.results.toList = some wrap_Check_r) hlen h⟩

/-- fustian/wrap.Greedy: slots [0 widths, 1 wide, 2 widths, 3 wide, 6 e, 7 out, 8 free, 9 i, 10 n] -/
def wrap_Greedy_c : SCode :=
  (.seq (.ops [⟨(some 4), .mov (.c .nils), none, false⟩,
    ⟨(some 5), .mov (.c (.int .i64 0)), none, false⟩] none [0, 1])
  (.seq (.seq (.ops [⟨(some 11), .mov (.t 0), none, false⟩,
    ⟨(some 12), .mov (.t 1), none, false⟩,
    ⟨(some 13), .call f_wrap_Check [(.t 11), (.t 12)], none, false⟩,
    ⟨(some 6), .mov (.t 13), none, false⟩] none [0, 1, 6])
  (.seq (.ops [⟨(some 14), .mov (.t 6), none, false⟩,
    ⟨(some 15), .bin .none .neq (.t 14) (.c (.int .i64 0)), none, false⟩] none [0, 1, 6, 15])
  (.cond (.t 15)
    (.seq (.ops [⟨(some 16), .mov (.t 6), none, false⟩,
      ⟨(some 4), .mov (.c .nils), none, false⟩,
      ⟨(some 5), .mov (.t 16), none, false⟩] none [4, 5])
    .ret)
    .skip)))
  (.seq (.ops [⟨(some 7), .newnil 1, none, false⟩] none [0, 1, 7])
  (.seq (.ops [⟨(some 8), .mov (.c (.int .i64 (-1))), none, false⟩] none [0, 1, 7, 8])
  (.seq (.seq (.ops [⟨(some 17), .mov (.t 0), none, false⟩,
    ⟨(some 18), .len false (.t 17), none, false⟩,
    ⟨(some 19), .mov (.c (.int .i64 0)), none, false⟩] none [1, 7, 8, 17, 18, 19])
  (.block 0 (.loop [1, 17, 18] [7, 8, 19] 1
    (.seq (.ops [⟨(some 20), .bin .none .lss (.t 19) (.t 18), none, false⟩] none [1, 7, 8, 17, 18, 19, 20])
    (.seq (.cond (.t 20)
      .skip
      (.exit 0))
    (.join [1, 17, 18, 19] [7, 8] 1 (.block 1 (.seq (.ops [⟨(some 21), .mov (.t 19), none, false⟩,
        ⟨(some 22), .iaddr 1 none (.t 17) (.t 19), none, false⟩,
        ⟨(some 23), .load 1 false (.t 22), none, false⟩,
        ⟨(some 9), .mov (.t 21), none, false⟩,
        ⟨(some 10), .mov (.t 23), none, false⟩] none [1, 7, 8, 9, 10, 17, 18, 19])
      (.seq (.seq (.ops [⟨(some 24), .mov (.t 10), none, false⟩,
        ⟨(some 25), .mov (.t 8), none, false⟩,
        ⟨(some 26), .bin .none .sub (.t 25) (.c (.int .i64 1)), none, false⟩,
        ⟨(some 27), .bin .none .gtr (.t 24) (.t 26), none, false⟩,
        ⟨(some 28), .mov (.t 27), none, true⟩,
        ⟨(some 29), .mov (.t 9), (some (28, false)), false⟩,
        ⟨(some 30), .bin .none .eql (.t 29) (.c (.int .i64 0)), (some (28, false)), false⟩,
        ⟨(some 31), .pick (.t 28) (.c (.bool true)) (.t 30), none, false⟩] none [1, 7, 8, 9, 10, 17, 18, 19, 31])
      (.cond (.t 31)
        (.seq (.ops [⟨(some 32), .mov (.t 7), none, false⟩,
          ⟨(some 33), .mov (.t 9), none, false⟩,
          ⟨(some 34), .bslice true 1 1 [(.int .i64 0)] [(0, 1, (.t 33))], none, false⟩,
          ⟨(some 35), .append 1 8 (.t 32) (.t 34), none, false⟩,
          ⟨(some 7), .mov (.t 35), none, false⟩] none [1, 7, 10, 17, 18, 19])
        (.seq (.ops [⟨(some 36), .mov (.t 1), none, false⟩,
          ⟨(some 37), .mov (.t 10), none, false⟩,
          ⟨(some 38), .bin .none .sub (.t 36) (.t 37), none, false⟩,
          ⟨(some 8), .mov (.t 38), none, false⟩] none [1, 7, 8, 17, 18, 19])
        (.exit 1)))
        .skip))
      (.ops [⟨(some 39), .mov (.t 8), none, false⟩,
        ⟨(some 40), .mov (.t 10), none, false⟩,
        ⟨(some 41), .bin .none .add (.t 40) (.c (.int .i64 1)), none, false⟩,
        ⟨(some 42), .bin .none .sub (.t 39) (.t 41), none, false⟩,
        ⟨(some 8), .mov (.t 42), none, false⟩] none [1, 7, 8, 17, 18, 19]))))
    (.ops [⟨(some 43), .bin .none .add (.t 19) (.c (.int .i64 1)), none, false⟩,
      ⟨(some 19), .mov (.t 43), none, false⟩] none [1, 7, 8, 17, 18, 19])))))))
  (.seq (.ops [⟨(some 44), .mov (.t 7), none, false⟩,
    ⟨(some 4), .mov (.t 44), none, false⟩,
    ⟨(some 5), .mov (.c (.int .i64 0)), none, false⟩] none [4, 5])
  .ret))))))
def wrap_Greedy_r : List RRes := [.tmp 4, .tmp 5]
def wrap_Greedy_hi : Hi := ⟨[(7, (.int .i64)), (34, (.int .i64)), (35, (.int .i64))], [(0, "widths"), (1, "wide"), (2, "widths"), (3, "wide"), (6, "e"), (7, "out"), (8, "free"), (9, "i"), (10, "n")]⟩
def wrap_Greedy_an : An := (.seq .d (.seq .d (.seq .d (.seq .d (.seq (.seq .d (.loop [7] [] [] .d)) .d)))))
def wrap_Greedy_fi : Fi := ⟨45, wrap_Greedy_c, wrap_Greedy_r, wrap_Greedy_an, wrap_Greedy_hi⟩
theorem wrap_Greedy_ok : FiOk Try.prog f_wrap_Greedy wrap_Greedy_fi :=
  ⟨by kernel_rfl, fun h hlen => fun_sound (fn := Try.f30) (draw_sound _ _) Try.func30 rfl (by kernel_rfl : comp Try.prog 45 _ wrap_Greedy_c = some wrap_Greedy_c) (by kernel_rfl : cRes Try.prog Try.f30.results.toList = some wrap_Greedy_r) hlen h⟩

/-- fustian/fustianref.WrapFault: slots [0 widths, 1 wide, 2 widths, 3 wide, 5 _, 6 n] -/
def ref_WrapFault_c : SCode :=
  (.seq (.ops [⟨(some 4), .mov (.c (.int .i64 0)), none, false⟩] none [0, 1])
  (.seq (.seq (.ops [⟨(some 7), .mov (.t 0), none, false⟩,
    ⟨(some 8), .len false (.t 7), none, false⟩,
    ⟨(some 9), .bin .none .gtr (.t 8) (.c (.int .i64 80)), none, false⟩] none [0, 1, 9])
  (.cond (.t 9)
    (.seq (.ops [⟨(some 4), .mov (.c (.int .i64 1)), none, false⟩] none [4])
    .ret)
    .skip))
  (.seq (.seq (.ops [⟨(some 10), .mov (.t 1), none, false⟩,
    ⟨(some 11), .bin .none .lss (.t 10) (.c (.int .i64 1)), none, false⟩,
    ⟨(some 12), .mov (.t 11), none, true⟩,
    ⟨(some 13), .mov (.t 1), (some (12, false)), false⟩,
    ⟨(some 14), .bin .none .gtr (.t 13) (.c (.int .i64 60)), (some (12, false)), false⟩,
    ⟨(some 15), .pick (.t 12) (.c (.bool true)) (.t 14), none, false⟩] none [0, 1, 15])
  (.cond (.t 15)
    (.seq (.ops [⟨(some 4), .mov (.c (.int .i64 2)), none, false⟩] none [4])
    .ret)
    .skip))
  (.seq (.seq (.ops [⟨(some 16), .mov (.t 0), none, false⟩,
    ⟨(some 17), .len false (.t 16), none, false⟩,
    ⟨(some 18), .mov (.c (.int .i64 0)), none, false⟩] none [1, 16, 17, 18])
  (.block 0 (.loop [1, 16, 17] [18] 0
    (.seq (.ops [⟨(some 19), .bin .none .lss (.t 18) (.t 17), none, false⟩] none [1, 16, 17, 18, 19])
    (.seq (.cond (.t 19)
      .skip
      (.exit 0))
    (.seq (.block 1 (.seq (.ops [⟨(some 20), .iaddr 1 none (.t 16) (.t 18), none, false⟩,
      ⟨(some 21), .load 1 false (.t 20), none, false⟩,
      ⟨(some 6), .mov (.t 21), none, false⟩] none [1, 6, 16, 17, 18])
    (.seq (.ops [⟨(some 22), .mov (.t 6), none, false⟩,
      ⟨(some 23), .bin .none .lss (.t 22) (.c (.int .i64 1)), none, false⟩,
      ⟨(some 24), .mov (.t 23), none, true⟩,
      ⟨(some 25), .mov (.t 6), (some (24, false)), false⟩,
      ⟨(some 26), .mov (.t 1), (some (24, false)), false⟩,
      ⟨(some 27), .bin .none .gtr (.t 25) (.t 26), (some (24, false)), false⟩,
      ⟨(some 28), .pick (.t 24) (.c (.bool true)) (.t 27), none, false⟩] none [1, 16, 17, 18, 28])
    (.cond (.t 28)
      (.seq (.ops [⟨(some 4), .mov (.c (.int .i64 2)), none, false⟩] none [4])
      .ret)
      .skip))))
    (.ops [⟨(some 29), .bin .none .add (.t 18) (.c (.int .i64 1)), none, false⟩,
      ⟨(some 18), .mov (.t 29), none, false⟩] none [1, 16, 17, 18])))))))
  (.seq (.ops [⟨(some 4), .mov (.c (.int .i64 0)), none, false⟩] none [4])
  .ret)))))
def ref_WrapFault_r : List RRes := [.tmp 4]
def ref_WrapFault_hi : Hi := ⟨[], [(0, "widths"), (1, "wide"), (2, "widths"), (3, "wide"), (6, "n")]⟩
def ref_WrapFault_an : An := (.seq .d (.seq .d (.seq .d (.seq (.seq .d (.loop [] [] [] .d)) .d))))
def ref_WrapFault_fi : Fi := ⟨30, ref_WrapFault_c, ref_WrapFault_r, ref_WrapFault_an, ref_WrapFault_hi⟩
theorem ref_WrapFault_ok : FiOk Try.prog f_ref_WrapFault ref_WrapFault_fi :=
  ⟨by kernel_rfl, fun h hlen => fun_sound (fn := Try.f16) (draw_sound _ _) Try.func16 rfl (by kernel_rfl : comp Try.prog 30 _ ref_WrapFault_c = some ref_WrapFault_c) (by kernel_rfl : cRes Try.prog Try.f16.results.toList = some ref_WrapFault_r) hlen h⟩

/-- fustian/fustianref.lineWide: slots [0 words, 1 words, 3 n, 4 _, 5 w] -/
def ref_lineWide_c : SCode :=
  (.seq (.ops [⟨(some 2), .mov (.c (.int .i64 0)), none, false⟩] none [0])
  (.seq (.ops [⟨(some 6), .mov (.t 0), none, false⟩,
    ⟨(some 7), .len false (.t 6), none, false⟩,
    ⟨(some 8), .bin .none .sub (.t 7) (.c (.int .i64 1)), none, false⟩,
    ⟨(some 3), .mov (.t 8), none, false⟩] none [0, 3])
  (.seq (.seq (.ops [⟨(some 9), .mov (.t 0), none, false⟩,
    ⟨(some 10), .len false (.t 9), none, false⟩,
    ⟨(some 11), .mov (.c (.int .i64 0)), none, false⟩] none [3, 9, 10, 11])
  (.block 0 (.loop [9, 10] [3, 11] 0
    (.seq (.ops [⟨(some 12), .bin .none .lss (.t 11) (.t 10), none, false⟩] none [3, 9, 10, 11, 12])
    (.seq (.cond (.t 12)
      .skip
      (.exit 0))
    (.seq (.block 1 (.seq (.ops [⟨(some 13), .iaddr 1 none (.t 9) (.t 11), none, false⟩,
      ⟨(some 14), .load 1 false (.t 13), none, false⟩,
      ⟨(some 5), .mov (.t 14), none, false⟩] none [3, 5, 9, 10, 11])
    (.ops [⟨(some 15), .mov (.t 3), none, false⟩,
      ⟨(some 16), .mov (.t 5), none, false⟩,
      ⟨(some 17), .bin .none .add (.t 15) (.t 16), none, false⟩,
      ⟨(some 3), .mov (.t 17), none, false⟩] none [3, 9, 10, 11])))
    (.ops [⟨(some 18), .bin .none .add (.t 11) (.c (.int .i64 1)), none, false⟩,
      ⟨(some 11), .mov (.t 18), none, false⟩] none [3, 9, 10, 11])))))))
  (.seq (.ops [⟨(some 19), .mov (.t 3), none, false⟩,
    ⟨(some 2), .mov (.t 19), none, false⟩] none [2])
  .ret))))
def ref_lineWide_r : List RRes := [.tmp 2]
def ref_lineWide_hi : Hi := ⟨[], [(0, "words"), (1, "words"), (3, "n"), (5, "w")]⟩
def ref_lineWide_an : An := (.seq .d (.seq .d (.seq (.seq .d (.loop [] [] [] .d)) .d)))
def ref_lineWide_fi : Fi := ⟨20, ref_lineWide_c, ref_lineWide_r, ref_lineWide_an, ref_lineWide_hi⟩
theorem ref_lineWide_ok : FiOk Try.prog f_ref_lineWide ref_lineWide_fi :=
  ⟨by kernel_rfl, fun h hlen => fun_sound (fn := Try.f54) (draw_sound _ _) Try.func54 rfl (by kernel_rfl : comp Try.prog 20 _ ref_lineWide_c = some ref_lineWide_c) (by kernel_rfl : cRes Try.prog Try.f54.results.toList = some ref_lineWide_r) hlen h⟩

/-- fustian/fustianref.WrapGreedy: slots [0 widths, 1 wide, 2 widths, 3 wide, 6 e, 7 out, 8 at, 9 to] -/
def ref_WrapGreedy_c : SCode :=
  (.seq (.ops [⟨(some 4), .mov (.c .nils), none, false⟩,
    ⟨(some 5), .mov (.c (.int .i64 0)), none, false⟩] none [0, 1])
  (.seq (.seq (.ops [⟨(some 10), .mov (.t 0), none, false⟩,
    ⟨(some 11), .mov (.t 1), none, false⟩,
    ⟨(some 12), .call f_ref_WrapFault [(.t 10), (.t 11)], none, false⟩,
    ⟨(some 6), .mov (.t 12), none, false⟩] none [0, 1, 6])
  (.seq (.ops [⟨(some 13), .mov (.t 6), none, false⟩,
    ⟨(some 14), .bin .none .neq (.t 13) (.c (.int .i64 0)), none, false⟩] none [0, 1, 6, 14])
  (.cond (.t 14)
    (.seq (.ops [⟨(some 15), .mov (.t 6), none, false⟩,
      ⟨(some 4), .mov (.c .nils), none, false⟩,
      ⟨(some 5), .mov (.t 15), none, false⟩] none [4, 5])
    .ret)
    .skip)))
  (.seq (.ops [⟨(some 7), .newnil 1, none, false⟩] none [0, 1, 7])
  (.seq (.seq (.ops [⟨(some 8), .mov (.c (.int .i64 0)), none, false⟩] none [0, 1, 7, 8])
  (.block 0 (.loop [0, 1] [7, 8] 1
    (.seq (.seq (.ops [⟨(some 16), .mov (.t 8), none, false⟩,
      ⟨(some 17), .mov (.t 0), none, false⟩,
      ⟨(some 18), .len false (.t 17), none, false⟩,
      ⟨(some 19), .bin .none .lss (.t 16) (.t 18), none, false⟩] none [0, 1, 7, 8, 19])
    (.cond (.t 19)
      .skip
      (.exit 0)))
    (.block 1 (.seq (.ops [⟨(some 20), .mov (.t 7), none, false⟩,
      ⟨(some 21), .mov (.t 8), none, false⟩,
      ⟨(some 22), .bslice true 1 1 [(.int .i64 0)] [(0, 1, (.t 21))], none, false⟩,
      ⟨(some 23), .append 1 8 (.t 20) (.t 22), none, false⟩,
      ⟨(some 7), .mov (.t 23), none, false⟩] none [0, 1, 7, 8])
    (.seq (.ops [⟨(some 24), .mov (.t 8), none, false⟩,
      ⟨(some 25), .bin .none .add (.t 24) (.c (.int .i64 1)), none, false⟩,
      ⟨(some 9), .mov (.t 25), none, false⟩] none [0, 1, 7, 8, 9])
    (.seq (.block 2 (.loop [0, 1, 7, 8] [9] 1
      (.seq (.seq (.ops [⟨(some 26), .mov (.t 9), none, false⟩,
        ⟨(some 27), .mov (.t 0), none, false⟩,
        ⟨(some 28), .len false (.t 27), none, false⟩,
        ⟨(some 29), .bin .none .lss (.t 26) (.t 28), none, false⟩,
        ⟨(some 30), .mov (.t 29), none, true⟩,
        ⟨(some 31), .mov (.t 0), (some (30, true)), false⟩,
        ⟨(some 32), .mov (.t 8), (some (30, true)), false⟩,
        ⟨(some 33), .mov (.t 9), (some (30, true)), false⟩,
        ⟨(some 34), .bin .none .add (.t 33) (.c (.int .i64 1)), (some (30, true)), false⟩,
        ⟨(some 35), .slice 1 (.t 31) (some (.t 32)) (some (.t 34)), (some (30, true)), false⟩,
        ⟨(some 36), .call f_ref_lineWide [(.t 35)], (some (30, true)), false⟩,
        ⟨(some 37), .mov (.t 1), (some (30, true)), false⟩,
        ⟨(some 38), .bin .none .leq (.t 36) (.t 37), (some (30, true)), false⟩,
        ⟨(some 39), .pick (.t 30) (.t 38) (.c (.bool false)), none, false⟩] none [0, 1, 7, 8, 9, 39])
      (.cond (.t 39)
        .skip
        (.exit 2)))
      (.block 3 (.ops [⟨(some 40), .mov (.t 9), none, false⟩,
        ⟨(some 41), .bin .none .add (.t 40) (.c (.int .i64 1)), none, false⟩,
        ⟨(some 9), .mov (.t 41), none, false⟩] none [0, 1, 7, 8, 9])))))
    (.ops [⟨(some 42), .mov (.t 9), none, false⟩,
      ⟨(some 8), .mov (.t 42), none, false⟩] none [0, 1, 7, 8])))))))))
  (.seq (.ops [⟨(some 43), .mov (.t 7), none, false⟩,
    ⟨(some 4), .mov (.t 43), none, false⟩,
    ⟨(some 5), .mov (.c (.int .i64 0)), none, false⟩] none [4, 5])
  .ret)))))
def ref_WrapGreedy_r : List RRes := [.tmp 4, .tmp 5]
def ref_WrapGreedy_hi : Hi := ⟨[(7, (.int .i64)), (22, (.int .i64)), (23, (.int .i64))], [(0, "widths"), (1, "wide"), (2, "widths"), (3, "wide"), (6, "e"), (7, "out"), (8, "at"), (9, "to")]⟩
def ref_WrapGreedy_an : An := (.seq .d (.seq .d (.seq .d (.seq (.seq .d (.loop [7, 0] [] [] (.seq .d (.seq .d (.seq .d (.seq (.loop [0] [] [] .d) .d)))))) .d))))
def ref_WrapGreedy_fi : Fi := ⟨44, ref_WrapGreedy_c, ref_WrapGreedy_r, ref_WrapGreedy_an, ref_WrapGreedy_hi⟩
theorem ref_WrapGreedy_ok : FiOk Try.prog f_ref_WrapGreedy ref_WrapGreedy_fi :=
  ⟨by kernel_rfl, fun h hlen => fun_sound (fn := Try.f31) (draw_sound _ _) Try.func31 rfl (by kernel_rfl : comp Try.prog 44 _ ref_WrapGreedy_c = some ref_WrapGreedy_c) (by kernel_rfl : cRes Try.prog Try.f31.results.toList = some ref_WrapGreedy_r) hlen h⟩

/-- fustian/fustianlaw.sameInts: slots [0 a, 1 b, 2 a, 3 b, 5 i] -/
def law_sameInts_c : SCode :=
  (.seq (.ops [⟨(some 4), .mov (.c (.bool false)), none, false⟩] none [0, 1])
  (.seq (.seq (.ops [⟨(some 6), .mov (.t 0), none, false⟩,
    ⟨(some 7), .len false (.t 6), none, false⟩,
    ⟨(some 8), .mov (.t 1), none, false⟩,
    ⟨(some 9), .len false (.t 8), none, false⟩,
    ⟨(some 10), .bin .none .neq (.t 7) (.t 9), none, false⟩] none [0, 1, 10])
  (.cond (.t 10)
    (.seq (.ops [⟨(some 4), .mov (.c (.bool false)), none, false⟩] none [4])
    .ret)
    .skip))
  (.seq (.seq (.ops [⟨(some 5), .mov (.c (.int .i64 0)), none, false⟩] none [0, 1, 5])
  (.block 0 (.loop [0, 1] [5] 0
    (.seq (.seq (.ops [⟨(some 11), .mov (.t 5), none, false⟩,
      ⟨(some 12), .mov (.t 0), none, false⟩,
      ⟨(some 13), .len false (.t 12), none, false⟩,
      ⟨(some 14), .bin .none .lss (.t 11) (.t 13), none, false⟩] none [0, 1, 5, 14])
    (.cond (.t 14)
      .skip
      (.exit 0)))
    (.seq (.block 1 (.seq (.ops [⟨(some 17), .mov (.t 0), none, false⟩,
      ⟨(some 18), .mov (.t 5), none, false⟩,
      ⟨(some 19), .iaddr 1 none (.t 17) (.t 18), none, false⟩,
      ⟨(some 20), .load 1 false (.t 19), none, false⟩,
      ⟨(some 21), .mov (.t 1), none, false⟩,
      ⟨(some 22), .mov (.t 5), none, false⟩,
      ⟨(some 23), .iaddr 1 none (.t 21) (.t 22), none, false⟩,
      ⟨(some 24), .load 1 false (.t 23), none, false⟩,
      ⟨(some 25), .bin .none .neq (.t 20) (.t 24), none, false⟩] (some (0, 0, [0, 1, 2, 3, 4, 5, 6, 7, 8])) [0, 1, 5, 25])
    (.cond (.t 25)
      (.seq (.ops [⟨(some 4), .mov (.c (.bool false)), none, false⟩] none [4])
      .ret)
      .skip)))
    (.ops [⟨(some 15), .mov (.t 5), none, false⟩,
      ⟨(some 16), .bin .none .add (.t 15) (.c (.int .i64 1)), none, false⟩,
      ⟨(some 5), .mov (.t 16), none, false⟩] none [0, 1, 5]))))))
  (.seq (.ops [⟨(some 4), .mov (.c (.bool true)), none, false⟩] none [4])
  .ret))))
def law_sameInts_r : List RRes := [.tmp 4]
def law_sameInts_hi : Hi := ⟨[], [(0, "a"), (1, "b"), (2, "a"), (3, "b"), (5, "i")]⟩
def law_sameInts_an : An := (.seq .d (.seq .d (.seq (.seq .d (.loop [] [] [] .d)) .d)))
def law_sameInts_fi : Fi := ⟨26, law_sameInts_c, law_sameInts_r, law_sameInts_an, law_sameInts_hi⟩
theorem law_sameInts_ok : FiOk Try.prog f_law_sameInts law_sameInts_fi :=
  ⟨by kernel_rfl, fun h hlen => fun_sound (fn := Try.f32) (draw_sound _ _) Try.func32 rfl (by kernel_rfl : comp Try.prog 26 _ law_sameInts_c = some law_sameInts_c) (by kernel_rfl : cRes Try.prog Try.f32.results.toList = some law_sameInts_r) hlen h⟩

/-- fustian/fustianlaw.WrapGreedies: slots [0 widths, 1 wide, 2 widths, 3 wide, 5 x, 6 e, 7 y, 8 f] -/
def law_WrapGreedies_c : SCode :=
  (.seq (.ops [⟨(some 4), .mov (.c (.bool false)), none, false⟩] none [0, 1])
  (.seq (.ops [⟨(some 10), .mov (.t 0), none, false⟩,
    ⟨(some 11), .mov (.t 1), none, false⟩,
    ⟨(some 12), .call f_wrap_Greedy [(.t 10), (.t 11)], none, false⟩,
    ⟨(some 9), .mov (.t 12), none, false⟩,
    ⟨(some 13), .extract (.t 9) 0, none, false⟩,
    ⟨(some 14), .extract (.t 9) 1, none, false⟩,
    ⟨(some 5), .mov (.t 13), none, false⟩,
    ⟨(some 6), .mov (.t 14), none, false⟩] none [0, 1, 5, 6])
  (.seq (.ops [⟨(some 16), .mov (.t 0), none, false⟩,
    ⟨(some 17), .mov (.t 1), none, false⟩,
    ⟨(some 18), .call f_ref_WrapGreedy [(.t 16), (.t 17)], none, false⟩,
    ⟨(some 15), .mov (.t 18), none, false⟩,
    ⟨(some 19), .extract (.t 15) 0, none, false⟩,
    ⟨(some 20), .extract (.t 15) 1, none, false⟩,
    ⟨(some 7), .mov (.t 19), none, false⟩,
    ⟨(some 8), .mov (.t 20), none, false⟩] none [5, 6, 7, 8])
  (.seq (.ops [⟨(some 21), .mov (.t 5), none, false⟩,
    ⟨(some 22), .mov (.t 7), none, false⟩,
    ⟨(some 23), .call f_law_sameInts [(.t 21), (.t 22)], none, false⟩,
    ⟨(some 24), .mov (.t 23), none, true⟩,
    ⟨(some 25), .mov (.t 6), (some (24, true)), false⟩,
    ⟨(some 26), .mov (.t 8), (some (24, true)), false⟩,
    ⟨(some 27), .bin .none .eql (.t 25) (.t 26), (some (24, true)), false⟩,
    ⟨(some 28), .pick (.t 24) (.t 27) (.c (.bool false)), none, false⟩,
    ⟨(some 4), .mov (.t 28), none, false⟩] none [4])
  .ret))))
def law_WrapGreedies_r : List RRes := [.tmp 4]
def law_WrapGreedies_hi : Hi := ⟨[], [(0, "widths"), (1, "wide"), (2, "widths"), (3, "wide"), (5, "x"), (6, "e"), (7, "y"), (8, "f")]⟩
def law_WrapGreedies_an : An := .d
def law_WrapGreedies_fi : Fi := ⟨29, law_WrapGreedies_c, law_WrapGreedies_r, law_WrapGreedies_an, law_WrapGreedies_hi⟩
theorem law_WrapGreedies_ok : FiOk Try.prog f_law_WrapGreedies law_WrapGreedies_fi :=
  ⟨by kernel_rfl, fun h hlen => fun_sound (fn := Try.f10) (draw_sound _ _) Try.func10 rfl (by kernel_rfl : comp Try.prog 29 _ law_WrapGreedies_c = some law_WrapGreedies_c) (by kernel_rfl : cRes Try.prog Try.f10.results.toList = some law_WrapGreedies_r) hlen h⟩

/-- slices.ContainsFunc[[]int,int]: slots [0 s, 1 f, 2 s, 3 f] -/
def slices_ContainsFunc___int_int__c : SCode :=
  (.seq (.ops [⟨(some 4), .mov (.c (.bool false)), none, false⟩] none [0, 1])
  (.seq (.ops [⟨(some 5), .mov (.t 0), none, false⟩,
    ⟨(some 6), .mov (.t 1), none, false⟩,
    ⟨(some 7), .call f_slices_IndexFunc___int_int_ [(.t 5), (.t 6)], none, false⟩,
    ⟨(some 8), .bin .none .geq (.t 7) (.c (.int .i64 0)), none, false⟩,
    ⟨(some 4), .mov (.t 8), none, false⟩] none [4])
  .ret))
def slices_ContainsFunc___int_int__r : List RRes := [.tmp 4]
def slices_ContainsFunc___int_int__hi : Hi := ⟨[], [(0, "s"), (1, "f"), (2, "s"), (3, "f")]⟩
def slices_ContainsFunc___int_int__an : An := .d
def slices_ContainsFunc___int_int__fi : Fi := ⟨9, slices_ContainsFunc___int_int__c, slices_ContainsFunc___int_int__r, slices_ContainsFunc___int_int__an, slices_ContainsFunc___int_int__hi⟩
theorem slices_ContainsFunc___int_int__ok : FiOk Try.prog f_slices_ContainsFunc___int_int_ slices_ContainsFunc___int_int__fi :=
  ⟨by kernel_rfl, fun h hlen => fun_sound (fn := Try.f42) (draw_sound _ _) Try.func42 rfl (by kernel_rfl : comp Try.prog 9 _ slices_ContainsFunc___int_int__c = some slices_ContainsFunc___int_int__c) (by kernel_rfl : cRes Try.prog Try.f42.results.toList = some slices_ContainsFunc___int_int__r) hlen h⟩

/-- slices.IndexFunc[[]int,int]: slots [0 s, 1 f, 2 s, 3 f, 5 i] -/
def slices_IndexFunc___int_int__c : SCode :=
  (.seq (.ops [⟨(some 4), .mov (.c (.int .i64 0)), none, false⟩] none [0, 1])
  (.seq (.seq (.ops [⟨(some 6), .mov (.t 0), none, false⟩,
    ⟨(some 7), .len false (.t 6), none, false⟩,
    ⟨(some 8), .mov (.c (.int .i64 0)), none, false⟩] none [0, 1, 7, 8])
  (.block 0 (.loop [0, 1, 7] [8] 0
    (.seq (.ops [⟨(some 9), .bin .none .lss (.t 8) (.t 7), none, false⟩] none [0, 1, 7, 8, 9])
    (.seq (.cond (.t 9)
      .skip
      (.exit 0))
    (.seq (.block 1 (.seq (.ops [⟨(some 10), .mov (.t 8), none, false⟩,
      ⟨(some 5), .mov (.t 10), none, false⟩] none [0, 1, 5, 7, 8])
    (.seq (.ops [⟨(some 11), .mov (.t 1), none, false⟩,
      ⟨(some 12), .mov (.t 0), none, false⟩,
      ⟨(some 13), .mov (.t 5), none, false⟩,
      ⟨(some 14), .iaddr 1 none (.t 12) (.t 13), none, false⟩,
      ⟨(some 15), .load 1 false (.t 14), none, false⟩,
      ⟨(some 16), .callv (.t 11) [(.t 15)], none, false⟩] none [0, 1, 5, 7, 8, 16])
    (.cond (.t 16)
      (.seq (.ops [⟨(some 17), .mov (.t 5), none, false⟩,
        ⟨(some 4), .mov (.t 17), none, false⟩] none [4])
      .ret)
      .skip))))
    (.ops [⟨(some 18), .bin .none .add (.t 8) (.c (.int .i64 1)), none, false⟩,
      ⟨(some 8), .mov (.t 18), none, false⟩] none [0, 1, 7, 8])))))))
  (.seq (.ops [⟨(some 4), .mov (.c (.int .i64 (-1))), none, false⟩] none [4])
  .ret)))
def slices_IndexFunc___int_int__r : List RRes := [.tmp 4]
def slices_IndexFunc___int_int__hi : Hi := ⟨[], [(0, "s"), (1, "f"), (2, "s"), (3, "f"), (5, "i")]⟩
def slices_IndexFunc___int_int__an : An := (.seq .d (.seq (.seq .d (.loop [1] [] [] .d)) .d))
def slices_IndexFunc___int_int__fi : Fi := ⟨19, slices_IndexFunc___int_int__c, slices_IndexFunc___int_int__r, slices_IndexFunc___int_int__an, slices_IndexFunc___int_int__hi⟩
theorem slices_IndexFunc___int_int__ok : FiOk Try.prog f_slices_IndexFunc___int_int_ slices_IndexFunc___int_int__fi :=
  ⟨by kernel_rfl, fun h hlen => fun_sound (fn := Try.f68) (draw_sound _ _) Try.func68 rfl (by kernel_rfl : comp Try.prog 19 _ slices_IndexFunc___int_int__c = some slices_IndexFunc___int_int__c) (by kernel_rfl : cRes Try.prog Try.f68.results.toList = some slices_IndexFunc___int_int__r) hlen h⟩

/-- fustian/wrap.Check$1: slots [0 n, 2 n] -/
def wrap_Check_1_c : SCode :=
  (.seq (.ops [⟨(some 3), .mov (.c (.bool false)), none, false⟩] none [0, 1])
  (.seq (.ops [⟨(some 4), .mov (.t 0), none, false⟩,
    ⟨(some 5), .bin .none .lss (.t 4) (.c (.int .i64 1)), none, false⟩,
    ⟨(some 6), .mov (.t 5), none, true⟩,
    ⟨(some 7), .mov (.t 0), (some (6, false)), false⟩,
    ⟨(some 8), .load 1 false (.t 1), (some (6, false)), false⟩,
    ⟨(some 9), .bin .none .gtr (.t 7) (.t 8), (some (6, false)), false⟩,
    ⟨(some 10), .pick (.t 6) (.c (.bool true)) (.t 9), none, false⟩,
    ⟨(some 3), .mov (.t 10), none, false⟩] none [3])
  .ret))
def wrap_Check_1_r : List RRes := [.tmp 3]
def wrap_Check_1_hi : Hi := ⟨[], [(0, "n"), (2, "n")]⟩
def wrap_Check_1_an : An := .d
def wrap_Check_1_fi : Fi := ⟨11, wrap_Check_1_c, wrap_Check_1_r, wrap_Check_1_an, wrap_Check_1_hi⟩
theorem wrap_Check_1_ok : FiOk Try.prog f_wrap_Check_1 wrap_Check_1_fi :=
  ⟨by kernel_rfl, fun h hlen => fun_sound (fn := Try.f43) (draw_sound _ _) Try.func43 rfl (by kernel_rfl : comp Try.prog 11 _ wrap_Check_1_c = some wrap_Check_1_c) (by kernel_rfl : cRes Try.prog Try.f43.results.toList = some wrap_Check_1_r) hlen h⟩

end Go.Proofs.Ytcgggoaefceokaa
