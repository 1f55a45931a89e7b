/- The functions' simplified code, printed by a program of the claim's author; each is checked against the program's own code. Conditions: none. -/
import Derived.Test.YtcgggoaefceokaaProg
import Derived.Test.YtcgggoaefceokaaVyM
set_option linter.unusedVariables false
set_option maxRecDepth 100000
namespace Go.Proofs.Ytcgggoaefceokaa
open Go.Vc
abbrev f_gosem_cut_init : Nat := 2
abbrev f_law_WrapChecks : Nat := 3
abbrev f_law_PosFinds : Nat := 4
abbrev f_law_DiffPatches : Nat := 5
abbrev f_law_EditApplies : Nat := 6
abbrev f_law_LinesLines : Nat := 7
abbrev f_law_SpansWidens : Nat := 8
abbrev f_law_EditInverts : Nat := 9
abbrev f_law_WrapGreedies : Nat := 10
abbrev f_law_SchedPlays : Nat := 11
abbrev f_law_EditOvers : Nat := 12
abbrev f_law_FindAlls : Nat := 13
abbrev f_law_WrapBests : Nat := 14
abbrev f_wrap_Check : Nat := 15
abbrev f_ref_WrapFault : Nat := 16
abbrev f_pos_Find : Nat := 17
abbrev f_ref_PosFind : Nat := 18
abbrev f_diff_Patch : Nat := 19
abbrev f_ref_DiffPatch : Nat := 20
abbrev f_law_sameTexts : Nat := 21
abbrev f_edit_Apply : Nat := 22
abbrev f_ref_EditApply : Nat := 23
abbrev f_lines_Line : Nat := 24
abbrev f_ref_LinesLine : Nat := 25
abbrev f_spans_Widen : Nat := 26
abbrev f_ref_SpansWiden : Nat := 27
abbrev f_edit_Invert : Nat := 28
abbrev f_ref_EditInvert : Nat := 29
abbrev f_wrap_Greedy : Nat := 30
abbrev f_ref_WrapGreedy : Nat := 31
abbrev f_law_sameInts : Nat := 32
abbrev f_sched_Play : Nat := 33
abbrev f_ref_SchedPlayed : Nat := 34
abbrev f_edit_Over : Nat := 35
abbrev f_ref_EditOver : Nat := 36
abbrev f_find_All : Nat := 37
abbrev f_ref_FindAll : Nat := 38
abbrev f_wrap_Best : Nat := 39
abbrev f_ref_WrapCost : Nat := 40
abbrev f_ref_WrapLeast : Nat := 41
abbrev f_slices_ContainsFunc___int_int_ : Nat := 42
abbrev f_wrap_Check_1 : Nat := 43
abbrev f_strings_IndexByte : Nat := 44
abbrev f_ref_PosOf : Nat := 45
abbrev f_edit_run : Nat := 46
abbrev f_ref_EditApplied : Nat := 47
abbrev f_lines_may : Nat := 48
abbrev f_sort_Search : Nat := 49
abbrev f_lines_Line_1 : Nat := 50
abbrev f_ref_startsMay : Nat := 51
abbrev f_spans_Widened : Nat := 52
abbrev f_slices_Reverse___api_Edit_api_Edit_ : Nat := 53
abbrev f_ref_lineWide : Nat := 54
abbrev f___sched_ring__push : Nat := 55
abbrev f___sched_ring__turn : Nat := 56
abbrev f_edit_Check : Nat := 57
abbrev f_edit_clash : Nat := 58
abbrev f_edit_Moved : Nat := 59
abbrev f_ref_EditFault : Nat := 60
abbrev f_ref_EditOver_1 : Nat := 61
abbrev f_ref_EditOver_2 : Nat := 62
abbrev f_ref_editPlace : Nat := 63
abbrev f_find_fault : Nat := 64
abbrev f_find_In : Nat := 65
abbrev f_ref_findFault : Nat := 66
abbrev f_ref_standsAt : Nat := 67
abbrev f_slices_IndexFunc___int_int_ : Nat := 68
abbrev f_internal_stringslite_IndexByte : Nat := 69
abbrev f_edit_Undo : Nat := 70
abbrev f_edit_Made : Nat := 71
abbrev f_ref_editMade : Nat := 72
abbrev f_strings_LastIndexByte : Nat := 73
abbrev f_edit_nothing : Nat := 74
abbrev f_edit_within : Nat := 75
abbrev f_find_border : Nat := 76
abbrev f_internal_bytealg_LastIndexByteString : Nat := 78

/-- fustian/diff.Patch: slots [0 a, 1 l, 2 news, 3 a, 4 l, 5 news, 8 out, 9 _, 10 s, 11 from] -/
def diff_Patch_c : SCode :=
  (.seq (.ops [⟨(some 3), .box 0 (.t 0), none, false⟩,
    ⟨(some 5), .box 0 (.t 2), none, false⟩,
    ⟨(some 6), .mov (.c .nils), none, false⟩,
    ⟨(some 7), .mov (.c (.int .i64 0)), none, false⟩] none [1, 3, 5])
  (.seq (.seq (.ops [⟨(some 12), .mov (.t 1), none, false⟩,
    ⟨(some 13), .len false (.t 12), none, false⟩,
    ⟨(some 14), .bin .none .gtr (.t 13) (.c (.int .i64 200)), none, false⟩,
    ⟨(some 15), .mov (.t 14), none, true⟩,
    ⟨(some 16), .load 1 false (.t 3), (some (15, false)), false⟩,
    ⟨(some 17), .len false (.t 16), (some (15, false)), false⟩,
    ⟨(some 18), .bin .none .gtr (.t 17) (.c (.int .i64 80)), (some (15, false)), false⟩,
    ⟨(some 19), .pick (.t 15) (.c (.bool true)) (.t 18), none, false⟩,
    ⟨(some 20), .mov (.t 19), none, true⟩,
    ⟨(some 21), .load 1 false (.t 5), (some (20, false)), false⟩,
    ⟨(some 22), .len false (.t 21), (some (20, false)), false⟩,
    ⟨(some 23), .bin .none .gtr (.t 22) (.c (.int .i64 80)), (some (20, false)), false⟩,
    ⟨(some 24), .pick (.t 20) (.c (.bool true)) (.t 23), none, false⟩] none [1, 3, 5, 24])
  (.cond (.t 24)
    (.seq (.ops [⟨(some 6), .mov (.c .nils), none, false⟩,
      ⟨(some 7), .mov (.c (.int .i64 1)), none, false⟩] none [6, 7])
    .ret)
    .skip))
  (.seq (.ops [⟨(some 8), .newnil 1, none, false⟩] none [1, 3, 5, 8])
  (.seq (.seq (.ops [⟨(some 25), .mov (.t 1), none, false⟩,
    ⟨(some 26), .len false (.t 25), none, false⟩,
    ⟨(some 27), .mov (.c (.int .i64 0)), none, false⟩] none [3, 5, 8, 25, 26, 27])
  (.block 0 (.loop [3, 5, 25, 26] [8, 27] 3
    (.seq (.ops [⟨(some 28), .bin .none .lss (.t 27) (.t 26), none, false⟩] none [3, 5, 8, 25, 26, 27, 28])
    (.seq (.cond (.t 28)
      .skip
      (.exit 0))
    (.seq (.block 1 (.seq (.ops [⟨(some 29), .iaddr 2 none (.t 25) (.t 27), none, false⟩,
      ⟨(some 30), .load 2 true (.t 29), none, false⟩,
      ⟨(some 10), .alloc 0 [(.int .i64 0), (.int .i64 0)], none, false⟩,
      ⟨none, .store 2 (.t 10) (.t 30), none, false⟩] none [3, 5, 8, 10, 25, 26, 27])
    (.seq (.ops [⟨(some 11), .mov (.t 3), none, false⟩] none [3, 5, 8, 10, 11, 25, 26, 27])
    (.join [3, 5, 8, 10, 25, 26, 27] [11] 4 (.block 2 (.seq (.ops [⟨(some 32), .faddr 0 (.t 10), none, false⟩,
        ⟨(some 33), .load 1 false (.t 32), none, false⟩,
        ⟨(some 34), .bin .none .lss (.t 33) (.c (.int .i64 1)), none, false⟩,
        ⟨(some 35), .mov (.t 34), none, true⟩,
        ⟨(some 36), .faddr 0 (.t 10), (some (35, false)), false⟩,
        ⟨(some 37), .load 1 false (.t 36), (some (35, false)), false⟩,
        ⟨(some 38), .bin .none .gtr (.t 37) (.c (.int .i64 3)), (some (35, false)), false⟩,
        ⟨(some 39), .pick (.t 35) (.c (.bool true)) (.t 38), none, false⟩,
        ⟨(some 31), .mov (.t 39), none, false⟩] none [3, 5, 8, 10, 11, 25, 26, 27, 31])
      (.cond (.t 31)
        (.seq (.ops [⟨(some 6), .mov (.c .nils), none, false⟩,
          ⟨(some 7), .mov (.c (.int .i64 3)), none, false⟩] none [6, 7])
        .ret)
        (.seq (.ops [⟨(some 41), .faddr 1 (.t 10), none, false⟩,
          ⟨(some 42), .load 1 false (.t 41), none, false⟩,
          ⟨(some 43), .bin .none .lss (.t 42) (.c (.int .i64 1)), none, false⟩,
          ⟨(some 44), .mov (.t 43), none, true⟩,
          ⟨(some 45), .faddr 1 (.t 10), (some (44, false)), false⟩,
          ⟨(some 46), .load 1 false (.t 45), (some (44, false)), false⟩,
          ⟨(some 47), .bin .none .gtr (.t 46) (.c (.int .i64 200)), (some (44, false)), false⟩,
          ⟨(some 48), .pick (.t 44) (.c (.bool true)) (.t 47), none, false⟩,
          ⟨(some 40), .mov (.t 48), none, false⟩] none [3, 5, 8, 10, 11, 25, 26, 27, 40])
        (.cond (.t 40)
          (.seq (.ops [⟨(some 6), .mov (.c .nils), none, false⟩,
            ⟨(some 7), .mov (.c (.int .i64 2)), none, false⟩] none [6, 7])
          .ret)
          (.seq (.ops [⟨(some 50), .faddr 0 (.t 10), none, false⟩,
            ⟨(some 51), .load 1 false (.t 50), none, false⟩,
            ⟨(some 52), .bin .none .eql (.t 51) (.c (.int .i64 3)), none, false⟩,
            ⟨(some 49), .mov (.t 52), none, false⟩] none [3, 5, 8, 10, 11, 25, 26, 27, 49])
          (.cond (.t 49)
            (.ops [⟨(some 11), .mov (.t 5), none, false⟩] none [3, 5, 8, 10, 11, 25, 26, 27])
            .skip)))))))
    (.seq (.seq (.ops [⟨(some 53), .faddr 1 (.t 10), none, false⟩,
      ⟨(some 54), .load 1 false (.t 53), none, false⟩,
      ⟨(some 55), .mov (.t 11), none, false⟩,
      ⟨(some 56), .nilchk (.t 55), none, false⟩,
      ⟨(some 57), .load 1 false (.t 56), none, false⟩,
      ⟨(some 58), .len false (.t 57), none, false⟩,
      ⟨(some 59), .bin .none .gtr (.t 54) (.t 58), none, false⟩] (some (0, 0, [0, 1, 2, 3, 4, 5, 6])) [3, 5, 8, 10, 11, 25, 26, 27, 59])
    (.cond (.t 59)
      (.seq (.ops [⟨(some 6), .mov (.c .nils), none, false⟩,
        ⟨(some 7), .mov (.c (.int .i64 5)), none, false⟩] none [6, 7])
      .ret)
      .skip))
    (.join [3, 5, 10, 11, 25, 26, 27] [8] 4 (.seq (.ops [⟨(some 60), .faddr 0 (.t 10), none, false⟩,
        ⟨(some 61), .load 1 false (.t 60), none, false⟩,
        ⟨(some 62), .bin .none .neq (.t 61) (.c (.int .i64 2)), none, false⟩] none [3, 5, 8, 10, 11, 25, 26, 27, 62])
      (.cond (.t 62)
        (.ops [⟨(some 63), .mov (.t 8), none, false⟩,
          ⟨(some 64), .mov (.t 11), none, false⟩,
          ⟨(some 65), .nilchk (.t 64), none, false⟩,
          ⟨(some 66), .load 1 false (.t 65), none, false⟩,
          ⟨(some 67), .faddr 1 (.t 10), none, false⟩,
          ⟨(some 68), .load 1 false (.t 67), none, false⟩,
          ⟨(some 69), .slice 1 (.t 66) none (some (.t 68)), none, false⟩,
          ⟨(some 70), .append 1 16 (.t 63) (.t 69), none, false⟩,
          ⟨(some 8), .mov (.t 70), none, false⟩] (some (0, 0, [0, 1, 2, 3, 4, 5, 6, 7, 8])) [3, 5, 8, 10, 11, 25, 26, 27])
        .skip))
    (.ops [⟨(some 71), .mov (.t 11), none, false⟩,
      ⟨(some 72), .mov (.t 11), none, false⟩,
      ⟨(some 73), .nilchk (.t 72), none, false⟩,
      ⟨(some 74), .load 1 false (.t 73), none, false⟩,
      ⟨(some 75), .faddr 1 (.t 10), none, false⟩,
      ⟨(some 76), .load 1 false (.t 75), none, false⟩,
      ⟨(some 77), .slice 1 (.t 74) (some (.t 76)) none, none, false⟩,
      ⟨(some 78), .nilchk (.t 71), none, false⟩,
      ⟨none, .store 1 (.t 78) (.t 77), none, false⟩] (some (0, 0, [0, 1, 2, 3, 4, 5, 6, 7, 8])) [3, 5, 8, 25, 26, 27])))))))
    (.ops [⟨(some 79), .bin .none .add (.t 27) (.c (.int .i64 1)), none, false⟩,
      ⟨(some 27), .mov (.t 79), none, false⟩] none [3, 5, 8, 25, 26, 27])))))))
  (.seq (.seq (.ops [⟨(some 80), .load 1 false (.t 3), none, false⟩,
    ⟨(some 81), .len false (.t 80), none, false⟩,
    ⟨(some 82), .bin .none .gtr (.t 81) (.c (.int .i64 0)), none, false⟩,
    ⟨(some 83), .mov (.t 82), none, true⟩,
    ⟨(some 84), .load 1 false (.t 5), (some (83, false)), false⟩,
    ⟨(some 85), .len false (.t 84), (some (83, false)), false⟩,
    ⟨(some 86), .bin .none .gtr (.t 85) (.c (.int .i64 0)), (some (83, false)), false⟩,
    ⟨(some 87), .pick (.t 83) (.c (.bool true)) (.t 86), none, false⟩] none [8, 87])
  (.cond (.t 87)
    (.seq (.ops [⟨(some 6), .mov (.c .nils), none, false⟩,
      ⟨(some 7), .mov (.c (.int .i64 4)), none, false⟩] none [6, 7])
    .ret)
    .skip))
  (.seq (.ops [⟨(some 88), .mov (.t 8), none, false⟩,
    ⟨(some 6), .mov (.t 88), none, false⟩,
    ⟨(some 7), .mov (.c (.int .i64 0)), none, false⟩] none [6, 7])
  .ret))))))
def diff_Patch_r : List RRes := [.tmp 6, .tmp 7]
def diff_Patch_hi : Hi := ⟨[(8, .str), (70, .str)], [(0, "a"), (1, "l"), (2, "news"), (3, "a"), (4, "l"), (5, "news"), (8, "out"), (10, "s"), (11, "from")]⟩
def diff_Patch_an : An := (.seq .d (.seq .d (.seq .d (.seq (.seq .d (.loop [8, 5, 3] [] [] .d)) .d))))
def diff_Patch_fi : Fi := ⟨89, diff_Patch_c, diff_Patch_r, diff_Patch_an, diff_Patch_hi⟩
theorem diff_Patch_ok : FiOk Try.prog f_diff_Patch diff_Patch_fi :=
  ⟨by kernel_rfl, fun h hlen => fun_sound (fn := Try.f19) (draw_sound _ _) Try.func19 rfl (by kernel_rfl : comp Try.prog 89 _ diff_Patch_c = some diff_Patch_c) (by kernel_rfl : cRes Try.prog Try.f19.results.toList = some diff_Patch_r) hlen h⟩

/-- fustian/fustianref.DiffPatch: slots [0 a, 1 l, 2 news, 3 a, 4 l, 5 news, 8 i, 9 k, 10 out, 11 _, 12 s, 13 n] -/
def ref_DiffPatch_c : SCode :=
  (.seq (.ops [⟨(some 6), .mov (.c .nils), none, false⟩,
    ⟨(some 7), .mov (.c (.int .i64 0)), none, false⟩] none [0, 1, 2])
  (.seq (.seq (.ops [⟨(some 14), .mov (.t 1), none, false⟩,
    ⟨(some 15), .len false (.t 14), none, false⟩,
    ⟨(some 16), .bin .none .gtr (.t 15) (.c (.int .i64 200)), none, false⟩,
    ⟨(some 17), .mov (.t 16), none, true⟩,
    ⟨(some 18), .mov (.t 0), (some (17, false)), false⟩,
    ⟨(some 19), .len false (.t 18), (some (17, false)), false⟩,
    ⟨(some 20), .bin .none .gtr (.t 19) (.c (.int .i64 80)), (some (17, false)), false⟩,
    ⟨(some 21), .pick (.t 17) (.c (.bool true)) (.t 20), none, false⟩,
    ⟨(some 22), .mov (.t 21), none, true⟩,
    ⟨(some 23), .mov (.t 2), (some (22, false)), false⟩,
    ⟨(some 24), .len false (.t 23), (some (22, false)), false⟩,
    ⟨(some 25), .bin .none .gtr (.t 24) (.c (.int .i64 80)), (some (22, false)), false⟩,
    ⟨(some 26), .pick (.t 22) (.c (.bool true)) (.t 25), none, false⟩] none [0, 1, 2, 26])
  (.cond (.t 26)
    (.seq (.ops [⟨(some 6), .mov (.c .nils), none, false⟩,
      ⟨(some 7), .mov (.c (.int .i64 1)), none, false⟩] none [6, 7])
    .ret)
    .skip))
  (.seq (.ops [⟨(some 8), .mov (.c (.int .i64 0)), none, false⟩] none [0, 1, 2, 8])
  (.seq (.ops [⟨(some 9), .mov (.c (.int .i64 0)), none, false⟩] none [0, 1, 2, 8, 9])
  (.seq (.ops [⟨(some 10), .newnil 1, none, false⟩] none [0, 1, 2, 8, 9, 10])
  (.seq (.seq (.ops [⟨(some 27), .mov (.t 1), none, false⟩,
    ⟨(some 28), .len false (.t 27), none, false⟩,
    ⟨(some 29), .mov (.c (.int .i64 0)), none, false⟩] none [0, 2, 8, 9, 10, 27, 28, 29])
  (.block 0 (.loop [0, 2, 27, 28] [8, 9, 10, 29] 1
    (.seq (.ops [⟨(some 30), .bin .none .lss (.t 29) (.t 28), none, false⟩] none [0, 2, 8, 9, 10, 27, 28, 29, 30])
    (.seq (.cond (.t 30)
      .skip
      (.exit 0))
    (.seq (.block 1 (.seq (.ops [⟨(some 31), .iaddr 2 none (.t 27) (.t 29), none, false⟩,
      ⟨(some 32), .load 2 true (.t 31), none, false⟩,
      ⟨(some 12), .alloc 0 [(.int .i64 0), (.int .i64 0)], none, false⟩,
      ⟨none, .store 2 (.t 12) (.t 32), none, false⟩] none [0, 2, 8, 9, 10, 12, 27, 28, 29])
    (.seq (.seq (.ops [⟨(some 33), .faddr 0 (.t 12), none, false⟩,
      ⟨(some 34), .load 1 false (.t 33), none, false⟩,
      ⟨(some 35), .bin .none .neq (.t 34) (.c (.int .i64 1)), none, false⟩,
      ⟨(some 36), .mov (.t 35), none, true⟩,
      ⟨(some 37), .faddr 0 (.t 12), (some (36, true)), false⟩,
      ⟨(some 38), .load 1 false (.t 37), (some (36, true)), false⟩,
      ⟨(some 39), .bin .none .neq (.t 38) (.c (.int .i64 2)), (some (36, true)), false⟩,
      ⟨(some 40), .pick (.t 36) (.t 39) (.c (.bool false)), none, false⟩,
      ⟨(some 41), .mov (.t 40), none, true⟩,
      ⟨(some 42), .faddr 0 (.t 12), (some (41, true)), false⟩,
      ⟨(some 43), .load 1 false (.t 42), (some (41, true)), false⟩,
      ⟨(some 44), .bin .none .neq (.t 43) (.c (.int .i64 3)), (some (41, true)), false⟩,
      ⟨(some 45), .pick (.t 41) (.t 44) (.c (.bool false)), none, false⟩] none [0, 2, 8, 9, 10, 12, 27, 28, 29, 45])
    (.cond (.t 45)
      (.seq (.ops [⟨(some 6), .mov (.c .nils), none, false⟩,
        ⟨(some 7), .mov (.c (.int .i64 3)), none, false⟩] none [6, 7])
      .ret)
      .skip))
    (.seq (.seq (.ops [⟨(some 46), .faddr 1 (.t 12), none, false⟩,
      ⟨(some 47), .load 1 false (.t 46), none, false⟩,
      ⟨(some 48), .bin .none .lss (.t 47) (.c (.int .i64 1)), none, false⟩,
      ⟨(some 49), .mov (.t 48), none, true⟩,
      ⟨(some 50), .faddr 1 (.t 12), (some (49, false)), false⟩,
      ⟨(some 51), .load 1 false (.t 50), (some (49, false)), false⟩,
      ⟨(some 52), .bin .none .gtr (.t 51) (.c (.int .i64 200)), (some (49, false)), false⟩,
      ⟨(some 53), .pick (.t 49) (.c (.bool true)) (.t 52), none, false⟩] none [0, 2, 8, 9, 10, 12, 27, 28, 29, 53])
    (.cond (.t 53)
      (.seq (.ops [⟨(some 6), .mov (.c .nils), none, false⟩,
        ⟨(some 7), .mov (.c (.int .i64 2)), none, false⟩] none [6, 7])
      .ret)
      .skip))
    (.seq (.ops [⟨(some 13), .mov (.c (.int .i64 0)), none, false⟩] none [0, 2, 8, 9, 10, 12, 13, 27, 28, 29])
    (.block 2 (.loop [0, 2, 12, 27, 28, 29] [8, 9, 10, 13] 2
      (.seq (.seq (.ops [⟨(some 54), .mov (.t 13), none, false⟩,
        ⟨(some 55), .faddr 1 (.t 12), none, false⟩,
        ⟨(some 56), .load 1 false (.t 55), none, false⟩,
        ⟨(some 57), .bin .none .lss (.t 54) (.t 56), none, false⟩] none [0, 2, 8, 9, 10, 12, 13, 27, 28, 29, 57])
      (.cond (.t 57)
        .skip
        (.exit 2)))
      (.join [0, 2, 12, 13, 27, 28, 29] [8, 9, 10] 2 (.block 3 (.seq (.seq (.ops [⟨(some 60), .faddr 0 (.t 12), none, false⟩,
          ⟨(some 61), .load 1 false (.t 60), none, false⟩,
          ⟨(some 62), .bin .none .eql (.t 61) (.c (.int .i64 3)), none, false⟩,
          ⟨(some 63), .mov (.t 62), none, true⟩,
          ⟨(some 64), .mov (.t 9), (some (63, true)), false⟩,
          ⟨(some 65), .mov (.t 2), (some (63, true)), false⟩,
          ⟨(some 66), .len false (.t 65), (some (63, true)), false⟩,
          ⟨(some 67), .bin .none .eql (.t 64) (.t 66), (some (63, true)), false⟩,
          ⟨(some 68), .pick (.t 63) (.t 67) (.c (.bool false)), none, false⟩,
          ⟨(some 69), .mov (.t 68), none, true⟩,
          ⟨(some 70), .faddr 0 (.t 12), (some (69, false)), false⟩,
          ⟨(some 71), .load 1 false (.t 70), (some (69, false)), false⟩,
          ⟨(some 72), .bin .none .neq (.t 71) (.c (.int .i64 3)), (some (69, false)), false⟩,
          ⟨(some 73), .mov (.t 72), (some (69, false)), true⟩,
          ⟨(some 74), .mov (.t 8), (some (73, true)), false⟩,
          ⟨(some 75), .mov (.t 0), (some (73, true)), false⟩,
          ⟨(some 76), .len false (.t 75), (some (73, true)), false⟩,
          ⟨(some 77), .bin .none .eql (.t 74) (.t 76), (some (73, true)), false⟩,
          ⟨(some 78), .pick (.t 73) (.t 77) (.c (.bool false)), (some (69, false)), false⟩,
          ⟨(some 79), .pick (.t 69) (.c (.bool true)) (.t 78), none, false⟩] none [0, 2, 8, 9, 10, 12, 13, 27, 28, 29, 79])
        (.cond (.t 79)
          (.seq (.ops [⟨(some 6), .mov (.c .nils), none, false⟩,
            ⟨(some 7), .mov (.c (.int .i64 5)), none, false⟩] none [6, 7])
          .ret)
          .skip))
        (.seq (.ops [⟨(some 80), .faddr 0 (.t 12), none, false⟩,
          ⟨(some 81), .load 1 false (.t 80), none, false⟩] none [0, 2, 8, 9, 10, 12, 13, 27, 28, 29, 81])
        (.block 4 (.seq (.ops [⟨(some 92), .bin .none .eql (.t 81) (.c (.int .i64 1)), none, false⟩,
          ⟨(some 91), .mov (.t 92), none, false⟩] none [0, 2, 8, 9, 10, 12, 13, 27, 28, 29, 81, 91])
        (.cond (.t 91)
          (.seq (.ops [⟨(some 93), .mov (.t 10), none, false⟩,
            ⟨(some 94), .mov (.t 0), none, false⟩,
            ⟨(some 95), .mov (.t 8), none, false⟩,
            ⟨(some 96), .iaddr 1 none (.t 94) (.t 95), none, false⟩,
            ⟨(some 97), .load 1 false (.t 96), none, false⟩,
            ⟨(some 98), .bslice true 1 1 [(.str [])] [(0, 1, (.t 97))], none, false⟩,
            ⟨(some 99), .append 1 16 (.t 93) (.t 98), none, false⟩,
            ⟨(some 10), .mov (.t 99), none, false⟩] none [0, 2, 8, 9, 10, 12, 13, 27, 28, 29])
          (.ops [⟨(some 100), .mov (.t 8), none, false⟩,
            ⟨(some 101), .bin .none .add (.t 100) (.c (.int .i64 1)), none, false⟩,
            ⟨(some 8), .mov (.t 101), none, false⟩] none [0, 2, 8, 9, 10, 12, 13, 27, 28, 29]))
          (.seq (.ops [⟨(some 103), .bin .none .eql (.t 81) (.c (.int .i64 2)), none, false⟩,
            ⟨(some 102), .mov (.t 103), none, false⟩] none [0, 2, 8, 9, 10, 12, 13, 27, 28, 29, 102])
          (.cond (.t 102)
            (.ops [⟨(some 104), .mov (.t 8), none, false⟩,
              ⟨(some 105), .bin .none .add (.t 104) (.c (.int .i64 1)), none, false⟩,
              ⟨(some 8), .mov (.t 105), none, false⟩] none [0, 2, 8, 9, 10, 12, 13, 27, 28, 29])
            (.seq (.ops [⟨(some 82), .mov (.t 10), none, false⟩,
              ⟨(some 83), .mov (.t 2), none, false⟩,
              ⟨(some 84), .mov (.t 9), none, false⟩,
              ⟨(some 85), .iaddr 1 none (.t 83) (.t 84), none, false⟩,
              ⟨(some 86), .load 1 false (.t 85), none, false⟩,
              ⟨(some 87), .bslice true 1 1 [(.str [])] [(0, 1, (.t 86))], none, false⟩,
              ⟨(some 88), .append 1 16 (.t 82) (.t 87), none, false⟩,
              ⟨(some 10), .mov (.t 88), none, false⟩] none [0, 2, 8, 9, 10, 12, 13, 27, 28, 29])
            (.ops [⟨(some 89), .mov (.t 9), none, false⟩,
              ⟨(some 90), .bin .none .add (.t 89) (.c (.int .i64 1)), none, false⟩,
              ⟨(some 9), .mov (.t 90), none, false⟩] none [0, 2, 8, 9, 10, 12, 13, 27, 28, 29]))))))))))
      (.ops [⟨(some 58), .mov (.t 13), none, false⟩,
        ⟨(some 59), .bin .none .add (.t 58) (.c (.int .i64 1)), none, false⟩,
        ⟨(some 13), .mov (.t 59), none, false⟩] none [0, 2, 8, 9, 10, 12, 13, 27, 28, 29]))))))))))
    (.ops [⟨(some 106), .bin .none .add (.t 29) (.c (.int .i64 1)), none, false⟩,
      ⟨(some 29), .mov (.t 106), none, false⟩] none [0, 2, 8, 9, 10, 27, 28, 29])))))))
  (.seq (.seq (.ops [⟨(some 107), .mov (.t 8), none, false⟩,
    ⟨(some 108), .mov (.t 0), none, false⟩,
    ⟨(some 109), .len false (.t 108), none, false⟩,
    ⟨(some 110), .bin .none .lss (.t 107) (.t 109), none, false⟩,
    ⟨(some 111), .mov (.t 110), none, true⟩,
    ⟨(some 112), .mov (.t 9), (some (111, false)), false⟩,
    ⟨(some 113), .mov (.t 2), (some (111, false)), false⟩,
    ⟨(some 114), .len false (.t 113), (some (111, false)), false⟩,
    ⟨(some 115), .bin .none .lss (.t 112) (.t 114), (some (111, false)), false⟩,
    ⟨(some 116), .pick (.t 111) (.c (.bool true)) (.t 115), none, false⟩] none [10, 116])
  (.cond (.t 116)
    (.seq (.ops [⟨(some 6), .mov (.c .nils), none, false⟩,
      ⟨(some 7), .mov (.c (.int .i64 4)), none, false⟩] none [6, 7])
    .ret)
    .skip))
  (.seq (.ops [⟨(some 117), .mov (.t 10), none, false⟩,
    ⟨(some 6), .mov (.t 117), none, false⟩,
    ⟨(some 7), .mov (.c (.int .i64 0)), none, false⟩] none [6, 7])
  .ret))))))))
def ref_DiffPatch_r : List RRes := [.tmp 6, .tmp 7]
def ref_DiffPatch_hi : Hi := ⟨[(10, .str), (98, .str), (99, .str), (87, .str), (88, .str)], [(0, "a"), (1, "l"), (2, "news"), (3, "a"), (4, "l"), (5, "news"), (8, "i"), (9, "k"), (10, "out"), (12, "s"), (13, "n")]⟩
def ref_DiffPatch_an : An := (.seq .d (.seq .d (.seq .d (.seq .d (.seq .d (.seq (.seq .d (.loop [10] [] [] (.seq .d (.seq .d (.seq (.seq .d (.seq .d (.seq .d (.seq .d (.loop [10] [] [] .d))))) .d))))) .d))))))
def ref_DiffPatch_fi : Fi := ⟨118, ref_DiffPatch_c, ref_DiffPatch_r, ref_DiffPatch_an, ref_DiffPatch_hi⟩
theorem ref_DiffPatch_ok : FiOk Try.prog f_ref_DiffPatch ref_DiffPatch_fi :=
  ⟨by kernel_rfl, fun h hlen => fun_sound (fn := Try.f20) (draw_sound _ _) Try.func20 rfl (by kernel_rfl : comp Try.prog 118 _ ref_DiffPatch_c = some ref_DiffPatch_c) (by kernel_rfl : cRes Try.prog Try.f20.results.toList = some ref_DiffPatch_r) hlen h⟩

/-- fustian/fustianlaw.sameTexts: slots [0 a, 1 b, 2 a, 3 b, 5 i] -/
def law_sameTexts_c : SCode :=
  (.seq (.ops [⟨(some 4), .mov (.c (.bool false)), none, false⟩] none [0, 1])
  (.seq (.seq (.ops [⟨(some 6), .mov (.t 0), none, false⟩,
    ⟨(some 7), .len false (.t 6), none, false⟩,
    ⟨(some 8), .mov (.t 1), none, false⟩,
    ⟨(some 9), .len false (.t 8), none, false⟩,
    ⟨(some 10), .bin .none .neq (.t 7) (.t 9), none, false⟩] none [0, 1, 10])
  (.cond (.t 10)
    (.seq (.ops [⟨(some 4), .mov (.c (.bool false)), none, false⟩] none [4])
    .ret)
    .skip))
  (.seq (.seq (.ops [⟨(some 5), .mov (.c (.int .i64 0)), none, false⟩] none [0, 1, 5])
  (.block 0 (.loop [0, 1] [5] 0
    (.seq (.seq (.ops [⟨(some 11), .mov (.t 5), none, false⟩,
      ⟨(some 12), .mov (.t 0), none, false⟩,
      ⟨(some 13), .len false (.t 12), none, false⟩,
      ⟨(some 14), .bin .none .lss (.t 11) (.t 13), none, false⟩] none [0, 1, 5, 14])
    (.cond (.t 14)
      .skip
      (.exit 0)))
    (.seq (.block 1 (.seq (.ops [⟨(some 17), .mov (.t 0), none, false⟩,
      ⟨(some 18), .mov (.t 5), none, false⟩,
      ⟨(some 19), .iaddr 1 none (.t 17) (.t 18), none, false⟩,
      ⟨(some 20), .load 1 false (.t 19), none, false⟩,
      ⟨(some 21), .mov (.t 1), none, false⟩,
      ⟨(some 22), .mov (.t 5), none, false⟩,
      ⟨(some 23), .iaddr 1 none (.t 21) (.t 22), none, false⟩,
      ⟨(some 24), .load 1 false (.t 23), none, false⟩,
      ⟨(some 25), .bin .none .neq (.t 20) (.t 24), none, false⟩] (some (0, 0, [0, 1, 2, 3, 4, 5, 6, 7, 8])) [0, 1, 5, 25])
    (.cond (.t 25)
      (.seq (.ops [⟨(some 4), .mov (.c (.bool false)), none, false⟩] none [4])
      .ret)
      .skip)))
    (.ops [⟨(some 15), .mov (.t 5), none, false⟩,
      ⟨(some 16), .bin .none .add (.t 15) (.c (.int .i64 1)), none, false⟩,
      ⟨(some 5), .mov (.t 16), none, false⟩] none [0, 1, 5]))))))
  (.seq (.ops [⟨(some 4), .mov (.c (.bool true)), none, false⟩] none [4])
  .ret))))
def law_sameTexts_r : List RRes := [.tmp 4]
def law_sameTexts_hi : Hi := ⟨[], [(0, "a"), (1, "b"), (2, "a"), (3, "b"), (5, "i")]⟩
def law_sameTexts_an : An := (.seq .d (.seq .d (.seq (.seq .d (.loop [] [] [] .d)) .d)))
def law_sameTexts_fi : Fi := ⟨26, law_sameTexts_c, law_sameTexts_r, law_sameTexts_an, law_sameTexts_hi⟩
theorem law_sameTexts_ok : FiOk Try.prog f_law_sameTexts law_sameTexts_fi :=
  ⟨by kernel_rfl, fun h hlen => fun_sound (fn := Try.f21) (draw_sound _ _) Try.func21 rfl (by kernel_rfl : comp Try.prog 26 _ law_sameTexts_c = some law_sameTexts_c) (by kernel_rfl : cRes Try.prog Try.f21.results.toList = some law_sameTexts_r) hlen h⟩

/-- fustian/fustianlaw.DiffPatches: slots [0 a, 1 l, 2 news, 3 a, 4 l, 5 news, 7 x, 8 e, 9 y, 10 f] -/
def law_DiffPatches_c : SCode :=
  (.seq (.ops [⟨(some 6), .mov (.c (.bool false)), none, false⟩] none [0, 1, 2])
  (.seq (.ops [⟨(some 12), .mov (.t 0), none, false⟩,
    ⟨(some 13), .mov (.t 1), none, false⟩,
    ⟨(some 14), .mov (.t 2), none, false⟩,
    ⟨(some 15), .call f_diff_Patch [(.t 12), (.t 13), (.t 14)], none, false⟩,
    ⟨(some 11), .mov (.t 15), none, false⟩,
    ⟨(some 16), .extract (.t 11) 0, none, false⟩,
    ⟨(some 17), .extract (.t 11) 1, none, false⟩,
    ⟨(some 7), .mov (.t 16), none, false⟩,
    ⟨(some 8), .mov (.t 17), none, false⟩] none [0, 1, 2, 7, 8])
  (.seq (.ops [⟨(some 19), .mov (.t 0), none, false⟩,
    ⟨(some 20), .mov (.t 1), none, false⟩,
    ⟨(some 21), .mov (.t 2), none, false⟩,
    ⟨(some 22), .call f_ref_DiffPatch [(.t 19), (.t 20), (.t 21)], none, false⟩,
    ⟨(some 18), .mov (.t 22), none, false⟩,
    ⟨(some 23), .extract (.t 18) 0, none, false⟩,
    ⟨(some 24), .extract (.t 18) 1, none, false⟩,
    ⟨(some 9), .mov (.t 23), none, false⟩,
    ⟨(some 10), .mov (.t 24), none, false⟩] none [7, 8, 9, 10])
  (.seq (.ops [⟨(some 25), .mov (.t 7), none, false⟩,
    ⟨(some 26), .mov (.t 9), none, false⟩,
    ⟨(some 27), .call f_law_sameTexts [(.t 25), (.t 26)], none, false⟩,
    ⟨(some 28), .mov (.t 27), none, true⟩,
    ⟨(some 29), .mov (.t 8), (some (28, true)), false⟩,
    ⟨(some 30), .mov (.t 10), (some (28, true)), false⟩,
    ⟨(some 31), .bin .none .eql (.t 29) (.t 30), (some (28, true)), false⟩,
    ⟨(some 32), .pick (.t 28) (.t 31) (.c (.bool false)), none, false⟩,
    ⟨(some 6), .mov (.t 32), none, false⟩] none [6])
  .ret))))
def law_DiffPatches_r : List RRes := [.tmp 6]
def law_DiffPatches_hi : Hi := ⟨[], [(0, "a"), (1, "l"), (2, "news"), (3, "a"), (4, "l"), (5, "news"), (7, "x"), (8, "e"), (9, "y"), (10, "f")]⟩
def law_DiffPatches_an : An := .d
def law_DiffPatches_fi : Fi := ⟨33, law_DiffPatches_c, law_DiffPatches_r, law_DiffPatches_an, law_DiffPatches_hi⟩
theorem law_DiffPatches_ok : FiOk Try.prog f_law_DiffPatches law_DiffPatches_fi :=
  ⟨by kernel_rfl, fun h hlen => fun_sound (fn := Try.f5) (draw_sound _ _) Try.func5 rfl (by kernel_rfl : comp Try.prog 33 _ law_DiffPatches_c = some law_DiffPatches_c) (by kernel_rfl : cRes Try.prog Try.f5.results.toList = some law_DiffPatches_r) hlen h⟩

end Go.Proofs.Ytcgggoaefceokaa
