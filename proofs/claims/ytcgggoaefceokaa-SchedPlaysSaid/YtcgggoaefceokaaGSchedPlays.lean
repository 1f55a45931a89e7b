/- The functions' simplified code, printed by a program of the claim's author; each is checked against the program's own code. Conditions: none. -/
import Derived.Test.YtcgggoaefceokaaProg
import Derived.Test.YtcgggoaefceokaaVyM
set_option linter.unusedVariables false
set_option maxRecDepth 100000
namespace Go.Proofs.Ytcgggoaefceokaa
open Go.Vc
abbrev f_gosem_cut_init : Nat := 2
abbrev f_law_WrapChecks : Nat := 3
abbrev f_law_PosFinds : Nat := 4
abbrev f_law_DiffPatches : Nat := 5
abbrev f_law_EditApplies : Nat := 6
abbrev f_law_LinesLines : Nat := 7
abbrev f_law_SpansWidens : Nat := 8
abbrev f_law_EditInverts : Nat := 9
abbrev f_law_WrapGreedies : Nat := 10
abbrev f_law_SchedPlays : Nat := 11
abbrev f_law_EditOvers : Nat := 12
abbrev f_law_FindAlls : Nat := 13
abbrev f_law_WrapBests : Nat := 14
abbrev f_wrap_Check : Nat := 15
abbrev f_ref_WrapFault : Nat := 16
abbrev f_pos_Find : Nat := 17
abbrev f_ref_PosFind : Nat := 18
abbrev f_diff_Patch : Nat := 19
abbrev f_ref_DiffPatch : Nat := 20
abbrev f_law_sameTexts : Nat := 21
abbrev f_edit_Apply : Nat := 22
abbrev f_ref_EditApply : Nat := 23
abbrev f_lines_Line : Nat := 24
abbrev f_ref_LinesLine : Nat := 25
abbrev f_spans_Widen : Nat := 26
abbrev f_ref_SpansWiden : Nat := 27
abbrev f_edit_Invert : Nat := 28
abbrev f_ref_EditInvert : Nat := 29
abbrev f_wrap_Greedy : Nat := 30
abbrev f_ref_WrapGreedy : Nat := 31
abbrev f_law_sameInts : Nat := 32
abbrev f_sched_Play : Nat := 33
abbrev f_ref_SchedPlayed : Nat := 34
abbrev f_edit_Over : Nat := 35
abbrev f_ref_EditOver : Nat := 36
abbrev f_find_All : Nat := 37
abbrev f_ref_FindAll : Nat := 38
abbrev f_wrap_Best : Nat := 39
abbrev f_ref_WrapCost : Nat := 40
abbrev f_ref_WrapLeast : Nat := 41
abbrev f_slices_ContainsFunc___int_int_ : Nat := 42
abbrev f_wrap_Check_1 : Nat := 43
abbrev f_strings_IndexByte : Nat := 44
abbrev f_ref_PosOf : Nat := 45
abbrev f_edit_run : Nat := 46
abbrev f_ref_EditApplied : Nat := 47
abbrev f_lines_may : Nat := 48
abbrev f_sort_Search : Nat := 49
abbrev f_lines_Line_1 : Nat := 50
abbrev f_ref_startsMay : Nat := 51
abbrev f_spans_Widened : Nat := 52
abbrev f_slices_Reverse___api_Edit_api_Edit_ : Nat := 53
abbrev f_ref_lineWide : Nat := 54
abbrev f___sched_ring__push : Nat := 55
abbrev f___sched_ring__turn : Nat := 56
abbrev f_edit_Check : Nat := 57
abbrev f_edit_clash : Nat := 58
abbrev f_edit_Moved : Nat := 59
abbrev f_ref_EditFault : Nat := 60
abbrev f_ref_EditOver_1 : Nat := 61
abbrev f_ref_EditOver_2 : Nat := 62
abbrev f_ref_editPlace : Nat := 63
abbrev f_find_fault : Nat := 64
abbrev f_find_In : Nat := 65
abbrev f_ref_findFault : Nat := 66
abbrev f_ref_standsAt : Nat := 67
abbrev f_slices_IndexFunc___int_int_ : Nat := 68
abbrev f_internal_stringslite_IndexByte : Nat := 69
abbrev f_edit_Undo : Nat := 70
abbrev f_edit_Made : Nat := 71
abbrev f_ref_editMade : Nat := 72
abbrev f_strings_LastIndexByte : Nat := 73
abbrev f_edit_nothing : Nat := 74
abbrev f_edit_within : Nat := 75
abbrev f_find_border : Nat := 76
abbrev f_internal_bytealg_LastIndexByteString : Nat := 78

/-- fustian/sched.Play: slots [0 l, 1 l, 4 r, 5 out, 6 _, 7 j] -/
def sched_Play_c : SCode :=
  (.seq (.ops [⟨(some 2), .mov (.c .nils), none, false⟩,
    ⟨(some 3), .mov (.c (.int .i64 0)), none, false⟩] none [0])
  (.seq (.seq (.ops [⟨(some 8), .mov (.t 0), none, false⟩,
    ⟨(some 9), .len false (.t 8), none, false⟩,
    ⟨(some 10), .bin .none .gtr (.t 9) (.c (.int .i64 80)), none, false⟩] none [0, 10])
  (.cond (.t 10)
    (.seq (.ops [⟨(some 2), .mov (.c .nils), none, false⟩,
      ⟨(some 3), .mov (.c (.int .i64 1)), none, false⟩] none [2, 3])
    .ret)
    .skip))
  (.seq (.ops [⟨(some 11), .build [.nils, (.int .i64 0)] [], none, false⟩,
    ⟨(some 12), .box 0 (.t 11), none, false⟩,
    ⟨(some 4), .mov (.t 12), none, false⟩] none [0, 4])
  (.seq (.ops [⟨(some 5), .newnil 4, none, false⟩] none [0, 4, 5])
  (.seq (.seq (.ops [⟨(some 13), .mov (.t 0), none, false⟩,
    ⟨(some 14), .len false (.t 13), none, false⟩,
    ⟨(some 15), .mov (.c (.int .i64 0)), none, false⟩] none [4, 5, 13, 14, 15])
  (.block 0 (.loop [4, 13, 14] [5, 15] 2
    (.seq (.ops [⟨(some 16), .bin .none .lss (.t 15) (.t 14), none, false⟩] none [4, 5, 13, 14, 15, 16])
    (.seq (.cond (.t 16)
      .skip
      (.exit 0))
    (.join [4, 13, 14, 15] [5] 3 (.block 1 (.seq (.ops [⟨(some 17), .iaddr 2 none (.t 13) (.t 15), none, false⟩,
        ⟨(some 18), .load 2 true (.t 17), none, false⟩,
        ⟨(some 7), .alloc 0 [(.int .i64 0), (.int .i64 0)], none, false⟩,
        ⟨none, .store 2 (.t 7) (.t 18), none, false⟩] none [4, 5, 7, 13, 14, 15])
      (.seq (.ops [⟨(some 19), .faddr 0 (.t 7), none, false⟩,
        ⟨(some 20), .load 1 false (.t 19), none, false⟩] none [4, 5, 7, 13, 14, 15, 20])
      (.block 2 (.seq (.ops [⟨(some 26), .bin .none .eql (.t 20) (.c (.int .i64 1)), none, false⟩,
        ⟨(some 25), .mov (.t 26), none, false⟩] none [4, 5, 7, 13, 14, 15, 20, 25])
      (.cond (.t 25)
        (.ops [⟨(some 27), .mov (.t 5), none, false⟩,
          ⟨(some 28), .mov (.t 4), none, false⟩,
          ⟨(some 29), .faddr 1 (.t 7), none, false⟩,
          ⟨(some 30), .load 1 false (.t 29), none, false⟩,
          ⟨(some 31), .call f___sched_ring__push [(.t 28), (.t 30)], none, false⟩,
          ⟨(some 32), .bslice true 1 4 [(.int .i64 0), (.int .i64 0), (.int .i64 0), (.bool false)] [(0, 4, (.t 31))], none, false⟩,
          ⟨(some 33), .append 4 32 (.t 27) (.t 32), none, false⟩,
          ⟨(some 5), .mov (.t 33), none, false⟩] none [4, 5, 13, 14, 15])
        (.seq (.ops [⟨(some 35), .bin .none .eql (.t 20) (.c (.int .i64 2)), none, false⟩,
          ⟨(some 34), .mov (.t 35), none, false⟩] none [4, 5, 7, 13, 14, 15, 34])
        (.cond (.t 34)
          (.ops [⟨(some 36), .mov (.t 5), none, false⟩,
            ⟨(some 37), .mov (.t 4), none, false⟩,
            ⟨(some 38), .faddr 1 (.t 7), none, false⟩,
            ⟨(some 39), .load 1 false (.t 38), none, false⟩,
            ⟨(some 40), .call f___sched_ring__turn [(.t 37), (.t 39)], none, false⟩,
            ⟨(some 41), .bslice true 1 4 [(.int .i64 0), (.int .i64 0), (.int .i64 0), (.bool false)] [(0, 4, (.t 40))], none, false⟩,
            ⟨(some 42), .append 4 32 (.t 36) (.t 41), none, false⟩,
            ⟨(some 5), .mov (.t 42), none, false⟩] none [4, 5, 13, 14, 15])
          (.ops [⟨(some 21), .mov (.t 5), none, false⟩,
            ⟨(some 22), .build [(.int .i64 0), (.int .i64 0), (.int .i64 0), (.bool false)] [(0, 1, (.c (.int .i64 3)))], none, false⟩,
            ⟨(some 23), .bslice true 1 4 [(.int .i64 0), (.int .i64 0), (.int .i64 0), (.bool false)] [(0, 4, (.t 22))], none, false⟩,
            ⟨(some 24), .append 4 32 (.t 21) (.t 23), none, false⟩,
            ⟨(some 5), .mov (.t 24), none, false⟩] none [4, 5, 13, 14, 15])))))))))
    (.ops [⟨(some 43), .bin .none .add (.t 15) (.c (.int .i64 1)), none, false⟩,
      ⟨(some 15), .mov (.t 43), none, false⟩] none [4, 5, 13, 14, 15])))))))
  (.seq (.ops [⟨(some 44), .mov (.t 5), none, false⟩,
    ⟨(some 2), .mov (.t 44), none, false⟩,
    ⟨(some 3), .mov (.c (.int .i64 0)), none, false⟩] none [2, 3])
  .ret))))))
def sched_Play_r : List RRes := [.tmp 2, .tmp 3]
def sched_Play_hi : Hi := ⟨[(5, (.st (.cons (.int .i64) (.cons (.int .i64) (.cons (.int .i64) (.cons .bool .nil)))))), (32, (.st (.cons (.int .i64) (.cons (.int .i64) (.cons (.int .i64) (.cons .bool .nil)))))), (33, (.st (.cons (.int .i64) (.cons (.int .i64) (.cons (.int .i64) (.cons .bool .nil)))))), (41, (.st (.cons (.int .i64) (.cons (.int .i64) (.cons (.int .i64) (.cons .bool .nil)))))), (42, (.st (.cons (.int .i64) (.cons (.int .i64) (.cons (.int .i64) (.cons .bool .nil)))))), (23, (.st (.cons (.int .i64) (.cons (.int .i64) (.cons (.int .i64) (.cons .bool .nil)))))), (24, (.st (.cons (.int .i64) (.cons (.int .i64) (.cons (.int .i64) (.cons .bool .nil)))))), (12, (.st (.cons (.sl (.st (.cons (.int .i64) (.cons (.int .i64) .nil)))) (.cons (.int .i64) .nil)))), (4, (.st (.cons (.sl (.st (.cons (.int .i64) (.cons (.int .i64) .nil)))) (.cons (.int .i64) .nil)))), (7, (.st (.cons (.int .i64) (.cons (.int .i64) .nil)))), (28, (.st (.cons (.sl (.st (.cons (.int .i64) (.cons (.int .i64) .nil)))) (.cons (.int .i64) .nil)))), (37, (.st (.cons (.sl (.st (.cons (.int .i64) (.cons (.int .i64) .nil)))) (.cons (.int .i64) .nil))))], [(0, "l"), (1, "l"), (4, "r"), (5, "out"), (7, "j")]⟩
def sched_Play_an : An := (.seq .d (.seq .d (.seq .d (.seq .d (.seq (.seq .d (.loop [4, 5] [4] [] .d)) .d)))))
def sched_Play_fi : Fi := ⟨45, sched_Play_c, sched_Play_r, sched_Play_an, sched_Play_hi⟩
theorem sched_Play_ok : FiOk Try.prog f_sched_Play sched_Play_fi :=
  ⟨by kernel_rfl, fun h hlen => fun_sound (fn := Try.f33) (draw_sound _ _) Try.func33 rfl (by kernel_rfl : comp Try.prog 45 _ sched_Play_c = some sched_Play_c) (by kernel_rfl : cRes Try.prog Try.f33.results.toList = some sched_Play_r) hlen h⟩

/-- fustian/fustianref.SchedPlayed: slots [0 l, 1 l, 4 left, 5 since, 6 clock, 7 out, 8 _, 9 j, 10 d, 11 t, 12 i] -/
def ref_SchedPlayed_c : SCode :=
  (.seq (.ops [⟨(some 2), .mov (.c .nils), none, false⟩,
    ⟨(some 3), .mov (.c (.int .i64 0)), none, false⟩] none [0])
  (.seq (.seq (.ops [⟨(some 13), .mov (.t 0), none, false⟩,
    ⟨(some 14), .len false (.t 13), none, false⟩,
    ⟨(some 15), .bin .none .gtr (.t 14) (.c (.int .i64 80)), none, false⟩] none [0, 15])
  (.cond (.t 15)
    (.seq (.ops [⟨(some 2), .mov (.c .nils), none, false⟩,
      ⟨(some 3), .mov (.c (.int .i64 1)), none, false⟩] none [2, 3])
    .ret)
    .skip))
  (.seq (.ops [⟨(some 4), .newnil 1, none, false⟩,
    ⟨(some 5), .newnil 1, none, false⟩] none [0, 4, 5])
  (.seq (.ops [⟨(some 6), .mov (.c (.int .i64 0)), none, false⟩] none [0, 4, 5, 6])
  (.seq (.ops [⟨(some 7), .newnil 4, none, false⟩] none [0, 4, 5, 6, 7])
  (.seq (.seq (.ops [⟨(some 16), .mov (.t 0), none, false⟩,
    ⟨(some 17), .len false (.t 16), none, false⟩,
    ⟨(some 18), .mov (.c (.int .i64 0)), none, false⟩] none [4, 5, 6, 7, 16, 17, 18])
  (.block 0 (.loop [16, 17] [4, 5, 6, 7, 18] 3
    (.seq (.ops [⟨(some 19), .bin .none .lss (.t 18) (.t 17), none, false⟩] none [4, 5, 6, 7, 16, 17, 18, 19])
    (.seq (.cond (.t 19)
      .skip
      (.exit 0))
    (.seq (.block 1 (.seq (.ops [⟨(some 20), .iaddr 2 none (.t 16) (.t 18), none, false⟩,
      ⟨(some 21), .load 2 true (.t 20), none, false⟩,
      ⟨(some 9), .alloc 0 [(.int .i64 0), (.int .i64 0)], none, false⟩,
      ⟨none, .store 2 (.t 9) (.t 21), none, false⟩] none [4, 5, 6, 7, 9, 16, 17, 18])
    (.seq (.ops [⟨(some 22), .mov (.t 6), none, false⟩,
      ⟨(some 23), .bin .none .add (.t 22) (.c (.int .i64 1)), none, false⟩,
      ⟨(some 6), .mov (.t 23), none, false⟩] none [4, 5, 6, 7, 9, 16, 17, 18])
    (.seq (.ops [⟨(some 10), .alloc 0 [(.int .i64 0), (.int .i64 0), (.int .i64 0), (.bool false)], none, false⟩] none [4, 5, 6, 7, 9, 10, 16, 17, 18])
    (.join [6, 7, 10, 16, 17, 18] [4, 5] 5 (.block 2 (.seq (.ops [⟨(some 26), .faddr 0 (.t 9), none, false⟩,
        ⟨(some 27), .load 1 false (.t 26), none, false⟩,
        ⟨(some 28), .bin .none .eql (.t 27) (.c (.int .i64 1)), none, false⟩,
        ⟨(some 29), .mov (.t 28), none, true⟩,
        ⟨(some 30), .faddr 1 (.t 9), (some (29, true)), false⟩,
        ⟨(some 31), .load 1 false (.t 30), (some (29, true)), false⟩,
        ⟨(some 32), .bin .none .lss (.t 31) (.c (.int .i64 0)), (some (29, true)), false⟩,
        ⟨(some 33), .mov (.t 32), (some (29, true)), true⟩,
        ⟨(some 34), .faddr 1 (.t 9), (some (33, false)), false⟩,
        ⟨(some 35), .load 1 false (.t 34), (some (33, false)), false⟩,
        ⟨(some 36), .bin .none .gtr (.t 35) (.c (.int .i64 600)), (some (33, false)), false⟩,
        ⟨(some 37), .pick (.t 33) (.c (.bool true)) (.t 36), (some (29, true)), false⟩,
        ⟨(some 38), .pick (.t 29) (.t 37) (.c (.bool false)), none, false⟩,
        ⟨(some 25), .mov (.t 38), none, false⟩] none [4, 5, 6, 7, 9, 10, 16, 17, 18, 25])
      (.cond (.t 25)
        (.ops [⟨(some 39), .faddr 0 (.t 10), none, false⟩,
          ⟨none, .store 1 (.t 39) (.c (.int .i64 2)), none, false⟩] none [4, 5, 6, 7, 10, 16, 17, 18])
        (.seq (.ops [⟨(some 41), .faddr 0 (.t 9), none, false⟩,
          ⟨(some 42), .load 1 false (.t 41), none, false⟩,
          ⟨(some 43), .bin .none .eql (.t 42) (.c (.int .i64 1)), none, false⟩,
          ⟨(some 40), .mov (.t 43), none, false⟩] none [4, 5, 6, 7, 9, 10, 16, 17, 18, 40])
        (.cond (.t 40)
          (.seq (.ops [⟨(some 44), .mov (.t 4), none, false⟩,
            ⟨(some 45), .len false (.t 44), none, false⟩,
            ⟨(some 46), .faddr 1 (.t 10), none, false⟩,
            ⟨none, .store 1 (.t 46) (.t 45), none, false⟩] none [4, 5, 6, 7, 9, 10, 16, 17, 18])
          (.seq (.ops [⟨(some 47), .faddr 1 (.t 9), none, false⟩,
            ⟨(some 48), .load 1 false (.t 47), none, false⟩,
            ⟨(some 49), .bin .none .eql (.t 48) (.c (.int .i64 0)), none, false⟩,
            ⟨(some 50), .faddr 3 (.t 10), none, false⟩,
            ⟨none, .store 1 (.t 50) (.t 49), none, false⟩] none [4, 5, 6, 7, 9, 10, 16, 17, 18])
          (.seq (.ops [⟨(some 51), .mov (.t 4), none, false⟩,
            ⟨(some 52), .faddr 1 (.t 9), none, false⟩,
            ⟨(some 53), .load 1 false (.t 52), none, false⟩,
            ⟨(some 54), .bslice true 1 1 [(.int .i64 0)] [(0, 1, (.t 53))], none, false⟩,
            ⟨(some 55), .append 1 8 (.t 51) (.t 54), none, false⟩,
            ⟨(some 4), .mov (.t 55), none, false⟩] none [4, 5, 6, 7, 10, 16, 17, 18])
          (.ops [⟨(some 56), .mov (.t 5), none, false⟩,
            ⟨(some 57), .mov (.t 6), none, false⟩,
            ⟨(some 58), .bslice true 1 1 [(.int .i64 0)] [(0, 1, (.t 57))], none, false⟩,
            ⟨(some 59), .append 1 8 (.t 56) (.t 58), none, false⟩,
            ⟨(some 5), .mov (.t 59), none, false⟩] none [4, 5, 6, 7, 10, 16, 17, 18]))))
          (.seq (.ops [⟨(some 61), .faddr 0 (.t 9), none, false⟩,
            ⟨(some 62), .load 1 false (.t 61), none, false⟩,
            ⟨(some 63), .bin .none .eql (.t 62) (.c (.int .i64 2)), none, false⟩,
            ⟨(some 64), .mov (.t 63), none, true⟩,
            ⟨(some 65), .faddr 1 (.t 9), (some (64, true)), false⟩,
            ⟨(some 66), .load 1 false (.t 65), (some (64, true)), false⟩,
            ⟨(some 67), .bin .none .lss (.t 66) (.c (.int .i64 1)), (some (64, true)), false⟩,
            ⟨(some 68), .mov (.t 67), (some (64, true)), true⟩,
            ⟨(some 69), .faddr 1 (.t 9), (some (68, false)), false⟩,
            ⟨(some 70), .load 1 false (.t 69), (some (68, false)), false⟩,
            ⟨(some 71), .bin .none .gtr (.t 70) (.c (.int .i64 50)), (some (68, false)), false⟩,
            ⟨(some 72), .pick (.t 68) (.c (.bool true)) (.t 71), (some (64, true)), false⟩,
            ⟨(some 73), .pick (.t 64) (.t 72) (.c (.bool false)), none, false⟩,
            ⟨(some 60), .mov (.t 73), none, false⟩] none [4, 5, 6, 7, 9, 10, 16, 17, 18, 60])
          (.cond (.t 60)
            (.ops [⟨(some 74), .faddr 0 (.t 10), none, false⟩,
              ⟨none, .store 1 (.t 74) (.c (.int .i64 2)), none, false⟩] none [4, 5, 6, 7, 10, 16, 17, 18])
            (.seq (.ops [⟨(some 76), .faddr 0 (.t 9), none, false⟩,
              ⟨(some 77), .load 1 false (.t 76), none, false⟩,
              ⟨(some 78), .bin .none .eql (.t 77) (.c (.int .i64 2)), none, false⟩,
              ⟨(some 75), .mov (.t 78), none, false⟩] none [4, 5, 6, 7, 9, 10, 16, 17, 18, 75])
            (.cond (.t 75)
              (.seq (.ops [⟨(some 11), .mov (.c (.int .i64 (-1))), none, false⟩] none [4, 5, 6, 7, 9, 10, 11, 16, 17, 18])
              (.seq (.seq (.ops [⟨(some 79), .mov (.t 4), none, false⟩,
                ⟨(some 80), .len false (.t 79), none, false⟩,
                ⟨(some 81), .mov (.c (.int .i64 0)), none, false⟩] none [4, 5, 6, 7, 9, 10, 11, 16, 17, 18, 80, 81])
              (.block 3 (.loop [4, 5, 6, 7, 9, 10, 16, 17, 18, 80] [11, 81] 5
                (.seq (.ops [⟨(some 82), .bin .none .lss (.t 81) (.t 80), none, false⟩] none [4, 5, 6, 7, 9, 10, 11, 16, 17, 18, 80, 81, 82])
                (.seq (.cond (.t 82)
                  .skip
                  (.exit 3))
                (.join [4, 5, 6, 7, 9, 10, 16, 17, 18, 80, 81] [11] 5 (.block 4 (.seq (.ops [⟨(some 83), .mov (.t 81), none, false⟩,
                    ⟨(some 12), .mov (.t 83), none, false⟩] none [4, 5, 6, 7, 9, 10, 11, 12, 16, 17, 18, 80, 81])
                  (.seq (.ops [⟨(some 84), .mov (.t 4), none, false⟩,
                    ⟨(some 85), .mov (.t 12), none, false⟩,
                    ⟨(some 86), .iaddr 1 none (.t 84) (.t 85), none, false⟩,
                    ⟨(some 87), .load 1 false (.t 86), none, false⟩,
                    ⟨(some 88), .bin .none .gtr (.t 87) (.c (.int .i64 0)), none, false⟩,
                    ⟨(some 89), .mov (.t 88), none, true⟩,
                    ⟨(some 90), .mov (.t 11), (some (89, true)), false⟩,
                    ⟨(some 91), .bin .none .lss (.t 90) (.c (.int .i64 0)), (some (89, true)), false⟩,
                    ⟨(some 92), .mov (.t 91), (some (89, true)), true⟩,
                    ⟨(some 93), .mov (.t 5), (some (92, false)), false⟩,
                    ⟨(some 94), .mov (.t 12), (some (92, false)), false⟩,
                    ⟨(some 95), .iaddr 1 none (.t 93) (.t 94), (some (92, false)), false⟩,
                    ⟨(some 96), .load 1 false (.t 95), (some (92, false)), false⟩,
                    ⟨(some 97), .mov (.t 5), (some (92, false)), false⟩,
                    ⟨(some 98), .mov (.t 11), (some (92, false)), false⟩,
                    ⟨(some 99), .iaddr 1 none (.t 97) (.t 98), (some (92, false)), false⟩,
                    ⟨(some 100), .load 1 false (.t 99), (some (92, false)), false⟩,
                    ⟨(some 101), .bin .none .lss (.t 96) (.t 100), (some (92, false)), false⟩,
                    ⟨(some 102), .pick (.t 92) (.c (.bool true)) (.t 101), (some (89, true)), false⟩,
                    ⟨(some 103), .pick (.t 89) (.t 102) (.c (.bool false)), none, false⟩] (some (0, 0, [0, 1, 2, 3, 4, 5, 6, 7, 8, 9, 10, 11, 12, 13, 14, 15, 16, 17, 18, 19])) [4, 5, 6, 7, 9, 10, 11, 12, 16, 17, 18, 80, 81, 103])
                  (.cond (.t 103)
                    (.ops [⟨(some 104), .mov (.t 12), none, false⟩,
                      ⟨(some 11), .mov (.t 104), none, false⟩] none [4, 5, 6, 7, 9, 10, 11, 16, 17, 18, 80, 81])
                    .skip))))
                (.ops [⟨(some 105), .bin .none .add (.t 81) (.c (.int .i64 1)), none, false⟩,
                  ⟨(some 81), .mov (.t 105), none, false⟩] none [4, 5, 6, 7, 9, 10, 11, 16, 17, 18, 80, 81])))))))
              (.seq (.seq (.ops [⟨(some 106), .mov (.t 11), none, false⟩,
                ⟨(some 107), .bin .none .lss (.t 106) (.c (.int .i64 0)), none, false⟩] none [4, 5, 6, 7, 9, 10, 11, 16, 17, 18, 107])
              (.cond (.t 107)
                (.seq (.ops [⟨(some 108), .faddr 0 (.t 10), none, false⟩,
                  ⟨none, .store 1 (.t 108) (.c (.int .i64 7)), none, false⟩] none [4, 5, 6, 7, 10, 16, 17, 18])
                (.exit 2))
                .skip))
              (.seq (.ops [⟨(some 109), .mov (.t 11), none, false⟩,
                ⟨(some 110), .faddr 1 (.t 10), none, false⟩,
                ⟨none, .store 1 (.t 110) (.t 109), none, false⟩] none [4, 5, 6, 7, 9, 10, 11, 16, 17, 18])
              (.seq (.ops [⟨(some 111), .faddr 1 (.t 9), none, false⟩,
                ⟨(some 112), .load 1 false (.t 111), none, false⟩,
                ⟨(some 113), .mov (.t 4), none, false⟩,
                ⟨(some 114), .mov (.t 11), none, false⟩,
                ⟨(some 115), .iaddr 1 none (.t 113) (.t 114), none, false⟩,
                ⟨(some 116), .load 1 false (.t 115), none, false⟩,
                ⟨(some 117), .min [(.t 112), (.t 116)], none, false⟩,
                ⟨(some 118), .faddr 2 (.t 10), none, false⟩,
                ⟨none, .store 1 (.t 118) (.t 117), none, false⟩] (some (0, 0, [0, 1, 2, 3, 4, 5, 6, 7, 8])) [4, 5, 6, 7, 10, 11, 16, 17, 18])
              (.seq (.ops [⟨(some 119), .mov (.t 4), none, false⟩,
                ⟨(some 120), .mov (.t 11), none, false⟩,
                ⟨(some 121), .iaddr 1 none (.t 119) (.t 120), none, false⟩,
                ⟨(some 122), .load 1 false (.t 121), none, false⟩,
                ⟨(some 123), .faddr 2 (.t 10), none, false⟩,
                ⟨(some 124), .load 1 false (.t 123), none, false⟩,
                ⟨(some 125), .bin .none .sub (.t 122) (.t 124), none, false⟩,
                ⟨(some 126), .iaddr 1 none (.t 119) (.t 120), none, false⟩,
                ⟨none, .store 1 (.t 126) (.t 125), none, false⟩] (some (0, 0, [0, 1, 2, 3, 4, 5, 6, 7, 8])) [4, 5, 6, 7, 10, 11, 16, 17, 18])
              (.seq (.ops [⟨(some 127), .mov (.t 5), none, false⟩,
                ⟨(some 128), .mov (.t 11), none, false⟩,
                ⟨(some 129), .mov (.t 6), none, false⟩,
                ⟨(some 130), .iaddr 1 none (.t 127) (.t 128), none, false⟩,
                ⟨none, .store 1 (.t 130) (.t 129), none, false⟩] none [4, 5, 6, 7, 10, 11, 16, 17, 18])
              (.ops [⟨(some 131), .mov (.t 4), none, false⟩,
                ⟨(some 132), .mov (.t 11), none, false⟩,
                ⟨(some 133), .iaddr 1 none (.t 131) (.t 132), none, false⟩,
                ⟨(some 134), .load 1 false (.t 133), none, false⟩,
                ⟨(some 135), .bin .none .eql (.t 134) (.c (.int .i64 0)), none, false⟩,
                ⟨(some 136), .faddr 3 (.t 10), none, false⟩,
                ⟨none, .store 1 (.t 136) (.t 135), none, false⟩] none [4, 5, 6, 7, 10, 16, 17, 18]))))))))
              (.ops [⟨(some 24), .faddr 0 (.t 10), none, false⟩,
                ⟨none, .store 1 (.t 24) (.c (.int .i64 3)), none, false⟩] none [4, 5, 6, 7, 10, 16, 17, 18]))))))))))
    (.ops [⟨(some 137), .mov (.t 7), none, false⟩,
      ⟨(some 138), .load 4 true (.t 10), none, false⟩,
      ⟨(some 139), .bslice true 1 4 [(.int .i64 0), (.int .i64 0), (.int .i64 0), (.bool false)] [(0, 4, (.t 138))], none, false⟩,
      ⟨(some 140), .append 4 32 (.t 137) (.t 139), none, false⟩,
      ⟨(some 7), .mov (.t 140), none, false⟩] none [4, 5, 6, 7, 16, 17, 18]))))))
    (.ops [⟨(some 141), .bin .none .add (.t 18) (.c (.int .i64 1)), none, false⟩,
      ⟨(some 18), .mov (.t 141), none, false⟩] none [4, 5, 6, 7, 16, 17, 18])))))))
  (.seq (.ops [⟨(some 142), .mov (.t 7), none, false⟩,
    ⟨(some 2), .mov (.t 142), none, false⟩,
    ⟨(some 3), .mov (.c (.int .i64 0)), none, false⟩] none [2, 3])
  .ret)))))))
def ref_SchedPlayed_r : List RRes := [.tmp 2, .tmp 3]
def ref_SchedPlayed_hi : Hi := ⟨[(4, (.int .i64)), (5, (.int .i64)), (7, (.st (.cons (.int .i64) (.cons (.int .i64) (.cons (.int .i64) (.cons .bool .nil)))))), (54, (.int .i64)), (55, (.int .i64)), (58, (.int .i64)), (59, (.int .i64)), (139, (.st (.cons (.int .i64) (.cons (.int .i64) (.cons (.int .i64) (.cons .bool .nil)))))), (140, (.st (.cons (.int .i64) (.cons (.int .i64) (.cons (.int .i64) (.cons .bool .nil)))))), (9, (.st (.cons (.int .i64) (.cons (.int .i64) .nil)))), (10, (.st (.cons (.int .i64) (.cons (.int .i64) (.cons (.int .i64) (.cons .bool .nil))))))], [(0, "l"), (1, "l"), (4, "left"), (5, "since"), (6, "clock"), (7, "out"), (9, "j"), (10, "d"), (11, "t"), (12, "i")]⟩
def ref_SchedPlayed_an : An := (.seq .d (.seq .d (.seq .d (.seq .d (.seq .d (.seq (.seq .d (.loop [4, 5, 7] [] [] (.seq .d (.seq .d (.seq (.seq .d (.seq .d (.seq .d (.seq (.seq .d (.seq .d (.seq .d (.seq .d (.seq .d (.seq .d (.seq .d (.seq (.seq .d (.seq (.seq .d (.loop [] [] [] .d)) .d)) .d)))))))) .d)))) .d))))) .d))))))
def ref_SchedPlayed_fi : Fi := ⟨143, ref_SchedPlayed_c, ref_SchedPlayed_r, ref_SchedPlayed_an, ref_SchedPlayed_hi⟩
theorem ref_SchedPlayed_ok : FiOk Try.prog f_ref_SchedPlayed ref_SchedPlayed_fi :=
  ⟨by kernel_rfl, fun h hlen => fun_sound (fn := Try.f34) (draw_sound _ _) Try.func34 rfl (by kernel_rfl : comp Try.prog 143 _ ref_SchedPlayed_c = some ref_SchedPlayed_c) (by kernel_rfl : cRes Try.prog Try.f34.results.toList = some ref_SchedPlayed_r) hlen h⟩

/-- fustian/fustianlaw.SchedPlays: slots [0 l, 1 l, 3 x, 4 e, 5 y, 6 f, 7 i] -/
def law_SchedPlays_c : SCode :=
  (.seq (.ops [⟨(some 2), .mov (.c (.bool false)), none, false⟩] none [0])
  (.seq (.ops [⟨(some 9), .mov (.t 0), none, false⟩,
    ⟨(some 10), .call f_sched_Play [(.t 9)], none, false⟩,
    ⟨(some 8), .mov (.t 10), none, false⟩,
    ⟨(some 11), .extract (.t 8) 0, none, false⟩,
    ⟨(some 12), .extract (.t 8) 1, none, false⟩,
    ⟨(some 3), .mov (.t 11), none, false⟩,
    ⟨(some 4), .mov (.t 12), none, false⟩] none [0, 3, 4])
  (.seq (.ops [⟨(some 14), .mov (.t 0), none, false⟩,
    ⟨(some 15), .call f_ref_SchedPlayed [(.t 14)], none, false⟩,
    ⟨(some 13), .mov (.t 15), none, false⟩,
    ⟨(some 16), .extract (.t 13) 0, none, false⟩,
    ⟨(some 17), .extract (.t 13) 1, none, false⟩,
    ⟨(some 5), .mov (.t 16), none, false⟩,
    ⟨(some 6), .mov (.t 17), none, false⟩] none [3, 4, 5, 6])
  (.seq (.seq (.ops [⟨(some 18), .mov (.t 3), none, false⟩,
    ⟨(some 19), .len false (.t 18), none, false⟩,
    ⟨(some 20), .mov (.t 5), none, false⟩,
    ⟨(some 21), .len false (.t 20), none, false⟩,
    ⟨(some 22), .bin .none .neq (.t 19) (.t 21), none, false⟩,
    ⟨(some 23), .mov (.t 22), none, true⟩,
    ⟨(some 24), .mov (.t 4), (some (23, false)), false⟩,
    ⟨(some 25), .mov (.t 6), (some (23, false)), false⟩,
    ⟨(some 26), .bin .none .neq (.t 24) (.t 25), (some (23, false)), false⟩,
    ⟨(some 27), .pick (.t 23) (.c (.bool true)) (.t 26), none, false⟩] none [3, 5, 27])
  (.cond (.t 27)
    (.seq (.ops [⟨(some 2), .mov (.c (.bool false)), none, false⟩] none [2])
    .ret)
    .skip))
  (.seq (.seq (.ops [⟨(some 7), .mov (.c (.int .i64 0)), none, false⟩] none [3, 5, 7])
  (.block 0 (.loop [3, 5] [7] 0
    (.seq (.seq (.ops [⟨(some 28), .mov (.t 7), none, false⟩,
      ⟨(some 29), .mov (.t 3), none, false⟩,
      ⟨(some 30), .len false (.t 29), none, false⟩,
      ⟨(some 31), .bin .none .lss (.t 28) (.t 30), none, false⟩] none [3, 5, 7, 31])
    (.cond (.t 31)
      .skip
      (.exit 0)))
    (.seq (.block 1 (.seq (.ops [⟨(some 34), .mov (.t 3), none, false⟩,
      ⟨(some 35), .mov (.t 7), none, false⟩,
      ⟨(some 36), .iaddr 4 none (.t 34) (.t 35), none, false⟩,
      ⟨(some 37), .load 4 true (.t 36), none, false⟩,
      ⟨(some 38), .mov (.t 5), none, false⟩,
      ⟨(some 39), .mov (.t 7), none, false⟩,
      ⟨(some 40), .iaddr 4 none (.t 38) (.t 39), none, false⟩,
      ⟨(some 41), .load 4 true (.t 40), none, false⟩,
      ⟨(some 42), .bin (.agg [.int, .int, .int, .bool]) .neq (.t 37) (.t 41), none, false⟩] (some (0, 0, [0, 1, 2, 3, 4, 5, 6, 7, 8])) [3, 5, 7, 42])
    (.cond (.t 42)
      (.seq (.ops [⟨(some 2), .mov (.c (.bool false)), none, false⟩] none [2])
      .ret)
      .skip)))
    (.ops [⟨(some 32), .mov (.t 7), none, false⟩,
      ⟨(some 33), .bin .none .add (.t 32) (.c (.int .i64 1)), none, false⟩,
      ⟨(some 7), .mov (.t 33), none, false⟩] none [3, 5, 7]))))))
  (.seq (.ops [⟨(some 2), .mov (.c (.bool true)), none, false⟩] none [2])
  .ret))))))
def law_SchedPlays_r : List RRes := [.tmp 2]
def law_SchedPlays_hi : Hi := ⟨[], [(0, "l"), (1, "l"), (3, "x"), (4, "e"), (5, "y"), (6, "f"), (7, "i")]⟩
def law_SchedPlays_an : An := (.seq .d (.seq .d (.seq .d (.seq .d (.seq (.seq .d (.loop [] [] [] .d)) .d)))))
def law_SchedPlays_fi : Fi := ⟨43, law_SchedPlays_c, law_SchedPlays_r, law_SchedPlays_an, law_SchedPlays_hi⟩
theorem law_SchedPlays_ok : FiOk Try.prog f_law_SchedPlays law_SchedPlays_fi :=
  ⟨by kernel_rfl, fun h hlen => fun_sound (fn := Try.f11) (draw_sound _ _) Try.func11 rfl (by kernel_rfl : comp Try.prog 43 _ law_SchedPlays_c = some law_SchedPlays_c) (by kernel_rfl : cRes Try.prog Try.f11.results.toList = some law_SchedPlays_r) hlen h⟩

/-- (*fustian/sched.ring).push: slots [0 r, 1 size, 2 r, 3 size, 5 t] -/
def __sched_ring__push_c : SCode :=
  (.seq (.ops [⟨(some 4), .alloc 0 [(.int .i64 0), (.int .i64 0), (.int .i64 0), (.bool false)], none, false⟩] none [0, 1, 4])
  (.seq (.seq (.ops [⟨(some 6), .mov (.t 1), none, false⟩,
    ⟨(some 7), .bin .none .lss (.t 6) (.c (.int .i64 0)), none, false⟩,
    ⟨(some 8), .mov (.t 7), none, true⟩,
    ⟨(some 9), .mov (.t 1), (some (8, false)), false⟩,
    ⟨(some 10), .bin .none .gtr (.t 9) (.c (.int .i64 600)), (some (8, false)), false⟩,
    ⟨(some 11), .pick (.t 8) (.c (.bool true)) (.t 10), none, false⟩] none [0, 1, 4, 11])
  (.cond (.t 11)
    (.seq (.ops [⟨(some 12), .build [(.int .i64 0), (.int .i64 0), (.int .i64 0), (.bool false)] [(0, 1, (.c (.int .i64 2)))], none, false⟩,
      ⟨none, .store 4 (.t 4) (.t 12), none, false⟩] none [4])
    .ret)
    .skip))
  (.seq (.ops [⟨(some 13), .mov (.t 0), none, false⟩,
    ⟨(some 14), .nilchk (.t 13), none, false⟩,
    ⟨(some 15), .faddr 1 (.t 14), none, false⟩,
    ⟨(some 16), .load 1 false (.t 15), none, false⟩,
    ⟨(some 17), .mov (.t 1), none, false⟩,
    ⟨(some 18), .build [(.int .i64 0), (.int .i64 0)] [(0, 1, (.t 16)), (1, 1, (.t 17))], none, false⟩,
    ⟨(some 5), .alloc 0 [(.int .i64 0), (.int .i64 0)], none, false⟩,
    ⟨none, .store 2 (.t 5) (.t 18), none, false⟩] none [0, 1, 4, 5])
  (.seq (.ops [⟨(some 19), .mov (.t 0), none, false⟩,
    ⟨(some 20), .nilchk (.t 19), none, false⟩,
    ⟨(some 21), .faddr 1 (.t 20), none, false⟩,
    ⟨(some 22), .load 1 false (.t 21), none, false⟩,
    ⟨(some 23), .bin .none .add (.t 22) (.c (.int .i64 1)), none, false⟩,
    ⟨(some 24), .nilchk (.t 19), none, false⟩,
    ⟨(some 25), .faddr 1 (.t 24), none, false⟩,
    ⟨none, .store 1 (.t 25) (.t 23), none, false⟩] none [0, 1, 4, 5])
  (.join [1, 4, 5] [] 2 (.seq (.ops [⟨(some 26), .mov (.t 1), none, false⟩,
      ⟨(some 27), .bin .none .gtr (.t 26) (.c (.int .i64 0)), none, false⟩] none [0, 1, 4, 5, 27])
    (.cond (.t 27)
      (.ops [⟨(some 28), .mov (.t 0), none, false⟩,
        ⟨(some 29), .mov (.t 0), none, false⟩,
        ⟨(some 30), .nilchk (.t 29), none, false⟩,
        ⟨(some 31), .faddr 0 (.t 30), none, false⟩,
        ⟨(some 32), .load 1 false (.t 31), none, false⟩,
        ⟨(some 33), .load 2 true (.t 5), none, false⟩,
        ⟨(some 34), .bslice true 1 2 [(.int .i64 0), (.int .i64 0)] [(0, 2, (.t 33))], none, false⟩,
        ⟨(some 35), .append 2 16 (.t 32) (.t 34), none, false⟩,
        ⟨(some 36), .nilchk (.t 28), none, false⟩,
        ⟨(some 37), .faddr 0 (.t 36), none, false⟩,
        ⟨none, .store 1 (.t 37) (.t 35), none, false⟩] (some (0, 0, [0, 1, 2, 3, 4, 5, 6, 7, 8, 9, 10])) [1, 4, 5])
      .skip))
  (.seq (.ops [⟨(some 38), .faddr 0 (.t 5), none, false⟩,
    ⟨(some 39), .load 1 false (.t 38), none, false⟩,
    ⟨(some 40), .mov (.t 1), none, false⟩,
    ⟨(some 41), .bin .none .eql (.t 40) (.c (.int .i64 0)), none, false⟩,
    ⟨(some 42), .build [(.int .i64 0), (.int .i64 0), (.int .i64 0), (.bool false)] [(1, 1, (.t 39)), (3, 1, (.t 41))], none, false⟩,
    ⟨none, .store 4 (.t 4) (.t 42), none, false⟩] none [4])
  .ret))))))
def __sched_ring__push_r : List RRes := [.cell 4 4 true]
def __sched_ring__push_hi : Hi := ⟨[(34, (.st (.cons (.int .i64) (.cons (.int .i64) .nil)))), (35, (.st (.cons (.int .i64) (.cons (.int .i64) .nil)))), (4, (.st (.cons (.int .i64) (.cons (.int .i64) (.cons (.int .i64) (.cons .bool .nil)))))), (13, (.st (.cons (.sl (.st (.cons (.int .i64) (.cons (.int .i64) .nil)))) (.cons (.int .i64) .nil)))), (5, (.st (.cons (.int .i64) (.cons (.int .i64) .nil)))), (19, (.st (.cons (.sl (.st (.cons (.int .i64) (.cons (.int .i64) .nil)))) (.cons (.int .i64) .nil)))), (28, (.st (.cons (.sl (.st (.cons (.int .i64) (.cons (.int .i64) .nil)))) (.cons (.int .i64) .nil)))), (29, (.st (.cons (.sl (.st (.cons (.int .i64) (.cons (.int .i64) .nil)))) (.cons (.int .i64) .nil)))), (0, (.st (.cons (.sl (.st (.cons (.int .i64) (.cons (.int .i64) .nil)))) (.cons (.int .i64) .nil))))], [(0, "r"), (1, "size"), (2, "r"), (3, "size"), (5, "t")]⟩
def __sched_ring__push_an : An := .d
def __sched_ring__push_fi : Fi := ⟨43, __sched_ring__push_c, __sched_ring__push_r, __sched_ring__push_an, __sched_ring__push_hi⟩
theorem __sched_ring__push_ok : FiOk Try.prog f___sched_ring__push __sched_ring__push_fi :=
  ⟨by kernel_rfl, fun h hlen => fun_sound (fn := Try.f55) (draw_sound _ _) Try.func55 rfl (by kernel_rfl : comp Try.prog 43 _ __sched_ring__push_c = some __sched_ring__push_c) (by kernel_rfl : cRes Try.prog Try.f55.results.toList = some __sched_ring__push_r) hlen h⟩

/-- (*fustian/sched.ring).turn: slots [0 r, 1 size, 2 r, 3 size, 5 t, 6 n] -/
def __sched_ring__turn_c : SCode :=
  (.seq (.ops [⟨(some 4), .alloc 0 [(.int .i64 0), (.int .i64 0), (.int .i64 0), (.bool false)], none, false⟩] none [0, 1, 4])
  (.seq (.block 0 (.seq (.ops [⟨(some 8), .mov (.t 1), none, false⟩,
    ⟨(some 9), .bin .none .lss (.t 8) (.c (.int .i64 1)), none, false⟩,
    ⟨(some 10), .mov (.t 9), none, true⟩,
    ⟨(some 11), .mov (.t 1), (some (10, false)), false⟩,
    ⟨(some 12), .bin .none .gtr (.t 11) (.c (.int .i64 50)), (some (10, false)), false⟩,
    ⟨(some 13), .pick (.t 10) (.c (.bool true)) (.t 12), none, false⟩,
    ⟨(some 7), .mov (.t 13), none, false⟩] none [0, 1, 4, 7])
  (.cond (.t 7)
    (.seq (.ops [⟨(some 14), .build [(.int .i64 0), (.int .i64 0), (.int .i64 0), (.bool false)] [(0, 1, (.c (.int .i64 2)))], none, false⟩,
      ⟨none, .store 4 (.t 4) (.t 14), none, false⟩] none [4])
    .ret)
    (.seq (.ops [⟨(some 16), .mov (.t 0), none, false⟩,
      ⟨(some 17), .nilchk (.t 16), none, false⟩,
      ⟨(some 18), .faddr 0 (.t 17), none, false⟩,
      ⟨(some 19), .load 1 false (.t 18), none, false⟩,
      ⟨(some 20), .len false (.t 19), none, false⟩,
      ⟨(some 21), .bin .none .eql (.t 20) (.c (.int .i64 0)), none, false⟩,
      ⟨(some 15), .mov (.t 21), none, false⟩] none [0, 1, 4, 15])
    (.cond (.t 15)
      (.seq (.ops [⟨(some 22), .build [(.int .i64 0), (.int .i64 0), (.int .i64 0), (.bool false)] [(0, 1, (.c (.int .i64 7)))], none, false⟩,
        ⟨none, .store 4 (.t 4) (.t 22), none, false⟩] none [4])
      .ret)
      .skip)))))
  (.seq (.ops [⟨(some 23), .mov (.t 0), none, false⟩,
    ⟨(some 24), .nilchk (.t 23), none, false⟩,
    ⟨(some 25), .faddr 0 (.t 24), none, false⟩,
    ⟨(some 26), .load 1 false (.t 25), none, false⟩,
    ⟨(some 27), .iaddr 2 none (.t 26) (.c (.int .i64 0)), none, false⟩,
    ⟨(some 28), .load 2 true (.t 27), none, false⟩,
    ⟨(some 5), .alloc 0 [(.int .i64 0), (.int .i64 0)], none, false⟩,
    ⟨none, .store 2 (.t 5) (.t 28), none, false⟩] none [0, 1, 4, 5])
  (.seq (.ops [⟨(some 29), .mov (.t 0), none, false⟩,
    ⟨(some 30), .mov (.t 0), none, false⟩,
    ⟨(some 31), .nilchk (.t 30), none, false⟩,
    ⟨(some 32), .faddr 0 (.t 31), none, false⟩,
    ⟨(some 33), .load 1 false (.t 32), none, false⟩,
    ⟨(some 34), .slice 2 (.t 33) (some (.c (.int .i64 1))) none, none, false⟩,
    ⟨(some 35), .nilchk (.t 29), none, false⟩,
    ⟨(some 36), .faddr 0 (.t 35), none, false⟩,
    ⟨none, .store 1 (.t 36) (.t 34), none, false⟩] none [0, 1, 4, 5])
  (.seq (.ops [⟨(some 37), .mov (.t 1), none, false⟩,
    ⟨(some 38), .faddr 1 (.t 5), none, false⟩,
    ⟨(some 39), .load 1 false (.t 38), none, false⟩,
    ⟨(some 40), .min [(.t 37), (.t 39)], none, false⟩,
    ⟨(some 6), .mov (.t 40), none, false⟩] none [0, 4, 5, 6])
  (.join [4, 5, 6] [] 2 (.seq (.ops [⟨(some 41), .faddr 1 (.t 5), none, false⟩,
      ⟨(some 42), .load 1 false (.t 41), none, false⟩,
      ⟨(some 43), .mov (.t 6), none, false⟩,
      ⟨(some 44), .bin .none .sub (.t 42) (.t 43), none, false⟩,
      ⟨(some 45), .faddr 1 (.t 5), none, false⟩,
      ⟨none, .store 1 (.t 45) (.t 44), none, false⟩] none [0, 4, 5, 6])
    (.seq (.ops [⟨(some 46), .faddr 1 (.t 5), none, false⟩,
      ⟨(some 47), .load 1 false (.t 46), none, false⟩,
      ⟨(some 48), .bin .none .gtr (.t 47) (.c (.int .i64 0)), none, false⟩] none [0, 4, 5, 6, 48])
    (.cond (.t 48)
      (.ops [⟨(some 49), .mov (.t 0), none, false⟩,
        ⟨(some 50), .mov (.t 0), none, false⟩,
        ⟨(some 51), .nilchk (.t 50), none, false⟩,
        ⟨(some 52), .faddr 0 (.t 51), none, false⟩,
        ⟨(some 53), .load 1 false (.t 52), none, false⟩,
        ⟨(some 54), .load 2 true (.t 5), none, false⟩,
        ⟨(some 55), .bslice true 1 2 [(.int .i64 0), (.int .i64 0)] [(0, 2, (.t 54))], none, false⟩,
        ⟨(some 56), .append 2 16 (.t 53) (.t 55), none, false⟩,
        ⟨(some 57), .nilchk (.t 49), none, false⟩,
        ⟨(some 58), .faddr 0 (.t 57), none, false⟩,
        ⟨none, .store 1 (.t 58) (.t 56), none, false⟩] (some (0, 0, [0, 1, 2, 3, 4, 5, 6, 7, 8, 9, 10])) [4, 5, 6])
      .skip)))
  (.seq (.ops [⟨(some 59), .faddr 0 (.t 5), none, false⟩,
    ⟨(some 60), .load 1 false (.t 59), none, false⟩,
    ⟨(some 61), .mov (.t 6), none, false⟩,
    ⟨(some 62), .faddr 1 (.t 5), none, false⟩,
    ⟨(some 63), .load 1 false (.t 62), none, false⟩,
    ⟨(some 64), .bin .none .eql (.t 63) (.c (.int .i64 0)), none, false⟩,
    ⟨(some 65), .build [(.int .i64 0), (.int .i64 0), (.int .i64 0), (.bool false)] [(1, 1, (.t 60)), (2, 1, (.t 61)), (3, 1, (.t 64))], none, false⟩,
    ⟨none, .store 4 (.t 4) (.t 65), none, false⟩] none [4])
  .ret)))))))
def __sched_ring__turn_r : List RRes := [.cell 4 4 true]
def __sched_ring__turn_hi : Hi := ⟨[(55, (.st (.cons (.int .i64) (.cons (.int .i64) .nil)))), (56, (.st (.cons (.int .i64) (.cons (.int .i64) .nil)))), (4, (.st (.cons (.int .i64) (.cons (.int .i64) (.cons (.int .i64) (.cons .bool .nil)))))), (16, (.st (.cons (.sl (.st (.cons (.int .i64) (.cons (.int .i64) .nil)))) (.cons (.int .i64) .nil)))), (23, (.st (.cons (.sl (.st (.cons (.int .i64) (.cons (.int .i64) .nil)))) (.cons (.int .i64) .nil)))), (5, (.st (.cons (.int .i64) (.cons (.int .i64) .nil)))), (29, (.st (.cons (.sl (.st (.cons (.int .i64) (.cons (.int .i64) .nil)))) (.cons (.int .i64) .nil)))), (30, (.st (.cons (.sl (.st (.cons (.int .i64) (.cons (.int .i64) .nil)))) (.cons (.int .i64) .nil)))), (49, (.st (.cons (.sl (.st (.cons (.int .i64) (.cons (.int .i64) .nil)))) (.cons (.int .i64) .nil)))), (50, (.st (.cons (.sl (.st (.cons (.int .i64) (.cons (.int .i64) .nil)))) (.cons (.int .i64) .nil)))), (0, (.st (.cons (.sl (.st (.cons (.int .i64) (.cons (.int .i64) .nil)))) (.cons (.int .i64) .nil))))], [(0, "r"), (1, "size"), (2, "r"), (3, "size"), (5, "t"), (6, "n")]⟩
def __sched_ring__turn_an : An := .d
def __sched_ring__turn_fi : Fi := ⟨66, __sched_ring__turn_c, __sched_ring__turn_r, __sched_ring__turn_an, __sched_ring__turn_hi⟩
theorem __sched_ring__turn_ok : FiOk Try.prog f___sched_ring__turn __sched_ring__turn_fi :=
  ⟨by kernel_rfl, fun h hlen => fun_sound (fn := Try.f56) (draw_sound _ _) Try.func56 rfl (by kernel_rfl : comp Try.prog 66 _ __sched_ring__turn_c = some __sched_ring__turn_c) (by kernel_rfl : cRes Try.prog Try.f56.results.toList = some __sched_ring__turn_r) hlen h⟩

end Go.Proofs.Ytcgggoaefceokaa
