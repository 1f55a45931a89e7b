/- The functions' simplified code, printed by a program of the claim's author; each is checked against the program's own code. Conditions: none. -/
import Derived.Test.YtcgggoaefceokaaProg
import Derived.Test.YtcgggoaefceokaaVyM
set_option linter.unusedVariables false
set_option maxRecDepth 100000
namespace Go.Proofs.Ytcgggoaefceokaa
open Go.Vc
abbrev f_gosem_cut_init : Nat := 2
abbrev f_law_WrapChecks : Nat := 3
abbrev f_law_PosFinds : Nat := 4
abbrev f_law_DiffPatches : Nat := 5
abbrev f_law_EditApplies : Nat := 6
abbrev f_law_LinesLines : Nat := 7
abbrev f_law_SpansWidens : Nat := 8
abbrev f_law_EditInverts : Nat := 9
abbrev f_law_WrapGreedies : Nat := 10
abbrev f_law_SchedPlays : Nat := 11
abbrev f_law_EditOvers : Nat := 12
abbrev f_law_FindAlls : Nat := 13
abbrev f_law_WrapBests : Nat := 14
abbrev f_wrap_Check : Nat := 15
abbrev f_ref_WrapFault : Nat := 16
abbrev f_pos_Find : Nat := 17
abbrev f_ref_PosFind : Nat := 18
abbrev f_diff_Patch : Nat := 19
abbrev f_ref_DiffPatch : Nat := 20
abbrev f_law_sameTexts : Nat := 21
abbrev f_edit_Apply : Nat := 22
abbrev f_ref_EditApply : Nat := 23
abbrev f_lines_Line : Nat := 24
abbrev f_ref_LinesLine : Nat := 25
abbrev f_spans_Widen : Nat := 26
abbrev f_ref_SpansWiden : Nat := 27
abbrev f_edit_Invert : Nat := 28
abbrev f_ref_EditInvert : Nat := 29
abbrev f_wrap_Greedy : Nat := 30
abbrev f_ref_WrapGreedy : Nat := 31
abbrev f_law_sameInts : Nat := 32
abbrev f_sched_Play : Nat := 33
abbrev f_ref_SchedPlayed : Nat := 34
abbrev f_edit_Over : Nat := 35
abbrev f_ref_EditOver : Nat := 36
abbrev f_find_All : Nat := 37
abbrev f_ref_FindAll : Nat := 38
abbrev f_wrap_Best : Nat := 39
abbrev f_ref_WrapCost : Nat := 40
abbrev f_ref_WrapLeast : Nat := 41
abbrev f_slices_ContainsFunc___int_int_ : Nat := 42
abbrev f_wrap_Check_1 : Nat := 43
abbrev f_strings_IndexByte : Nat := 44
abbrev f_ref_PosOf : Nat := 45
abbrev f_edit_run : Nat := 46
abbrev f_ref_EditApplied : Nat := 47
abbrev f_lines_may : Nat := 48
abbrev f_sort_Search : Nat := 49
abbrev f_lines_Line_1 : Nat := 50
abbrev f_ref_startsMay : Nat := 51
abbrev f_spans_Widened : Nat := 52
abbrev f_slices_Reverse___api_Edit_api_Edit_ : Nat := 53
abbrev f_ref_lineWide : Nat := 54
abbrev f___sched_ring__push : Nat := 55
abbrev f___sched_ring__turn : Nat := 56
abbrev f_edit_Check : Nat := 57
abbrev f_edit_clash : Nat := 58
abbrev f_edit_Moved : Nat := 59
abbrev f_ref_EditFault : Nat := 60
abbrev f_ref_EditOver_1 : Nat := 61
abbrev f_ref_EditOver_2 : Nat := 62
abbrev f_ref_editPlace : Nat := 63
abbrev f_find_fault : Nat := 64
abbrev f_find_In : Nat := 65
abbrev f_ref_findFault : Nat := 66
abbrev f_ref_standsAt : Nat := 67
abbrev f_slices_IndexFunc___int_int_ : Nat := 68
abbrev f_internal_stringslite_IndexByte : Nat := 69
abbrev f_edit_Undo : Nat := 70
abbrev f_edit_Made : Nat := 71
abbrev f_ref_editMade : Nat := 72
abbrev f_strings_LastIndexByte : Nat := 73
abbrev f_edit_nothing : Nat := 74
abbrev f_edit_within : Nat := 75
abbrev f_find_border : Nat := 76
abbrev f_internal_bytealg_LastIndexByteString : Nat := 78

/-- fustian/edit.Check: slots [0 size, 1 e, 2 size, 3 e] -/
def edit_Check_c : SCode :=
  (.seq (.ops [⟨(some 3), .box 0 (.t 1), none, false⟩,
    ⟨(some 4), .mov (.c (.int .i64 0)), none, false⟩] none [0, 3])
  (.seq (.block 0 (.seq (.ops [⟨(some 6), .mov (.t 0), none, false⟩,
    ⟨(some 7), .bin .none .lss (.t 6) (.c (.int .i64 0)), none, false⟩,
    ⟨(some 8), .mov (.t 7), none, true⟩,
    ⟨(some 9), .mov (.t 0), (some (8, false)), false⟩,
    ⟨(some 10), .bin .none .gtr (.t 9) (.c (.int .i64 600)), (some (8, false)), false⟩,
    ⟨(some 11), .pick (.t 8) (.c (.bool true)) (.t 10), none, false⟩,
    ⟨(some 12), .mov (.t 11), none, true⟩,
    ⟨(some 13), .faddr 0 (.t 3), (some (12, false)), false⟩,
    ⟨(some 14), .load 1 false (.t 13), (some (12, false)), false⟩,
    ⟨(some 15), .bin .none .lss (.t 14) (.c (.int .i64 0)), (some (12, false)), false⟩,
    ⟨(some 16), .pick (.t 12) (.c (.bool true)) (.t 15), none, false⟩,
    ⟨(some 17), .mov (.t 16), none, true⟩,
    ⟨(some 18), .faddr 0 (.t 3), (some (17, false)), false⟩,
    ⟨(some 19), .load 1 false (.t 18), (some (17, false)), false⟩,
    ⟨(some 20), .mov (.t 0), (some (17, false)), false⟩,
    ⟨(some 21), .bin .none .gtr (.t 19) (.t 20), (some (17, false)), false⟩,
    ⟨(some 22), .pick (.t 17) (.c (.bool true)) (.t 21), none, false⟩,
    ⟨(some 23), .mov (.t 22), none, true⟩,
    ⟨(some 24), .faddr 1 (.t 3), (some (23, false)), false⟩,
    ⟨(some 25), .load 1 false (.t 24), (some (23, false)), false⟩,
    ⟨(some 26), .bin .none .lss (.t 25) (.c (.int .i64 0)), (some (23, false)), false⟩,
    ⟨(some 27), .pick (.t 23) (.c (.bool true)) (.t 26), none, false⟩,
    ⟨(some 28), .mov (.t 27), none, true⟩,
    ⟨(some 29), .faddr 1 (.t 3), (some (28, false)), false⟩,
    ⟨(some 30), .load 1 false (.t 29), (some (28, false)), false⟩,
    ⟨(some 31), .mov (.t 0), (some (28, false)), false⟩,
    ⟨(some 32), .faddr 0 (.t 3), (some (28, false)), false⟩,
    ⟨(some 33), .load 1 false (.t 32), (some (28, false)), false⟩,
    ⟨(some 34), .bin .none .sub (.t 31) (.t 33), (some (28, false)), false⟩,
    ⟨(some 35), .bin .none .gtr (.t 30) (.t 34), (some (28, false)), false⟩,
    ⟨(some 36), .pick (.t 28) (.c (.bool true)) (.t 35), none, false⟩,
    ⟨(some 5), .mov (.t 36), none, false⟩] none [0, 3, 5])
  (.cond (.t 5)
    (.seq (.ops [⟨(some 4), .mov (.c (.int .i64 2)), none, false⟩] none [4])
    .ret)
    (.seq (.ops [⟨(some 38), .mov (.t 0), none, false⟩,
      ⟨(some 39), .faddr 1 (.t 3), none, false⟩,
      ⟨(some 40), .load 1 false (.t 39), none, false⟩,
      ⟨(some 41), .bin .none .sub (.t 38) (.t 40), none, false⟩,
      ⟨(some 42), .faddr 2 (.t 3), none, false⟩,
      ⟨(some 43), .load 1 false (.t 42), none, false⟩,
      ⟨(some 44), .len true (.t 43), none, false⟩,
      ⟨(some 45), .bin .none .add (.t 41) (.t 44), none, false⟩,
      ⟨(some 46), .bin .none .gtr (.t 45) (.c (.int .i64 600)), none, false⟩,
      ⟨(some 37), .mov (.t 46), none, false⟩] none [37])
    (.cond (.t 37)
      (.seq (.ops [⟨(some 4), .mov (.c (.int .i64 1)), none, false⟩] none [4])
      .ret)
      .skip)))))
  (.seq (.ops [⟨(some 4), .mov (.c (.int .i64 0)), none, false⟩] none [4])
  .ret)))
def edit_Check_r : List RRes := [.tmp 4]
def edit_Check_hi : Hi := ⟨[(3, (.st (.cons (.int .i64) (.cons (.int .i64) (.cons .str .nil)))))], [(0, "size"), (1, "e"), (2, "size"), (3, "e")]⟩
def edit_Check_an : An := .d
def edit_Check_fi : Fi := ⟨47, edit_Check_c, edit_Check_r, edit_Check_an, edit_Check_hi⟩
theorem edit_Check_ok : FiOk Try.prog f_edit_Check edit_Check_fi :=
  ⟨by kernel_rfl, fun h hlen => fun_sound (fn := Try.f57) (draw_sound _ _) Try.func57 rfl (by kernel_rfl : comp Try.prog 47 _ edit_Check_c = some edit_Check_c) (by kernel_rfl : cRes Try.prog Try.f57.results.toList = some edit_Check_r) hlen h⟩

/-- fustian/edit.nothing: slots [0 e, 1 e] -/
def edit_nothing_c : SCode :=
  (.seq (.ops [⟨(some 1), .box 0 (.t 0), none, false⟩,
    ⟨(some 2), .mov (.c (.bool false)), none, false⟩] none [1])
  (.seq (.ops [⟨(some 3), .faddr 1 (.t 1), none, false⟩,
    ⟨(some 4), .load 1 false (.t 3), none, false⟩,
    ⟨(some 5), .bin .none .eql (.t 4) (.c (.int .i64 0)), none, false⟩,
    ⟨(some 6), .mov (.t 5), none, true⟩,
    ⟨(some 7), .faddr 2 (.t 1), (some (6, true)), false⟩,
    ⟨(some 8), .load 1 false (.t 7), (some (6, true)), false⟩,
    ⟨(some 9), .bin .none .eql (.t 8) (.c (.str [])), (some (6, true)), false⟩,
    ⟨(some 10), .pick (.t 6) (.t 9) (.c (.bool false)), none, false⟩,
    ⟨(some 2), .mov (.t 10), none, false⟩] none [2])
  .ret))
def edit_nothing_r : List RRes := [.tmp 2]
def edit_nothing_hi : Hi := ⟨[(1, (.st (.cons (.int .i64) (.cons (.int .i64) (.cons .str .nil)))))], [(0, "e"), (1, "e")]⟩
def edit_nothing_an : An := .d
def edit_nothing_fi : Fi := ⟨11, edit_nothing_c, edit_nothing_r, edit_nothing_an, edit_nothing_hi⟩
theorem edit_nothing_ok : FiOk Try.prog f_edit_nothing edit_nothing_fi :=
  ⟨by kernel_rfl, fun h hlen => fun_sound (fn := Try.f74) (draw_sound _ _) Try.func74 rfl (by kernel_rfl : comp Try.prog 11 _ edit_nothing_c = some edit_nothing_c) (by kernel_rfl : cRes Try.prog Try.f74.results.toList = some edit_nothing_r) hlen h⟩

/-- fustian/edit.within: slots [0 a, 1 b, 2 a, 3 b] -/
def edit_within_c : SCode :=
  (.seq (.ops [⟨(some 2), .box 0 (.t 0), none, false⟩,
    ⟨(some 3), .box 0 (.t 1), none, false⟩,
    ⟨(some 4), .mov (.c (.bool false)), none, false⟩] none [2, 3])
  (.seq (.ops [⟨(some 5), .faddr 2 (.t 2), none, false⟩,
    ⟨(some 6), .load 1 false (.t 5), none, false⟩,
    ⟨(some 7), .bin .none .neq (.t 6) (.c (.str [])), none, false⟩,
    ⟨(some 8), .mov (.t 7), none, true⟩,
    ⟨(some 9), .faddr 0 (.t 2), (some (8, true)), false⟩,
    ⟨(some 10), .load 1 false (.t 9), (some (8, true)), false⟩,
    ⟨(some 11), .faddr 0 (.t 3), (some (8, true)), false⟩,
    ⟨(some 12), .load 1 false (.t 11), (some (8, true)), false⟩,
    ⟨(some 13), .bin .none .gtr (.t 10) (.t 12), (some (8, true)), false⟩,
    ⟨(some 14), .pick (.t 8) (.t 13) (.c (.bool false)), none, false⟩,
    ⟨(some 15), .mov (.t 14), none, true⟩,
    ⟨(some 16), .faddr 0 (.t 2), (some (15, true)), false⟩,
    ⟨(some 17), .load 1 false (.t 16), (some (15, true)), false⟩,
    ⟨(some 18), .faddr 0 (.t 3), (some (15, true)), false⟩,
    ⟨(some 19), .load 1 false (.t 18), (some (15, true)), false⟩,
    ⟨(some 20), .faddr 1 (.t 3), (some (15, true)), false⟩,
    ⟨(some 21), .load 1 false (.t 20), (some (15, true)), false⟩,
    ⟨(some 22), .bin .none .add (.t 19) (.t 21), (some (15, true)), false⟩,
    ⟨(some 23), .bin .none .lss (.t 17) (.t 22), (some (15, true)), false⟩,
    ⟨(some 24), .pick (.t 15) (.t 23) (.c (.bool false)), none, false⟩,
    ⟨(some 4), .mov (.t 24), none, false⟩] none [4])
  .ret))
def edit_within_r : List RRes := [.tmp 4]
def edit_within_hi : Hi := ⟨[(2, (.st (.cons (.int .i64) (.cons (.int .i64) (.cons .str .nil))))), (3, (.st (.cons (.int .i64) (.cons (.int .i64) (.cons .str .nil)))))], [(0, "a"), (1, "b"), (2, "a"), (3, "b")]⟩
def edit_within_an : An := .d
def edit_within_fi : Fi := ⟨25, edit_within_c, edit_within_r, edit_within_an, edit_within_hi⟩
theorem edit_within_ok : FiOk Try.prog f_edit_within edit_within_fi :=
  ⟨by kernel_rfl, fun h hlen => fun_sound (fn := Try.f75) (draw_sound _ _) Try.func75 rfl (by kernel_rfl : comp Try.prog 25 _ edit_within_c = some edit_within_c) (by kernel_rfl : cRes Try.prog Try.f75.results.toList = some edit_within_r) hlen h⟩

/-- fustian/edit.clash: slots [0 a, 1 b, 2 a, 3 b] -/
def edit_clash_c : SCode :=
  (.seq (.ops [⟨(some 2), .box 0 (.t 0), none, false⟩,
    ⟨(some 3), .box 0 (.t 1), none, false⟩,
    ⟨(some 4), .mov (.c (.bool false)), none, false⟩] none [2, 3])
  (.seq (.seq (.ops [⟨(some 5), .load 3 true (.t 2), none, false⟩,
    ⟨(some 6), .call f_edit_nothing [(.t 5)], none, false⟩,
    ⟨(some 7), .mov (.t 6), none, true⟩,
    ⟨(some 8), .load 3 true (.t 3), (some (7, false)), false⟩,
    ⟨(some 9), .call f_edit_nothing [(.t 8)], (some (7, false)), false⟩,
    ⟨(some 10), .pick (.t 7) (.c (.bool true)) (.t 9), none, false⟩] none [2, 3, 10])
  (.cond (.t 10)
    (.seq (.ops [⟨(some 4), .mov (.c (.bool false)), none, false⟩] none [4])
    .ret)
    .skip))
  (.seq (.ops [⟨(some 11), .faddr 0 (.t 2), none, false⟩,
    ⟨(some 12), .load 1 false (.t 11), none, false⟩,
    ⟨(some 13), .faddr 0 (.t 3), none, false⟩,
    ⟨(some 14), .load 1 false (.t 13), none, false⟩,
    ⟨(some 15), .max [(.t 12), (.t 14)], none, false⟩,
    ⟨(some 16), .faddr 0 (.t 2), none, false⟩,
    ⟨(some 17), .load 1 false (.t 16), none, false⟩,
    ⟨(some 18), .faddr 1 (.t 2), none, false⟩,
    ⟨(some 19), .load 1 false (.t 18), none, false⟩,
    ⟨(some 20), .bin .none .add (.t 17) (.t 19), none, false⟩,
    ⟨(some 21), .faddr 0 (.t 3), none, false⟩,
    ⟨(some 22), .load 1 false (.t 21), none, false⟩,
    ⟨(some 23), .faddr 1 (.t 3), none, false⟩,
    ⟨(some 24), .load 1 false (.t 23), none, false⟩,
    ⟨(some 25), .bin .none .add (.t 22) (.t 24), none, false⟩,
    ⟨(some 26), .min [(.t 20), (.t 25)], none, false⟩,
    ⟨(some 27), .bin .none .lss (.t 15) (.t 26), none, false⟩,
    ⟨(some 28), .mov (.t 27), none, true⟩,
    ⟨(some 29), .load 3 true (.t 2), (some (28, false)), false⟩,
    ⟨(some 30), .load 3 true (.t 3), (some (28, false)), false⟩,
    ⟨(some 31), .call f_edit_within [(.t 29), (.t 30)], (some (28, false)), false⟩,
    ⟨(some 32), .pick (.t 28) (.c (.bool true)) (.t 31), none, false⟩,
    ⟨(some 33), .mov (.t 32), none, true⟩,
    ⟨(some 34), .load 3 true (.t 3), (some (33, false)), false⟩,
    ⟨(some 35), .load 3 true (.t 2), (some (33, false)), false⟩,
    ⟨(some 36), .call f_edit_within [(.t 34), (.t 35)], (some (33, false)), false⟩,
    ⟨(some 37), .pick (.t 33) (.c (.bool true)) (.t 36), none, false⟩,
    ⟨(some 4), .mov (.t 37), none, false⟩] none [4])
  .ret)))
def edit_clash_r : List RRes := [.tmp 4]
def edit_clash_hi : Hi := ⟨[(2, (.st (.cons (.int .i64) (.cons (.int .i64) (.cons .str .nil))))), (3, (.st (.cons (.int .i64) (.cons (.int .i64) (.cons .str .nil)))))], [(0, "a"), (1, "b"), (2, "a"), (3, "b")]⟩
def edit_clash_an : An := .d
def edit_clash_fi : Fi := ⟨38, edit_clash_c, edit_clash_r, edit_clash_an, edit_clash_hi⟩
theorem edit_clash_ok : FiOk Try.prog f_edit_clash edit_clash_fi :=
  ⟨by kernel_rfl, fun h hlen => fun_sound (fn := Try.f58) (draw_sound _ _) Try.func58 rfl (by kernel_rfl : comp Try.prog 38 _ edit_clash_c = some edit_clash_c) (by kernel_rfl : cRes Try.prog Try.f58.results.toList = some edit_clash_r) hlen h⟩

/-- fustian/edit.Moved: slots [0 e, 1 at, 2 right, 3 e, 4 at, 5 right] -/
def edit_Moved_c : SCode :=
  (.seq (.ops [⟨(some 3), .box 0 (.t 0), none, false⟩,
    ⟨(some 6), .mov (.c (.int .i64 0)), none, false⟩] none [1, 2, 3])
  (.seq (.block 0 (.seq (.ops [⟨(some 8), .mov (.t 1), none, false⟩,
    ⟨(some 9), .faddr 0 (.t 3), none, false⟩,
    ⟨(some 10), .load 1 false (.t 9), none, false⟩,
    ⟨(some 11), .bin .none .lss (.t 8) (.t 10), none, false⟩,
    ⟨(some 7), .mov (.t 11), none, false⟩] none [1, 2, 3, 7])
  (.cond (.t 7)
    (.seq (.ops [⟨(some 12), .mov (.t 1), none, false⟩,
      ⟨(some 6), .mov (.t 12), none, false⟩] none [6])
    .ret)
    (.join [1, 2, 3] [13] 1 (.seq (.ops [⟨(some 14), .faddr 1 (.t 3), none, false⟩,
        ⟨(some 15), .load 1 false (.t 14), none, false⟩,
        ⟨(some 16), .bin .none .eql (.t 15) (.c (.int .i64 0)), none, false⟩,
        ⟨(some 17), .mov (.t 16), none, true⟩,
        ⟨(some 18), .mov (.t 1), (some (17, true)), false⟩,
        ⟨(some 19), .faddr 0 (.t 3), (some (17, true)), false⟩,
        ⟨(some 20), .load 1 false (.t 19), (some (17, true)), false⟩,
        ⟨(some 21), .bin .none .gtr (.t 18) (.t 20), (some (17, true)), false⟩,
        ⟨(some 22), .pick (.t 17) (.t 21) (.c (.bool false)), none, false⟩,
        ⟨(some 13), .mov (.t 22), none, false⟩] none [1, 2, 3, 13])
      (.cond (.t 13)
        .skip
        (.ops [⟨(some 23), .faddr 1 (.t 3), none, false⟩,
          ⟨(some 24), .load 1 false (.t 23), none, false⟩,
          ⟨(some 25), .bin .none .gtr (.t 24) (.c (.int .i64 0)), none, false⟩,
          ⟨(some 26), .mov (.t 25), none, true⟩,
          ⟨(some 27), .mov (.t 1), (some (26, true)), false⟩,
          ⟨(some 28), .faddr 0 (.t 3), (some (26, true)), false⟩,
          ⟨(some 29), .load 1 false (.t 28), (some (26, true)), false⟩,
          ⟨(some 30), .faddr 1 (.t 3), (some (26, true)), false⟩,
          ⟨(some 31), .load 1 false (.t 30), (some (26, true)), false⟩,
          ⟨(some 32), .bin .none .add (.t 29) (.t 31), (some (26, true)), false⟩,
          ⟨(some 33), .bin .none .geq (.t 27) (.t 32), (some (26, true)), false⟩,
          ⟨(some 34), .pick (.t 26) (.t 33) (.c (.bool false)), none, false⟩,
          ⟨(some 13), .mov (.t 34), none, false⟩] none [1, 2, 3, 13])))
    (.cond (.t 13)
      (.seq (.ops [⟨(some 35), .mov (.t 1), none, false⟩,
        ⟨(some 36), .faddr 2 (.t 3), none, false⟩,
        ⟨(some 37), .load 1 false (.t 36), none, false⟩,
        ⟨(some 38), .len true (.t 37), none, false⟩,
        ⟨(some 39), .bin .none .add (.t 35) (.t 38), none, false⟩,
        ⟨(some 40), .faddr 1 (.t 3), none, false⟩,
        ⟨(some 41), .load 1 false (.t 40), none, false⟩,
        ⟨(some 42), .bin .none .sub (.t 39) (.t 41), none, false⟩,
        ⟨(some 6), .mov (.t 42), none, false⟩] none [6])
      .ret)
      (.seq (.ops [⟨(some 44), .mov (.t 2), none, false⟩,
        ⟨(some 43), .mov (.t 44), none, false⟩] none [3, 43])
      (.cond (.t 43)
        (.seq (.ops [⟨(some 45), .faddr 0 (.t 3), none, false⟩,
          ⟨(some 46), .load 1 false (.t 45), none, false⟩,
          ⟨(some 47), .faddr 2 (.t 3), none, false⟩,
          ⟨(some 48), .load 1 false (.t 47), none, false⟩,
          ⟨(some 49), .len true (.t 48), none, false⟩,
          ⟨(some 50), .bin .none .add (.t 46) (.t 49), none, false⟩,
          ⟨(some 6), .mov (.t 50), none, false⟩] none [6])
        .ret)
        .skip)))))))
  (.seq (.ops [⟨(some 51), .faddr 0 (.t 3), none, false⟩,
    ⟨(some 52), .load 1 false (.t 51), none, false⟩,
    ⟨(some 6), .mov (.t 52), none, false⟩] none [6])
  .ret)))
def edit_Moved_r : List RRes := [.tmp 6]
def edit_Moved_hi : Hi := ⟨[(3, (.st (.cons (.int .i64) (.cons (.int .i64) (.cons .str .nil)))))], [(0, "e"), (1, "at"), (2, "right"), (3, "e"), (4, "at"), (5, "right")]⟩
def edit_Moved_an : An := .d
def edit_Moved_fi : Fi := ⟨53, edit_Moved_c, edit_Moved_r, edit_Moved_an, edit_Moved_hi⟩
theorem edit_Moved_ok : FiOk Try.prog f_edit_Moved edit_Moved_fi :=
  ⟨by kernel_rfl, fun h hlen => fun_sound (fn := Try.f59) (draw_sound _ _) Try.func59 rfl (by kernel_rfl : comp Try.prog 53 _ edit_Moved_c = some edit_Moved_c) (by kernel_rfl : cRes Try.prog Try.f59.results.toList = some edit_Moved_r) hlen h⟩

/-- fustian/edit.Over: slots [0 size, 1 a, 2 b, 3 size, 4 a, 5 b, 8 _, 9 x, 10 e, 11 right, 12 out, 13 e] -/
def edit_Over_c : SCode :=
  (.seq (.ops [⟨(some 4), .box 0 (.t 1), none, false⟩,
    ⟨(some 5), .box 0 (.t 2), none, false⟩,
    ⟨(some 6), .alloc 0 [(.int .i64 0), (.int .i64 0), (.str [])], none, false⟩,
    ⟨(some 7), .mov (.c (.int .i64 0)), none, false⟩] none [0, 4, 5, 6])
  (.seq (.seq (.ops [⟨(some 14), .load 3 true (.t 4), none, false⟩,
    ⟨(some 15), .load 3 true (.t 5), none, false⟩,
    ⟨(some 16), .build [(.int .i64 0), (.int .i64 0), (.str []), (.int .i64 0), (.int .i64 0), (.str [])] [(0, 3, (.t 14)), (3, 3, (.t 15))], none, false⟩,
    ⟨(some 17), .mov (.c (.int .i64 0)), none, false⟩] none [0, 4, 5, 6, 16, 17])
  (.block 0 (.loop [0, 4, 5, 6, 16] [17] 3
    (.seq (.ops [⟨(some 18), .bin .none .lss (.t 17) (.c (.int .i64 2)), none, false⟩] none [0, 4, 5, 6, 16, 17, 18])
    (.seq (.cond (.t 18)
      .skip
      (.exit 0))
    (.seq (.block 1 (.seq (.ops [⟨(some 19), .index 3 (some 2) true (.t 16) (.t 17), none, false⟩,
      ⟨(some 9), .alloc 0 [(.int .i64 0), (.int .i64 0), (.str [])], none, false⟩,
      ⟨none, .store 3 (.t 9) (.t 19), none, false⟩] none [0, 4, 5, 6, 9, 16, 17])
    (.seq (.ops [⟨(some 20), .mov (.t 0), none, false⟩,
      ⟨(some 21), .load 3 true (.t 9), none, false⟩,
      ⟨(some 22), .call f_edit_Check [(.t 20), (.t 21)], none, false⟩,
      ⟨(some 10), .mov (.t 22), none, false⟩] none [0, 4, 5, 6, 10, 16, 17])
    (.seq (.ops [⟨(some 23), .mov (.t 10), none, false⟩,
      ⟨(some 24), .bin .none .neq (.t 23) (.c (.int .i64 0)), none, false⟩] none [0, 4, 5, 6, 10, 16, 17, 24])
    (.cond (.t 24)
      (.seq (.ops [⟨(some 25), .build [(.int .i64 0), (.int .i64 0), (.str [])] [], none, false⟩,
        ⟨(some 26), .mov (.t 10), none, false⟩,
        ⟨none, .store 3 (.t 6) (.t 25), none, false⟩,
        ⟨(some 7), .mov (.t 26), none, false⟩] none [6, 7])
      .ret)
      .skip)))))
    (.ops [⟨(some 27), .bin .none .add (.t 17) (.c (.int .i64 1)), none, false⟩,
      ⟨(some 17), .mov (.t 27), none, false⟩] none [0, 4, 5, 6, 16, 17])))))))
  (.seq (.seq (.ops [⟨(some 28), .load 3 true (.t 4), none, false⟩,
    ⟨(some 29), .load 3 true (.t 5), none, false⟩,
    ⟨(some 30), .call f_edit_clash [(.t 28), (.t 29)], none, false⟩] none [0, 4, 5, 6, 30])
  (.cond (.t 30)
    (.seq (.ops [⟨(some 31), .build [(.int .i64 0), (.int .i64 0), (.str [])] [], none, false⟩,
      ⟨none, .store 3 (.t 6) (.t 31), none, false⟩,
      ⟨(some 7), .mov (.c (.int .i64 10)), none, false⟩] none [6, 7])
    .ret)
    .skip))
  (.seq (.ops [⟨(some 32), .faddr 0 (.t 4), none, false⟩,
    ⟨(some 33), .load 1 false (.t 32), none, false⟩,
    ⟨(some 34), .faddr 0 (.t 5), none, false⟩,
    ⟨(some 35), .load 1 false (.t 34), none, false⟩,
    ⟨(some 36), .bin .none .eql (.t 33) (.t 35), none, false⟩,
    ⟨(some 37), .mov (.t 36), none, true⟩,
    ⟨(some 38), .faddr 1 (.t 5), (some (37, true)), false⟩,
    ⟨(some 39), .load 1 false (.t 38), (some (37, true)), false⟩,
    ⟨(some 40), .bin .none .eql (.t 39) (.c (.int .i64 0)), (some (37, true)), false⟩,
    ⟨(some 41), .pick (.t 37) (.t 40) (.c (.bool false)), none, false⟩,
    ⟨(some 42), .mov (.t 41), none, true⟩,
    ⟨(some 43), .faddr 1 (.t 4), (some (42, true)), false⟩,
    ⟨(some 44), .load 1 false (.t 43), (some (42, true)), false⟩,
    ⟨(some 45), .bin .none .gtr (.t 44) (.c (.int .i64 0)), (some (42, true)), false⟩,
    ⟨(some 46), .mov (.t 45), (some (42, true)), true⟩,
    ⟨(some 47), .faddr 2 (.t 4), (some (46, false)), false⟩,
    ⟨(some 48), .load 1 false (.t 47), (some (46, false)), false⟩,
    ⟨(some 49), .faddr 2 (.t 5), (some (46, false)), false⟩,
    ⟨(some 50), .load 1 false (.t 49), (some (46, false)), false⟩,
    ⟨(some 51), .bin .none .gtr (.t 48) (.t 50), (some (46, false)), false⟩,
    ⟨(some 52), .pick (.t 46) (.c (.bool true)) (.t 51), (some (42, true)), false⟩,
    ⟨(some 53), .pick (.t 42) (.t 52) (.c (.bool false)), none, false⟩,
    ⟨(some 11), .mov (.t 53), none, false⟩] none [0, 4, 5, 6, 11])
  (.seq (.ops [⟨(some 54), .load 3 true (.t 4), none, false⟩,
    ⟨(some 12), .alloc 0 [(.int .i64 0), (.int .i64 0), (.str [])], none, false⟩,
    ⟨none, .store 3 (.t 12) (.t 54), none, false⟩] none [0, 4, 5, 6, 11, 12])
  (.seq (.ops [⟨(some 55), .load 3 true (.t 5), none, false⟩,
    ⟨(some 56), .faddr 0 (.t 4), none, false⟩,
    ⟨(some 57), .load 1 false (.t 56), none, false⟩,
    ⟨(some 58), .mov (.t 11), none, false⟩,
    ⟨(some 59), .call f_edit_Moved [(.t 55), (.t 57), (.t 58)], none, false⟩,
    ⟨(some 60), .faddr 0 (.t 12), none, false⟩,
    ⟨none, .store 1 (.t 60) (.t 59), none, false⟩] none [0, 5, 6, 12])
  (.seq (.seq (.ops [⟨(some 61), .mov (.t 0), none, false⟩,
    ⟨(some 62), .faddr 1 (.t 5), none, false⟩,
    ⟨(some 63), .load 1 false (.t 62), none, false⟩,
    ⟨(some 64), .bin .none .sub (.t 61) (.t 63), none, false⟩,
    ⟨(some 65), .faddr 2 (.t 5), none, false⟩,
    ⟨(some 66), .load 1 false (.t 65), none, false⟩,
    ⟨(some 67), .len true (.t 66), none, false⟩,
    ⟨(some 68), .bin .none .add (.t 64) (.t 67), none, false⟩,
    ⟨(some 69), .load 3 true (.t 12), none, false⟩,
    ⟨(some 70), .call f_edit_Check [(.t 68), (.t 69)], none, false⟩,
    ⟨(some 13), .mov (.t 70), none, false⟩] none [6, 12, 13])
  (.seq (.ops [⟨(some 71), .mov (.t 13), none, false⟩,
    ⟨(some 72), .bin .none .neq (.t 71) (.c (.int .i64 0)), none, false⟩] none [6, 12, 13, 72])
  (.cond (.t 72)
    (.seq (.ops [⟨(some 73), .build [(.int .i64 0), (.int .i64 0), (.str [])] [], none, false⟩,
      ⟨(some 74), .mov (.t 13), none, false⟩,
      ⟨none, .store 3 (.t 6) (.t 73), none, false⟩,
      ⟨(some 7), .mov (.t 74), none, false⟩] none [6, 7])
    .ret)
    .skip)))
  (.seq (.ops [⟨(some 75), .load 3 true (.t 12), none, false⟩,
    ⟨none, .store 3 (.t 6) (.t 75), none, false⟩,
    ⟨(some 7), .mov (.c (.int .i64 0)), none, false⟩] none [6, 7])
  .ret))))))))
def edit_Over_r : List RRes := [.cell 6 3 true, .tmp 7]
def edit_Over_hi : Hi := ⟨[(4, (.st (.cons (.int .i64) (.cons (.int .i64) (.cons .str .nil))))), (5, (.st (.cons (.int .i64) (.cons (.int .i64) (.cons .str .nil))))), (6, (.st (.cons (.int .i64) (.cons (.int .i64) (.cons .str .nil))))), (9, (.st (.cons (.int .i64) (.cons (.int .i64) (.cons .str .nil))))), (12, (.st (.cons (.int .i64) (.cons (.int .i64) (.cons .str .nil)))))], [(0, "size"), (1, "a"), (2, "b"), (3, "size"), (4, "a"), (5, "b"), (9, "x"), (10, "e"), (11, "right"), (12, "out"), (13, "e")]⟩
def edit_Over_an : An := (.seq .d (.seq (.seq .d (.loop [6] [] [] .d)) .d))
def edit_Over_fi : Fi := ⟨76, edit_Over_c, edit_Over_r, edit_Over_an, edit_Over_hi⟩
theorem edit_Over_ok : FiOk Try.prog f_edit_Over edit_Over_fi :=
  ⟨by kernel_rfl, fun h hlen => fun_sound (fn := Try.f35) (draw_sound _ _) Try.func35 rfl (by kernel_rfl : comp Try.prog 76 _ edit_Over_c = some edit_Over_c) (by kernel_rfl : cRes Try.prog Try.f35.results.toList = some edit_Over_r) hlen h⟩

/-- fustian/fustianref.EditFault: slots [0 size, 1 e, 2 size, 3 e] -/
def ref_EditFault_c : SCode :=
  (.seq (.ops [⟨(some 3), .box 0 (.t 1), none, false⟩,
    ⟨(some 4), .mov (.c (.int .i64 0)), none, false⟩] none [0, 3])
  (.seq (.seq (.ops [⟨(some 5), .mov (.t 0), none, false⟩,
    ⟨(some 6), .bin .none .lss (.t 5) (.c (.int .i64 0)), none, false⟩,
    ⟨(some 7), .mov (.t 6), none, true⟩,
    ⟨(some 8), .mov (.t 0), (some (7, false)), false⟩,
    ⟨(some 9), .bin .none .gtr (.t 8) (.c (.int .i64 600)), (some (7, false)), false⟩,
    ⟨(some 10), .pick (.t 7) (.c (.bool true)) (.t 9), none, false⟩,
    ⟨(some 11), .mov (.t 10), none, true⟩,
    ⟨(some 12), .faddr 0 (.t 3), (some (11, false)), false⟩,
    ⟨(some 13), .load 1 false (.t 12), (some (11, false)), false⟩,
    ⟨(some 14), .bin .none .lss (.t 13) (.c (.int .i64 0)), (some (11, false)), false⟩,
    ⟨(some 15), .pick (.t 11) (.c (.bool true)) (.t 14), none, false⟩,
    ⟨(some 16), .mov (.t 15), none, true⟩,
    ⟨(some 17), .faddr 1 (.t 3), (some (16, false)), false⟩,
    ⟨(some 18), .load 1 false (.t 17), (some (16, false)), false⟩,
    ⟨(some 19), .bin .none .lss (.t 18) (.c (.int .i64 0)), (some (16, false)), false⟩,
    ⟨(some 20), .pick (.t 16) (.c (.bool true)) (.t 19), none, false⟩,
    ⟨(some 21), .mov (.t 20), none, true⟩,
    ⟨(some 22), .faddr 0 (.t 3), (some (21, false)), false⟩,
    ⟨(some 23), .load 1 false (.t 22), (some (21, false)), false⟩,
    ⟨(some 24), .mov (.t 0), (some (21, false)), false⟩,
    ⟨(some 25), .bin .none .gtr (.t 23) (.t 24), (some (21, false)), false⟩,
    ⟨(some 26), .pick (.t 21) (.c (.bool true)) (.t 25), none, false⟩,
    ⟨(some 27), .mov (.t 26), none, true⟩,
    ⟨(some 28), .faddr 1 (.t 3), (some (27, false)), false⟩,
    ⟨(some 29), .load 1 false (.t 28), (some (27, false)), false⟩,
    ⟨(some 30), .mov (.t 0), (some (27, false)), false⟩,
    ⟨(some 31), .bin .none .gtr (.t 29) (.t 30), (some (27, false)), false⟩,
    ⟨(some 32), .pick (.t 27) (.c (.bool true)) (.t 31), none, false⟩,
    ⟨(some 33), .mov (.t 32), none, true⟩,
    ⟨(some 34), .faddr 0 (.t 3), (some (33, false)), false⟩,
    ⟨(some 35), .load 1 false (.t 34), (some (33, false)), false⟩,
    ⟨(some 36), .faddr 1 (.t 3), (some (33, false)), false⟩,
    ⟨(some 37), .load 1 false (.t 36), (some (33, false)), false⟩,
    ⟨(some 38), .bin .none .add (.t 35) (.t 37), (some (33, false)), false⟩,
    ⟨(some 39), .mov (.t 0), (some (33, false)), false⟩,
    ⟨(some 40), .bin .none .gtr (.t 38) (.t 39), (some (33, false)), false⟩,
    ⟨(some 41), .pick (.t 33) (.c (.bool true)) (.t 40), none, false⟩] none [0, 3, 41])
  (.cond (.t 41)
    (.seq (.ops [⟨(some 4), .mov (.c (.int .i64 2)), none, false⟩] none [4])
    .ret)
    .skip))
  (.seq (.seq (.ops [⟨(some 42), .mov (.t 0), none, false⟩,
    ⟨(some 43), .faddr 2 (.t 3), none, false⟩,
    ⟨(some 44), .load 1 false (.t 43), none, false⟩,
    ⟨(some 45), .len true (.t 44), none, false⟩,
    ⟨(some 46), .bin .none .add (.t 42) (.t 45), none, false⟩,
    ⟨(some 47), .faddr 1 (.t 3), none, false⟩,
    ⟨(some 48), .load 1 false (.t 47), none, false⟩,
    ⟨(some 49), .bin .none .sub (.t 46) (.t 48), none, false⟩,
    ⟨(some 50), .bin .none .gtr (.t 49) (.c (.int .i64 600)), none, false⟩] none [50])
  (.cond (.t 50)
    (.seq (.ops [⟨(some 4), .mov (.c (.int .i64 1)), none, false⟩] none [4])
    .ret)
    .skip))
  (.seq (.ops [⟨(some 4), .mov (.c (.int .i64 0)), none, false⟩] none [4])
  .ret))))
def ref_EditFault_r : List RRes := [.tmp 4]
def ref_EditFault_hi : Hi := ⟨[(3, (.st (.cons (.int .i64) (.cons (.int .i64) (.cons .str .nil)))))], [(0, "size"), (1, "e"), (2, "size"), (3, "e")]⟩
def ref_EditFault_an : An := .d
def ref_EditFault_fi : Fi := ⟨51, ref_EditFault_c, ref_EditFault_r, ref_EditFault_an, ref_EditFault_hi⟩
theorem ref_EditFault_ok : FiOk Try.prog f_ref_EditFault ref_EditFault_fi :=
  ⟨by kernel_rfl, fun h hlen => fun_sound (fn := Try.f60) (draw_sound _ _) Try.func60 rfl (by kernel_rfl : comp Try.prog 51 _ ref_EditFault_c = some ref_EditFault_c) (by kernel_rfl : cRes Try.prog Try.f60.results.toList = some ref_EditFault_r) hlen h⟩

/-- fustian/fustianref.editPlace: slots [0 e, 1 at, 2 right, 3 e, 4 at, 5 right] -/
def ref_editPlace_c : SCode :=
  (.seq (.ops [⟨(some 3), .box 0 (.t 0), none, false⟩,
    ⟨(some 6), .mov (.c (.int .i64 0)), none, false⟩] none [1, 2, 3])
  (.seq (.seq (.ops [⟨(some 7), .mov (.t 1), none, false⟩,
    ⟨(some 8), .faddr 0 (.t 3), none, false⟩,
    ⟨(some 9), .load 1 false (.t 8), none, false⟩,
    ⟨(some 10), .bin .none .lss (.t 7) (.t 9), none, false⟩] none [1, 2, 3, 10])
  (.cond (.t 10)
    (.seq (.ops [⟨(some 11), .mov (.t 1), none, false⟩,
      ⟨(some 6), .mov (.t 11), none, false⟩] none [6])
    .ret)
    .skip))
  (.seq (.seq (.ops [⟨(some 12), .mov (.t 1), none, false⟩,
    ⟨(some 13), .faddr 0 (.t 3), none, false⟩,
    ⟨(some 14), .load 1 false (.t 13), none, false⟩,
    ⟨(some 15), .faddr 1 (.t 3), none, false⟩,
    ⟨(some 16), .load 1 false (.t 15), none, false⟩,
    ⟨(some 17), .bin .none .add (.t 14) (.t 16), none, false⟩,
    ⟨(some 18), .bin .none .geq (.t 12) (.t 17), none, false⟩,
    ⟨(some 19), .mov (.t 18), none, true⟩,
    ⟨(some 20), .faddr 1 (.t 3), (some (19, true)), false⟩,
    ⟨(some 21), .load 1 false (.t 20), (some (19, true)), false⟩,
    ⟨(some 22), .bin .none .eql (.t 21) (.c (.int .i64 0)), (some (19, true)), false⟩,
    ⟨(some 23), .mov (.t 22), (some (19, true)), true⟩,
    ⟨(some 24), .mov (.t 1), (some (23, true)), false⟩,
    ⟨(some 25), .faddr 0 (.t 3), (some (23, true)), false⟩,
    ⟨(some 26), .load 1 false (.t 25), (some (23, true)), false⟩,
    ⟨(some 27), .bin .none .eql (.t 24) (.t 26), (some (23, true)), false⟩,
    ⟨(some 28), .pick (.t 23) (.t 27) (.c (.bool false)), (some (19, true)), false⟩,
    ⟨(some 29), .not (.t 28), (some (19, true)), false⟩,
    ⟨(some 30), .pick (.t 19) (.t 29) (.c (.bool false)), none, false⟩] none [1, 2, 3, 30])
  (.cond (.t 30)
    (.seq (.ops [⟨(some 31), .mov (.t 1), none, false⟩,
      ⟨(some 32), .faddr 1 (.t 3), none, false⟩,
      ⟨(some 33), .load 1 false (.t 32), none, false⟩,
      ⟨(some 34), .bin .none .sub (.t 31) (.t 33), none, false⟩,
      ⟨(some 35), .faddr 2 (.t 3), none, false⟩,
      ⟨(some 36), .load 1 false (.t 35), none, false⟩,
      ⟨(some 37), .len true (.t 36), none, false⟩,
      ⟨(some 38), .bin .none .add (.t 34) (.t 37), none, false⟩,
      ⟨(some 6), .mov (.t 38), none, false⟩] none [6])
    .ret)
    .skip))
  (.seq (.seq (.ops [⟨(some 39), .mov (.t 2), none, false⟩] none [3, 39])
  (.cond (.t 39)
    (.seq (.ops [⟨(some 40), .faddr 0 (.t 3), none, false⟩,
      ⟨(some 41), .load 1 false (.t 40), none, false⟩,
      ⟨(some 42), .faddr 2 (.t 3), none, false⟩,
      ⟨(some 43), .load 1 false (.t 42), none, false⟩,
      ⟨(some 44), .len true (.t 43), none, false⟩,
      ⟨(some 45), .bin .none .add (.t 41) (.t 44), none, false⟩,
      ⟨(some 6), .mov (.t 45), none, false⟩] none [6])
    .ret)
    .skip))
  (.seq (.ops [⟨(some 46), .faddr 0 (.t 3), none, false⟩,
    ⟨(some 47), .load 1 false (.t 46), none, false⟩,
    ⟨(some 6), .mov (.t 47), none, false⟩] none [6])
  .ret)))))
def ref_editPlace_r : List RRes := [.tmp 6]
def ref_editPlace_hi : Hi := ⟨[(3, (.st (.cons (.int .i64) (.cons (.int .i64) (.cons .str .nil)))))], [(0, "e"), (1, "at"), (2, "right"), (3, "e"), (4, "at"), (5, "right")]⟩
def ref_editPlace_an : An := .d
def ref_editPlace_fi : Fi := ⟨48, ref_editPlace_c, ref_editPlace_r, ref_editPlace_an, ref_editPlace_hi⟩
theorem ref_editPlace_ok : FiOk Try.prog f_ref_editPlace ref_editPlace_fi :=
  ⟨by kernel_rfl, fun h hlen => fun_sound (fn := Try.f63) (draw_sound _ _) Try.func63 rfl (by kernel_rfl : comp Try.prog 48 _ ref_editPlace_c = some ref_editPlace_c) (by kernel_rfl : cRes Try.prog Try.f63.results.toList = some ref_editPlace_r) hlen h⟩

/-- fustian/fustianref.EditOver$1: slots [0 x, 1 x] -/
def ref_EditOver_1_c : SCode :=
  (.seq (.ops [⟨(some 1), .box 0 (.t 0), none, false⟩,
    ⟨(some 2), .mov (.c (.bool false)), none, false⟩] none [1])
  (.seq (.ops [⟨(some 3), .faddr 1 (.t 1), none, false⟩,
    ⟨(some 4), .load 1 false (.t 3), none, false⟩,
    ⟨(some 5), .bin .none .gtr (.t 4) (.c (.int .i64 0)), none, false⟩,
    ⟨(some 6), .mov (.t 5), none, true⟩,
    ⟨(some 7), .faddr 2 (.t 1), (some (6, false)), false⟩,
    ⟨(some 8), .load 1 false (.t 7), (some (6, false)), false⟩,
    ⟨(some 9), .bin .none .neq (.t 8) (.c (.str [])), (some (6, false)), false⟩,
    ⟨(some 10), .pick (.t 6) (.c (.bool true)) (.t 9), none, false⟩,
    ⟨(some 2), .mov (.t 10), none, false⟩] none [2])
  .ret))
def ref_EditOver_1_r : List RRes := [.tmp 2]
def ref_EditOver_1_hi : Hi := ⟨[(1, (.st (.cons (.int .i64) (.cons (.int .i64) (.cons .str .nil)))))], [(0, "x"), (1, "x")]⟩
def ref_EditOver_1_an : An := .d
def ref_EditOver_1_fi : Fi := ⟨11, ref_EditOver_1_c, ref_EditOver_1_r, ref_EditOver_1_an, ref_EditOver_1_hi⟩
theorem ref_EditOver_1_ok : FiOk Try.prog f_ref_EditOver_1 ref_EditOver_1_fi :=
  ⟨by kernel_rfl, fun h hlen => fun_sound (fn := Try.f61) (draw_sound _ _) Try.func61 rfl (by kernel_rfl : comp Try.prog 11 _ ref_EditOver_1_c = some ref_EditOver_1_c) (by kernel_rfl : cRes Try.prog Try.f61.results.toList = some ref_EditOver_1_r) hlen h⟩

/-- fustian/fustianref.EditOver$2: slots [0 x, 1 i, 2 x, 3 i] -/
def ref_EditOver_2_c : SCode :=
  (.seq (.ops [⟨(some 2), .box 0 (.t 0), none, false⟩,
    ⟨(some 4), .mov (.c (.bool false)), none, false⟩] none [1, 2])
  (.seq (.ops [⟨(some 5), .faddr 0 (.t 2), none, false⟩,
    ⟨(some 6), .load 1 false (.t 5), none, false⟩,
    ⟨(some 7), .mov (.t 1), none, false⟩,
    ⟨(some 8), .bin .none .leq (.t 6) (.t 7), none, false⟩,
    ⟨(some 9), .mov (.t 8), none, true⟩,
    ⟨(some 10), .mov (.t 1), (some (9, true)), false⟩,
    ⟨(some 11), .faddr 0 (.t 2), (some (9, true)), false⟩,
    ⟨(some 12), .load 1 false (.t 11), (some (9, true)), false⟩,
    ⟨(some 13), .faddr 1 (.t 2), (some (9, true)), false⟩,
    ⟨(some 14), .load 1 false (.t 13), (some (9, true)), false⟩,
    ⟨(some 15), .bin .none .add (.t 12) (.t 14), (some (9, true)), false⟩,
    ⟨(some 16), .bin .none .lss (.t 10) (.t 15), (some (9, true)), false⟩,
    ⟨(some 17), .pick (.t 9) (.t 16) (.c (.bool false)), none, false⟩,
    ⟨(some 4), .mov (.t 17), none, false⟩] none [4])
  .ret))
def ref_EditOver_2_r : List RRes := [.tmp 4]
def ref_EditOver_2_hi : Hi := ⟨[(2, (.st (.cons (.int .i64) (.cons (.int .i64) (.cons .str .nil)))))], [(0, "x"), (1, "i"), (2, "x"), (3, "i")]⟩
def ref_EditOver_2_an : An := .d
def ref_EditOver_2_fi : Fi := ⟨18, ref_EditOver_2_c, ref_EditOver_2_r, ref_EditOver_2_an, ref_EditOver_2_hi⟩
theorem ref_EditOver_2_ok : FiOk Try.prog f_ref_EditOver_2 ref_EditOver_2_fi :=
  ⟨by kernel_rfl, fun h hlen => fun_sound (fn := Try.f62) (draw_sound _ _) Try.func62 rfl (by kernel_rfl : comp Try.prog 18 _ ref_EditOver_2_c = some ref_EditOver_2_c) (by kernel_rfl : cRes Try.prog Try.f62.results.toList = some ref_EditOver_2_r) hlen h⟩

/-- fustian/fustianref.EditOver: slots [0 size, 1 a, 2 b, 3 size, 4 a, 5 b, 8 e, 9 does, 10 cuts, 11 i, 12 right, 13 out, 14 e] -/
def ref_EditOver_c : SCode :=
  (.seq (.ops [⟨(some 4), .box 0 (.t 1), none, false⟩,
    ⟨(some 5), .box 0 (.t 2), none, false⟩,
    ⟨(some 6), .alloc 0 [(.int .i64 0), (.int .i64 0), (.str [])], none, false⟩,
    ⟨(some 7), .mov (.c (.int .i64 0)), none, false⟩] none [0, 4, 5, 6])
  (.seq (.ops [⟨(some 15), .mov (.t 0), none, false⟩,
    ⟨(some 16), .load 3 true (.t 4), none, false⟩,
    ⟨(some 17), .call f_ref_EditFault [(.t 15), (.t 16)], none, false⟩,
    ⟨(some 8), .mov (.t 17), none, false⟩] none [0, 4, 5, 6, 8])
  (.join [0, 4, 5, 6] [8] 3 (.seq (.ops [⟨(some 18), .mov (.t 8), none, false⟩,
      ⟨(some 19), .bin .none .eql (.t 18) (.c (.int .i64 0)), none, false⟩] none [0, 4, 5, 6, 8, 19])
    (.cond (.t 19)
      (.ops [⟨(some 20), .mov (.t 0), none, false⟩,
        ⟨(some 21), .load 3 true (.t 5), none, false⟩,
        ⟨(some 22), .call f_ref_EditFault [(.t 20), (.t 21)], none, false⟩,
        ⟨(some 8), .mov (.t 22), none, false⟩] none [0, 4, 5, 6, 8])
      .skip))
  (.seq (.seq (.ops [⟨(some 23), .mov (.t 8), none, false⟩,
    ⟨(some 24), .bin .none .neq (.t 23) (.c (.int .i64 0)), none, false⟩] none [0, 4, 5, 6, 8, 24])
  (.cond (.t 24)
    (.seq (.ops [⟨(some 25), .build [(.int .i64 0), (.int .i64 0), (.str [])] [], none, false⟩,
      ⟨(some 26), .mov (.t 8), none, false⟩,
      ⟨none, .store 3 (.t 6) (.t 25), none, false⟩,
      ⟨(some 7), .mov (.t 26), none, false⟩] none [6, 7])
    .ret)
    .skip))
  (.seq (.ops [⟨(some 9), .mov (.c (.fn (.func f_ref_EditOver_1) [] [])), none, false⟩] none [0, 4, 5, 6, 9])
  (.join [0, 4, 5, 6] [] 3 (.seq (.ops [⟨(some 27), .mov (.t 9), none, false⟩,
      ⟨(some 28), .load 3 true (.t 4), none, false⟩,
      ⟨(some 29), .callv (.t 27) [(.t 28)], none, false⟩,
      ⟨(some 30), .mov (.t 29), none, true⟩,
      ⟨(some 31), .mov (.t 9), (some (30, true)), false⟩,
      ⟨(some 32), .load 3 true (.t 5), (some (30, true)), false⟩,
      ⟨(some 33), .callv (.t 31) [(.t 32)], (some (30, true)), false⟩,
      ⟨(some 34), .pick (.t 30) (.t 33) (.c (.bool false)), none, false⟩] none [0, 4, 5, 6, 34])
    (.cond (.t 34)
      (.seq (.ops [⟨(some 10), .mov (.c (.fn (.func f_ref_EditOver_2) [] [])), none, false⟩] none [0, 4, 5, 6, 10])
      (.seq (.ops [⟨(some 11), .mov (.c (.int .i64 0)), none, false⟩] none [0, 4, 5, 6, 10, 11])
      (.block 0 (.loop [0, 4, 5, 6, 10] [11] 3
        (.seq (.seq (.ops [⟨(some 35), .mov (.t 11), none, false⟩,
          ⟨(some 36), .mov (.t 0), none, false⟩,
          ⟨(some 37), .bin .none .lss (.t 35) (.t 36), none, false⟩] none [0, 4, 5, 6, 10, 11, 37])
        (.cond (.t 37)
          .skip
          (.exit 0)))
        (.seq (.block 1 (.seq (.seq (.ops [⟨(some 40), .mov (.t 10), none, false⟩,
          ⟨(some 41), .load 3 true (.t 4), none, false⟩,
          ⟨(some 42), .mov (.t 11), none, false⟩,
          ⟨(some 43), .callv (.t 40) [(.t 41), (.t 42)], none, false⟩,
          ⟨(some 44), .mov (.t 43), none, true⟩,
          ⟨(some 45), .mov (.t 10), (some (44, true)), false⟩,
          ⟨(some 46), .load 3 true (.t 5), (some (44, true)), false⟩,
          ⟨(some 47), .mov (.t 11), (some (44, true)), false⟩,
          ⟨(some 48), .callv (.t 45) [(.t 46), (.t 47)], (some (44, true)), false⟩,
          ⟨(some 49), .pick (.t 44) (.t 48) (.c (.bool false)), none, false⟩] none [0, 4, 5, 6, 10, 11, 49])
        (.cond (.t 49)
          (.seq (.ops [⟨(some 50), .build [(.int .i64 0), (.int .i64 0), (.str [])] [], none, false⟩,
            ⟨none, .store 3 (.t 6) (.t 50), none, false⟩,
            ⟨(some 7), .mov (.c (.int .i64 10)), none, false⟩] none [6, 7])
          .ret)
          .skip))
        (.seq (.ops [⟨(some 51), .faddr 2 (.t 4), none, false⟩,
          ⟨(some 52), .load 1 false (.t 51), none, false⟩,
          ⟨(some 53), .bin .none .neq (.t 52) (.c (.str [])), none, false⟩,
          ⟨(some 54), .mov (.t 53), none, true⟩,
          ⟨(some 55), .faddr 0 (.t 4), (some (54, true)), false⟩,
          ⟨(some 56), .load 1 false (.t 55), (some (54, true)), false⟩,
          ⟨(some 57), .mov (.t 11), (some (54, true)), false⟩,
          ⟨(some 58), .bin .none .eql (.t 56) (.t 57), (some (54, true)), false⟩,
          ⟨(some 59), .pick (.t 54) (.t 58) (.c (.bool false)), none, false⟩,
          ⟨(some 60), .mov (.t 59), none, true⟩,
          ⟨(some 61), .mov (.t 10), (some (60, true)), false⟩,
          ⟨(some 62), .load 3 true (.t 5), (some (60, true)), false⟩,
          ⟨(some 63), .mov (.t 11), (some (60, true)), false⟩,
          ⟨(some 64), .bin .none .sub (.t 63) (.c (.int .i64 1)), (some (60, true)), false⟩,
          ⟨(some 65), .callv (.t 61) [(.t 62), (.t 64)], (some (60, true)), false⟩,
          ⟨(some 66), .pick (.t 60) (.t 65) (.c (.bool false)), none, false⟩,
          ⟨(some 67), .mov (.t 66), none, true⟩,
          ⟨(some 68), .mov (.t 10), (some (67, true)), false⟩,
          ⟨(some 69), .load 3 true (.t 5), (some (67, true)), false⟩,
          ⟨(some 70), .mov (.t 11), (some (67, true)), false⟩,
          ⟨(some 71), .callv (.t 68) [(.t 69), (.t 70)], (some (67, true)), false⟩,
          ⟨(some 72), .pick (.t 67) (.t 71) (.c (.bool false)), none, false⟩,
          ⟨(some 73), .mov (.t 72), none, true⟩,
          ⟨(some 74), .faddr 2 (.t 5), (some (73, false)), false⟩,
          ⟨(some 75), .load 1 false (.t 74), (some (73, false)), false⟩,
          ⟨(some 76), .bin .none .neq (.t 75) (.c (.str [])), (some (73, false)), false⟩,
          ⟨(some 77), .mov (.t 76), (some (73, false)), true⟩,
          ⟨(some 78), .faddr 0 (.t 5), (some (77, true)), false⟩,
          ⟨(some 79), .load 1 false (.t 78), (some (77, true)), false⟩,
          ⟨(some 80), .mov (.t 11), (some (77, true)), false⟩,
          ⟨(some 81), .bin .none .eql (.t 79) (.t 80), (some (77, true)), false⟩,
          ⟨(some 82), .pick (.t 77) (.t 81) (.c (.bool false)), (some (73, false)), false⟩,
          ⟨(some 83), .mov (.t 82), (some (73, false)), true⟩,
          ⟨(some 84), .mov (.t 10), (some (83, true)), false⟩,
          ⟨(some 85), .load 3 true (.t 4), (some (83, true)), false⟩,
          ⟨(some 86), .mov (.t 11), (some (83, true)), false⟩,
          ⟨(some 87), .bin .none .sub (.t 86) (.c (.int .i64 1)), (some (83, true)), false⟩,
          ⟨(some 88), .callv (.t 84) [(.t 85), (.t 87)], (some (83, true)), false⟩,
          ⟨(some 89), .pick (.t 83) (.t 88) (.c (.bool false)), (some (73, false)), false⟩,
          ⟨(some 90), .mov (.t 89), (some (73, false)), true⟩,
          ⟨(some 91), .mov (.t 10), (some (90, true)), false⟩,
          ⟨(some 92), .load 3 true (.t 4), (some (90, true)), false⟩,
          ⟨(some 93), .mov (.t 11), (some (90, true)), false⟩,
          ⟨(some 94), .callv (.t 91) [(.t 92), (.t 93)], (some (90, true)), false⟩,
          ⟨(some 95), .pick (.t 90) (.t 94) (.c (.bool false)), (some (73, false)), false⟩,
          ⟨(some 96), .pick (.t 73) (.c (.bool true)) (.t 95), none, false⟩] none [0, 4, 5, 6, 10, 11, 96])
        (.cond (.t 96)
          (.seq (.ops [⟨(some 97), .build [(.int .i64 0), (.int .i64 0), (.str [])] [], none, false⟩,
            ⟨none, .store 3 (.t 6) (.t 97), none, false⟩,
            ⟨(some 7), .mov (.c (.int .i64 10)), none, false⟩] none [6, 7])
          .ret)
          .skip))))
        (.ops [⟨(some 38), .mov (.t 11), none, false⟩,
          ⟨(some 39), .bin .none .add (.t 38) (.c (.int .i64 1)), none, false⟩,
          ⟨(some 11), .mov (.t 39), none, false⟩] none [0, 4, 5, 6, 10, 11])))))))
      .skip))
  (.seq (.ops [⟨(some 12), .mov (.c (.bool false)), none, false⟩] none [0, 4, 5, 6, 12])
  (.join [0, 4, 5, 6] [12] 3 (.seq (.ops [⟨(some 98), .faddr 0 (.t 4), none, false⟩,
      ⟨(some 99), .load 1 false (.t 98), none, false⟩,
      ⟨(some 100), .faddr 0 (.t 5), none, false⟩,
      ⟨(some 101), .load 1 false (.t 100), none, false⟩,
      ⟨(some 102), .bin .none .eql (.t 99) (.t 101), none, false⟩,
      ⟨(some 103), .mov (.t 102), none, true⟩,
      ⟨(some 104), .faddr 1 (.t 5), (some (103, true)), false⟩,
      ⟨(some 105), .load 1 false (.t 104), (some (103, true)), false⟩,
      ⟨(some 106), .bin .none .eql (.t 105) (.c (.int .i64 0)), (some (103, true)), false⟩,
      ⟨(some 107), .pick (.t 103) (.t 106) (.c (.bool false)), none, false⟩] none [0, 4, 5, 6, 12, 107])
    (.cond (.t 107)
      (.ops [⟨(some 108), .faddr 1 (.t 4), none, false⟩,
        ⟨(some 109), .load 1 false (.t 108), none, false⟩,
        ⟨(some 110), .bin .none .gtr (.t 109) (.c (.int .i64 0)), none, false⟩,
        ⟨(some 111), .mov (.t 110), none, true⟩,
        ⟨(some 112), .faddr 2 (.t 5), (some (111, false)), false⟩,
        ⟨(some 113), .load 1 false (.t 112), (some (111, false)), false⟩,
        ⟨(some 114), .faddr 2 (.t 4), (some (111, false)), false⟩,
        ⟨(some 115), .load 1 false (.t 114), (some (111, false)), false⟩,
        ⟨(some 116), .bin .none .lss (.t 113) (.t 115), (some (111, false)), false⟩,
        ⟨(some 117), .pick (.t 111) (.c (.bool true)) (.t 116), none, false⟩,
        ⟨(some 12), .mov (.t 117), none, false⟩] none [0, 4, 5, 6, 12])
      .skip))
  (.seq (.ops [⟨(some 118), .load 3 true (.t 5), none, false⟩,
    ⟨(some 119), .faddr 0 (.t 4), none, false⟩,
    ⟨(some 120), .load 1 false (.t 119), none, false⟩,
    ⟨(some 121), .mov (.t 12), none, false⟩,
    ⟨(some 123), .faddr 1 (.t 4), none, false⟩,
    ⟨(some 124), .load 1 false (.t 123), none, false⟩,
    ⟨(some 125), .faddr 2 (.t 4), none, false⟩,
    ⟨(some 126), .load 1 false (.t 125), none, false⟩,
    ⟨(some 122), .call f_ref_editPlace [(.t 118), (.t 120), (.t 121)], none, false⟩,
    ⟨(some 127), .build [(.int .i64 0), (.int .i64 0), (.str [])] [(0, 1, (.t 122)), (1, 1, (.t 124)), (2, 1, (.t 126))], none, false⟩,
    ⟨(some 13), .alloc 0 [(.int .i64 0), (.int .i64 0), (.str [])], none, false⟩,
    ⟨none, .store 3 (.t 13) (.t 127), none, false⟩] (some (9, 0, [0, 1, 2, 3, 5, 6, 7, 8, 4, 9, 10, 11])) [0, 5, 6, 13])
  (.seq (.seq (.ops [⟨(some 128), .mov (.t 0), none, false⟩,
    ⟨(some 129), .faddr 2 (.t 5), none, false⟩,
    ⟨(some 130), .load 1 false (.t 129), none, false⟩,
    ⟨(some 131), .len true (.t 130), none, false⟩,
    ⟨(some 132), .bin .none .add (.t 128) (.t 131), none, false⟩,
    ⟨(some 133), .faddr 1 (.t 5), none, false⟩,
    ⟨(some 134), .load 1 false (.t 133), none, false⟩,
    ⟨(some 135), .bin .none .sub (.t 132) (.t 134), none, false⟩,
    ⟨(some 136), .load 3 true (.t 13), none, false⟩,
    ⟨(some 137), .call f_ref_EditFault [(.t 135), (.t 136)], none, false⟩,
    ⟨(some 14), .mov (.t 137), none, false⟩] none [6, 13, 14])
  (.seq (.ops [⟨(some 138), .mov (.t 14), none, false⟩,
    ⟨(some 139), .bin .none .neq (.t 138) (.c (.int .i64 0)), none, false⟩] none [6, 13, 14, 139])
  (.cond (.t 139)
    (.seq (.ops [⟨(some 140), .build [(.int .i64 0), (.int .i64 0), (.str [])] [], none, false⟩,
      ⟨(some 141), .mov (.t 14), none, false⟩,
      ⟨none, .store 3 (.t 6) (.t 140), none, false⟩,
      ⟨(some 7), .mov (.t 141), none, false⟩] none [6, 7])
    .ret)
    .skip)))
  (.seq (.ops [⟨(some 142), .load 3 true (.t 13), none, false⟩,
    ⟨none, .store 3 (.t 6) (.t 142), none, false⟩,
    ⟨(some 7), .mov (.c (.int .i64 0)), none, false⟩] none [6, 7])
  .ret)))))))))))
def ref_EditOver_r : List RRes := [.cell 6 3 true, .tmp 7]
def ref_EditOver_hi : Hi := ⟨[(4, (.st (.cons (.int .i64) (.cons (.int .i64) (.cons .str .nil))))), (5, (.st (.cons (.int .i64) (.cons (.int .i64) (.cons .str .nil))))), (6, (.st (.cons (.int .i64) (.cons (.int .i64) (.cons .str .nil))))), (13, (.st (.cons (.int .i64) (.cons (.int .i64) (.cons .str .nil)))))], [(0, "size"), (1, "a"), (2, "b"), (3, "size"), (4, "a"), (5, "b"), (8, "e"), (9, "does"), (10, "cuts"), (11, "i"), (12, "right"), (13, "out"), (14, "e")]⟩
def ref_EditOver_an : An := (.seq .d (.seq .d (.seq .d (.seq .d (.seq .d (.seq (.seq .d (.seq (.seq .d (.seq .d (.loop [10, 6] [] [] .d))) .d)) .d))))))
def ref_EditOver_fi : Fi := ⟨143, ref_EditOver_c, ref_EditOver_r, ref_EditOver_an, ref_EditOver_hi⟩
theorem ref_EditOver_ok : FiOk Try.prog f_ref_EditOver ref_EditOver_fi :=
  ⟨by kernel_rfl, fun h hlen => fun_sound (fn := Try.f36) (draw_sound _ _) Try.func36 rfl (by kernel_rfl : comp Try.prog 143 _ ref_EditOver_c = some ref_EditOver_c) (by kernel_rfl : cRes Try.prog Try.f36.results.toList = some ref_EditOver_r) hlen h⟩

/-- fustian/fustianlaw.EditOvers: slots [0 size, 1 a, 2 b, 3 size, 4 a, 5 b, 7 x, 8 e, 9 y, 10 f] -/
def law_EditOvers_c : SCode :=
  (.seq (.ops [⟨(some 4), .box 0 (.t 1), none, false⟩,
    ⟨(some 5), .box 0 (.t 2), none, false⟩,
    ⟨(some 6), .mov (.c (.bool false)), none, false⟩] none [0, 4, 5])
  (.seq (.ops [⟨(some 12), .mov (.t 0), none, false⟩,
    ⟨(some 13), .load 3 true (.t 4), none, false⟩,
    ⟨(some 14), .load 3 true (.t 5), none, false⟩,
    ⟨(some 15), .call f_edit_Over [(.t 12), (.t 13), (.t 14)], none, false⟩,
    ⟨(some 11), .mov (.t 15), none, false⟩,
    ⟨(some 16), .extract (.t 11) 0, none, false⟩,
    ⟨(some 17), .extract (.t 11) 1, none, false⟩,
    ⟨(some 7), .alloc 0 [(.int .i64 0), (.int .i64 0), (.str [])], none, false⟩,
    ⟨none, .store 3 (.t 7) (.t 16), none, false⟩,
    ⟨(some 8), .mov (.t 17), none, false⟩] none [0, 4, 5, 7, 8])
  (.seq (.ops [⟨(some 19), .mov (.t 0), none, false⟩,
    ⟨(some 20), .load 3 true (.t 4), none, false⟩,
    ⟨(some 21), .load 3 true (.t 5), none, false⟩,
    ⟨(some 22), .call f_ref_EditOver [(.t 19), (.t 20), (.t 21)], none, false⟩,
    ⟨(some 18), .mov (.t 22), none, false⟩,
    ⟨(some 23), .extract (.t 18) 0, none, false⟩,
    ⟨(some 24), .extract (.t 18) 1, none, false⟩,
    ⟨(some 9), .alloc 0 [(.int .i64 0), (.int .i64 0), (.str [])], none, false⟩,
    ⟨none, .store 3 (.t 9) (.t 23), none, false⟩,
    ⟨(some 10), .mov (.t 24), none, false⟩] none [7, 8, 9, 10])
  (.seq (.ops [⟨(some 25), .load 3 true (.t 7), none, false⟩,
    ⟨(some 26), .load 3 true (.t 9), none, false⟩,
    ⟨(some 27), .bin (.agg [.int, .int, .str]) .eql (.t 25) (.t 26), none, false⟩,
    ⟨(some 28), .mov (.t 27), none, true⟩,
    ⟨(some 29), .mov (.t 8), (some (28, true)), false⟩,
    ⟨(some 30), .mov (.t 10), (some (28, true)), false⟩,
    ⟨(some 31), .bin .none .eql (.t 29) (.t 30), (some (28, true)), false⟩,
    ⟨(some 32), .pick (.t 28) (.t 31) (.c (.bool false)), none, false⟩,
    ⟨(some 6), .mov (.t 32), none, false⟩] none [6])
  .ret))))
def law_EditOvers_r : List RRes := [.tmp 6]
def law_EditOvers_hi : Hi := ⟨[(4, (.st (.cons (.int .i64) (.cons (.int .i64) (.cons .str .nil))))), (5, (.st (.cons (.int .i64) (.cons (.int .i64) (.cons .str .nil))))), (7, (.st (.cons (.int .i64) (.cons (.int .i64) (.cons .str .nil))))), (9, (.st (.cons (.int .i64) (.cons (.int .i64) (.cons .str .nil)))))], [(0, "size"), (1, "a"), (2, "b"), (3, "size"), (4, "a"), (5, "b"), (7, "x"), (8, "e"), (9, "y"), (10, "f")]⟩
def law_EditOvers_an : An := .d
def law_EditOvers_fi : Fi := ⟨33, law_EditOvers_c, law_EditOvers_r, law_EditOvers_an, law_EditOvers_hi⟩
theorem law_EditOvers_ok : FiOk Try.prog f_law_EditOvers law_EditOvers_fi :=
  ⟨by kernel_rfl, fun h hlen => fun_sound (fn := Try.f12) (draw_sound _ _) Try.func12 rfl (by kernel_rfl : comp Try.prog 33 _ law_EditOvers_c = some law_EditOvers_c) (by kernel_rfl : cRes Try.prog Try.f12.results.toList = some law_EditOvers_r) hlen h⟩

end Go.Proofs.Ytcgggoaefceokaa
