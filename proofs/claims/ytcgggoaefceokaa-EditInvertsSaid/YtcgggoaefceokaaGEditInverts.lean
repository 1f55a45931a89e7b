/- The functions' simplified code, printed by a program of the claim's author; each is checked against the program's own code. Conditions: none. -/
import Derived.Test.YtcgggoaefceokaaProg
import Derived.Test.YtcgggoaefceokaaVyM
set_option linter.unusedVariables false
set_option maxRecDepth 100000
namespace Go.Proofs.Ytcgggoaefceokaa
open Go.Vc
abbrev f_gosem_cut_init : Nat := 2
abbrev f_law_WrapChecks : Nat := 3
abbrev f_law_PosFinds : Nat := 4
abbrev f_law_DiffPatches : Nat := 5
abbrev f_law_EditApplies : Nat := 6
abbrev f_law_LinesLines : Nat := 7
abbrev f_law_SpansWidens : Nat := 8
abbrev f_law_EditInverts : Nat := 9
abbrev f_law_WrapGreedies : Nat := 10
abbrev f_law_SchedPlays : Nat := 11
abbrev f_law_EditOvers : Nat := 12
abbrev f_law_FindAlls : Nat := 13
abbrev f_law_WrapBests : Nat := 14
abbrev f_wrap_Check : Nat := 15
abbrev f_ref_WrapFault : Nat := 16
abbrev f_pos_Find : Nat := 17
abbrev f_ref_PosFind : Nat := 18
abbrev f_diff_Patch : Nat := 19
abbrev f_ref_DiffPatch : Nat := 20
abbrev f_law_sameTexts : Nat := 21
abbrev f_edit_Apply : Nat := 22
abbrev f_ref_EditApply : Nat := 23
abbrev f_lines_Line : Nat := 24
abbrev f_ref_LinesLine : Nat := 25
abbrev f_spans_Widen : Nat := 26
abbrev f_ref_SpansWiden : Nat := 27
abbrev f_edit_Invert : Nat := 28
abbrev f_ref_EditInvert : Nat := 29
abbrev f_wrap_Greedy : Nat := 30
abbrev f_ref_WrapGreedy : Nat := 31
abbrev f_law_sameInts : Nat := 32
abbrev f_sched_Play : Nat := 33
abbrev f_ref_SchedPlayed : Nat := 34
abbrev f_edit_Over : Nat := 35
abbrev f_ref_EditOver : Nat := 36
abbrev f_find_All : Nat := 37
abbrev f_ref_FindAll : Nat := 38
abbrev f_wrap_Best : Nat := 39
abbrev f_ref_WrapCost : Nat := 40
abbrev f_ref_WrapLeast : Nat := 41
abbrev f_slices_ContainsFunc___int_int_ : Nat := 42
abbrev f_wrap_Check_1 : Nat := 43
abbrev f_strings_IndexByte : Nat := 44
abbrev f_ref_PosOf : Nat := 45
abbrev f_edit_run : Nat := 46
abbrev f_ref_EditApplied : Nat := 47
abbrev f_lines_may : Nat := 48
abbrev f_sort_Search : Nat := 49
abbrev f_lines_Line_1 : Nat := 50
abbrev f_ref_startsMay : Nat := 51
abbrev f_spans_Widened : Nat := 52
abbrev f_slices_Reverse___api_Edit_api_Edit_ : Nat := 53
abbrev f_ref_lineWide : Nat := 54
abbrev f___sched_ring__push : Nat := 55
abbrev f___sched_ring__turn : Nat := 56
abbrev f_edit_Check : Nat := 57
abbrev f_edit_clash : Nat := 58
abbrev f_edit_Moved : Nat := 59
abbrev f_ref_EditFault : Nat := 60
abbrev f_ref_EditOver_1 : Nat := 61
abbrev f_ref_EditOver_2 : Nat := 62
abbrev f_ref_editPlace : Nat := 63
abbrev f_find_fault : Nat := 64
abbrev f_find_In : Nat := 65
abbrev f_ref_findFault : Nat := 66
abbrev f_ref_standsAt : Nat := 67
abbrev f_slices_IndexFunc___int_int_ : Nat := 68
abbrev f_internal_stringslite_IndexByte : Nat := 69
abbrev f_edit_Undo : Nat := 70
abbrev f_edit_Made : Nat := 71
abbrev f_ref_editMade : Nat := 72
abbrev f_strings_LastIndexByte : Nat := 73
abbrev f_edit_nothing : Nat := 74
abbrev f_edit_within : Nat := 75
abbrev f_find_border : Nat := 76
abbrev f_internal_bytealg_LastIndexByteString : Nat := 78

/-- fustian/edit.Check: slots [0 size, 1 e, 2 size, 3 e] -/
def edit_Check_c : SCode :=
  (.seq (.ops [⟨(some 3), .box 0 (.t 1), none, false⟩,
    ⟨(some 4), .mov (.c (.int .i64 0)), none, false⟩] none [0, 3])
  (.seq (.block 0 (.seq (.ops [⟨(some 6), .mov (.t 0), none, false⟩,
    ⟨(some 7), .bin .none .lss (.t 6) (.c (.int .i64 0)), none, false⟩,
    ⟨(some 8), .mov (.t 7), none, true⟩,
    ⟨(some 9), .mov (.t 0), (some (8, false)), false⟩,
    ⟨(some 10), .bin .none .gtr (.t 9) (.c (.int .i64 600)), (some (8, false)), false⟩,
    ⟨(some 11), .pick (.t 8) (.c (.bool true)) (.t 10), none, false⟩,
    ⟨(some 12), .mov (.t 11), none, true⟩,
    ⟨(some 13), .faddr 0 (.t 3), (some (12, false)), false⟩,
    ⟨(some 14), .load 1 false (.t 13), (some (12, false)), false⟩,
    ⟨(some 15), .bin .none .lss (.t 14) (.c (.int .i64 0)), (some (12, false)), false⟩,
    ⟨(some 16), .pick (.t 12) (.c (.bool true)) (.t 15), none, false⟩,
    ⟨(some 17), .mov (.t 16), none, true⟩,
    ⟨(some 18), .faddr 0 (.t 3), (some (17, false)), false⟩,
    ⟨(some 19), .load 1 false (.t 18), (some (17, false)), false⟩,
    ⟨(some 20), .mov (.t 0), (some (17, false)), false⟩,
    ⟨(some 21), .bin .none .gtr (.t 19) (.t 20), (some (17, false)), false⟩,
    ⟨(some 22), .pick (.t 17) (.c (.bool true)) (.t 21), none, false⟩,
    ⟨(some 23), .mov (.t 22), none, true⟩,
    ⟨(some 24), .faddr 1 (.t 3), (some (23, false)), false⟩,
    ⟨(some 25), .load 1 false (.t 24), (some (23, false)), false⟩,
    ⟨(some 26), .bin .none .lss (.t 25) (.c (.int .i64 0)), (some (23, false)), false⟩,
    ⟨(some 27), .pick (.t 23) (.c (.bool true)) (.t 26), none, false⟩,
    ⟨(some 28), .mov (.t 27), none, true⟩,
    ⟨(some 29), .faddr 1 (.t 3), (some (28, false)), false⟩,
    ⟨(some 30), .load 1 false (.t 29), (some (28, false)), false⟩,
    ⟨(some 31), .mov (.t 0), (some (28, false)), false⟩,
    ⟨(some 32), .faddr 0 (.t 3), (some (28, false)), false⟩,
    ⟨(some 33), .load 1 false (.t 32), (some (28, false)), false⟩,
    ⟨(some 34), .bin .none .sub (.t 31) (.t 33), (some (28, false)), false⟩,
    ⟨(some 35), .bin .none .gtr (.t 30) (.t 34), (some (28, false)), false⟩,
    ⟨(some 36), .pick (.t 28) (.c (.bool true)) (.t 35), none, false⟩,
    ⟨(some 5), .mov (.t 36), none, false⟩] none [0, 3, 5])
  (.cond (.t 5)
    (.seq (.ops [⟨(some 4), .mov (.c (.int .i64 2)), none, false⟩] none [4])
    .ret)
    (.seq (.ops [⟨(some 38), .mov (.t 0), none, false⟩,
      ⟨(some 39), .faddr 1 (.t 3), none, false⟩,
      ⟨(some 40), .load 1 false (.t 39), none, false⟩,
      ⟨(some 41), .bin .none .sub (.t 38) (.t 40), none, false⟩,
      ⟨(some 42), .faddr 2 (.t 3), none, false⟩,
      ⟨(some 43), .load 1 false (.t 42), none, false⟩,
      ⟨(some 44), .len true (.t 43), none, false⟩,
      ⟨(some 45), .bin .none .add (.t 41) (.t 44), none, false⟩,
      ⟨(some 46), .bin .none .gtr (.t 45) (.c (.int .i64 600)), none, false⟩,
      ⟨(some 37), .mov (.t 46), none, false⟩] none [37])
    (.cond (.t 37)
      (.seq (.ops [⟨(some 4), .mov (.c (.int .i64 1)), none, false⟩] none [4])
      .ret)
      .skip)))))
  (.seq (.ops [⟨(some 4), .mov (.c (.int .i64 0)), none, false⟩] none [4])
  .ret)))
def edit_Check_r : List RRes := [.tmp 4]
def edit_Check_hi : Hi := ⟨[], [(0, "size"), (1, "e"), (2, "size"), (3, "e")]⟩
def edit_Check_an : An := .d
def edit_Check_fi : Fi := ⟨47, edit_Check_c, edit_Check_r, edit_Check_an, edit_Check_hi⟩
theorem edit_Check_ok : FiOk Try.prog f_edit_Check edit_Check_fi :=
  ⟨by kernel_rfl, fun h hlen => fun_sound (fn := Try.f57) (draw_sound _ _) Try.func57 rfl (by kernel_rfl : comp Try.prog 47 _ edit_Check_c = some edit_Check_c) (by kernel_rfl : cRes Try.prog Try.f57.results.toList = some edit_Check_r) hlen h⟩

/-- fustian/edit.Made: slots [0 text, 1 e, 2 text, 3 e] -/
def edit_Made_c : SCode :=
  (.seq (.ops [⟨(some 3), .box 0 (.t 1), none, false⟩,
    ⟨(some 4), .mov (.c (.str [])), none, false⟩] none [0, 3])
  (.seq (.ops [⟨(some 5), .mov (.t 0), none, false⟩,
    ⟨(some 6), .faddr 0 (.t 3), none, false⟩,
    ⟨(some 7), .load 1 false (.t 6), none, false⟩,
    ⟨(some 8), .slice 0 (.t 5) none (some (.t 7)), none, false⟩,
    ⟨(some 9), .faddr 2 (.t 3), none, false⟩,
    ⟨(some 10), .load 1 false (.t 9), none, false⟩,
    ⟨(some 11), .bin .none .add (.t 8) (.t 10), none, false⟩,
    ⟨(some 12), .mov (.t 0), none, false⟩,
    ⟨(some 13), .faddr 0 (.t 3), none, false⟩,
    ⟨(some 14), .load 1 false (.t 13), none, false⟩,
    ⟨(some 15), .faddr 1 (.t 3), none, false⟩,
    ⟨(some 16), .load 1 false (.t 15), none, false⟩,
    ⟨(some 17), .bin .none .add (.t 14) (.t 16), none, false⟩,
    ⟨(some 18), .slice 0 (.t 12) (some (.t 17)) none, none, false⟩,
    ⟨(some 19), .bin .none .add (.t 11) (.t 18), none, false⟩,
    ⟨(some 4), .mov (.t 19), none, false⟩] (some (0, 0, [0, 1, 2, 3, 4, 5, 6, 7, 8, 9, 10, 11, 12, 13, 14, 15])) [4])
  .ret))
def edit_Made_r : List RRes := [.tmp 4]
def edit_Made_hi : Hi := ⟨[], [(0, "text"), (1, "e"), (2, "text"), (3, "e")]⟩
def edit_Made_an : An := .d
def edit_Made_fi : Fi := ⟨20, edit_Made_c, edit_Made_r, edit_Made_an, edit_Made_hi⟩
theorem edit_Made_ok : FiOk Try.prog f_edit_Made edit_Made_fi :=
  ⟨by kernel_rfl, fun h hlen => fun_sound (fn := Try.f71) (draw_sound _ _) Try.func71 rfl (by kernel_rfl : comp Try.prog 20 _ edit_Made_c = some edit_Made_c) (by kernel_rfl : cRes Try.prog Try.f71.results.toList = some edit_Made_r) hlen h⟩

/-- fustian/edit.Undo: slots [0 text, 1 e, 2 text, 3 e] -/
def edit_Undo_c : SCode :=
  (.seq (.ops [⟨(some 3), .box 0 (.t 1), none, false⟩,
    ⟨(some 4), .alloc 0 [(.int .i64 0), (.int .i64 0), (.str [])], none, false⟩] none [0, 3, 4])
  (.seq (.ops [⟨(some 5), .faddr 0 (.t 3), none, false⟩,
    ⟨(some 6), .load 1 false (.t 5), none, false⟩,
    ⟨(some 7), .faddr 2 (.t 3), none, false⟩,
    ⟨(some 8), .load 1 false (.t 7), none, false⟩,
    ⟨(some 9), .len true (.t 8), none, false⟩,
    ⟨(some 10), .mov (.t 0), none, false⟩,
    ⟨(some 11), .faddr 0 (.t 3), none, false⟩,
    ⟨(some 12), .load 1 false (.t 11), none, false⟩,
    ⟨(some 13), .faddr 0 (.t 3), none, false⟩,
    ⟨(some 14), .load 1 false (.t 13), none, false⟩,
    ⟨(some 15), .faddr 1 (.t 3), none, false⟩,
    ⟨(some 16), .load 1 false (.t 15), none, false⟩,
    ⟨(some 17), .bin .none .add (.t 14) (.t 16), none, false⟩,
    ⟨(some 18), .slice 0 (.t 10) (some (.t 12)) (some (.t 17)), none, false⟩,
    ⟨(some 19), .build [(.int .i64 0), (.int .i64 0), (.str [])] [(0, 1, (.t 6)), (1, 1, (.t 9)), (2, 1, (.t 18))], none, false⟩,
    ⟨none, .store 3 (.t 4) (.t 19), none, false⟩] (some (0, 0, [0, 1, 2, 3, 4, 5, 6, 7, 8, 9, 10, 11, 12, 13, 14, 15])) [4])
  .ret))
def edit_Undo_r : List RRes := [.cell 4 3 true]
def edit_Undo_hi : Hi := ⟨[], [(0, "text"), (1, "e"), (2, "text"), (3, "e")]⟩
def edit_Undo_an : An := .d
def edit_Undo_fi : Fi := ⟨20, edit_Undo_c, edit_Undo_r, edit_Undo_an, edit_Undo_hi⟩
theorem edit_Undo_ok : FiOk Try.prog f_edit_Undo edit_Undo_fi :=
  ⟨by kernel_rfl, fun h hlen => fun_sound (fn := Try.f70) (draw_sound _ _) Try.func70 rfl (by kernel_rfl : comp Try.prog 20 _ edit_Undo_c = some edit_Undo_c) (by kernel_rfl : cRes Try.prog Try.f70.results.toList = some edit_Undo_r) hlen h⟩

/-- fustian/edit.run: slots [0 text, 1 l, 2 text, 3 l, 7 back, 8 _, 9 x, 10 e] -/
def edit_run_c : SCode :=
  (.seq (.ops [⟨(some 4), .mov (.c (.str [])), none, false⟩,
    ⟨(some 5), .mov (.c .nils), none, false⟩,
    ⟨(some 6), .mov (.c (.int .i64 0)), none, false⟩] none [0, 1])
  (.seq (.seq (.ops [⟨(some 11), .mov (.t 1), none, false⟩,
    ⟨(some 12), .len false (.t 11), none, false⟩,
    ⟨(some 13), .bin .none .gtr (.t 12) (.c (.int .i64 60)), none, false⟩,
    ⟨(some 14), .mov (.t 13), none, true⟩,
    ⟨(some 15), .mov (.t 0), (some (14, false)), false⟩,
    ⟨(some 16), .len true (.t 15), (some (14, false)), false⟩,
    ⟨(some 17), .bin .none .gtr (.t 16) (.c (.int .i64 600)), (some (14, false)), false⟩,
    ⟨(some 18), .pick (.t 14) (.c (.bool true)) (.t 17), none, false⟩] none [0, 1, 18])
  (.cond (.t 18)
    (.seq (.ops [⟨(some 4), .mov (.c (.str [])), none, false⟩,
      ⟨(some 5), .mov (.c .nils), none, false⟩,
      ⟨(some 6), .mov (.c (.int .i64 1)), none, false⟩] none [4, 5, 6])
    .ret)
    .skip))
  (.seq (.ops [⟨(some 7), .newnil 3, none, false⟩] none [0, 1, 7])
  (.seq (.seq (.ops [⟨(some 19), .mov (.t 1), none, false⟩,
    ⟨(some 20), .len false (.t 19), none, false⟩,
    ⟨(some 21), .mov (.c (.int .i64 0)), none, false⟩] none [0, 7, 19, 20, 21])
  (.block 0 (.loop [19, 20] [0, 7, 21] 1
    (.seq (.ops [⟨(some 22), .bin .none .lss (.t 21) (.t 20), none, false⟩] none [0, 7, 19, 20, 21, 22])
    (.seq (.cond (.t 22)
      .skip
      (.exit 0))
    (.seq (.block 1 (.seq (.ops [⟨(some 23), .iaddr 3 none (.t 19) (.t 21), none, false⟩,
      ⟨(some 24), .load 3 true (.t 23), none, false⟩,
      ⟨(some 9), .alloc 0 [(.int .i64 0), (.int .i64 0), (.str [])], none, false⟩,
      ⟨none, .store 3 (.t 9) (.t 24), none, false⟩] none [0, 7, 9, 19, 20, 21])
    (.seq (.seq (.ops [⟨(some 25), .mov (.t 0), none, false⟩,
      ⟨(some 26), .len true (.t 25), none, false⟩,
      ⟨(some 27), .load 3 true (.t 9), none, false⟩,
      ⟨(some 28), .call f_edit_Check [(.t 26), (.t 27)], none, false⟩,
      ⟨(some 10), .mov (.t 28), none, false⟩] none [0, 7, 9, 10, 19, 20, 21])
    (.seq (.ops [⟨(some 29), .mov (.t 10), none, false⟩,
      ⟨(some 30), .bin .none .neq (.t 29) (.c (.int .i64 0)), none, false⟩] none [0, 7, 9, 10, 19, 20, 21, 30])
    (.cond (.t 30)
      (.seq (.ops [⟨(some 31), .mov (.t 10), none, false⟩,
        ⟨(some 4), .mov (.c (.str [])), none, false⟩,
        ⟨(some 5), .mov (.c .nils), none, false⟩,
        ⟨(some 6), .mov (.t 31), none, false⟩] none [4, 5, 6])
      .ret)
      .skip)))
    (.seq (.ops [⟨(some 32), .mov (.t 7), none, false⟩,
      ⟨(some 33), .mov (.t 0), none, false⟩,
      ⟨(some 34), .load 3 true (.t 9), none, false⟩,
      ⟨(some 35), .call f_edit_Undo [(.t 33), (.t 34)], none, false⟩,
      ⟨(some 36), .bslice true 1 3 [(.int .i64 0), (.int .i64 0), (.str [])] [(0, 3, (.t 35))], none, false⟩,
      ⟨(some 37), .append 3 32 (.t 32) (.t 36), none, false⟩,
      ⟨(some 7), .mov (.t 37), none, false⟩] none [0, 7, 9, 19, 20, 21])
    (.ops [⟨(some 38), .mov (.t 0), none, false⟩,
      ⟨(some 39), .load 3 true (.t 9), none, false⟩,
      ⟨(some 40), .call f_edit_Made [(.t 38), (.t 39)], none, false⟩,
      ⟨(some 0), .mov (.t 40), none, false⟩] none [0, 7, 19, 20, 21])))))
    (.ops [⟨(some 41), .bin .none .add (.t 21) (.c (.int .i64 1)), none, false⟩,
      ⟨(some 21), .mov (.t 41), none, false⟩] none [0, 7, 19, 20, 21])))))))
  (.seq (.ops [⟨(some 42), .mov (.t 0), none, false⟩,
    ⟨(some 43), .mov (.t 7), none, false⟩,
    ⟨(some 4), .mov (.t 42), none, false⟩,
    ⟨(some 5), .mov (.t 43), none, false⟩,
    ⟨(some 6), .mov (.c (.int .i64 0)), none, false⟩] none [4, 5, 6])
  .ret)))))
def edit_run_r : List RRes := [.tmp 4, .tmp 5, .tmp 6]
def edit_run_hi : Hi := ⟨[(7, (.st (.cons (.int .i64) (.cons (.int .i64) (.cons .str .nil))))), (36, (.st (.cons (.int .i64) (.cons (.int .i64) (.cons .str .nil))))), (37, (.st (.cons (.int .i64) (.cons (.int .i64) (.cons .str .nil)))))], [(0, "text"), (1, "l"), (2, "text"), (3, "l"), (7, "back"), (9, "x"), (10, "e")]⟩
def edit_run_an : An := (.seq .d (.seq .d (.seq .d (.seq (.seq .d (.loop [7] [] [] .d)) .d))))
def edit_run_fi : Fi := ⟨44, edit_run_c, edit_run_r, edit_run_an, edit_run_hi⟩
theorem edit_run_ok : FiOk Try.prog f_edit_run edit_run_fi :=
  ⟨by kernel_rfl, fun h hlen => fun_sound (fn := Try.f46) (draw_sound _ _) Try.func46 rfl (by kernel_rfl : comp Try.prog 44 _ edit_run_c = some edit_run_c) (by kernel_rfl : cRes Try.prog Try.f46.results.toList = some edit_run_r) hlen h⟩

/-- fustian/edit.Invert: slots [0 text, 1 l, 2 text, 3 l, 6 _, 7 back, 8 e] -/
def edit_Invert_c : SCode :=
  (.seq (.ops [⟨(some 4), .mov (.c .nils), none, false⟩,
    ⟨(some 5), .mov (.c (.int .i64 0)), none, false⟩] none [0, 1])
  (.seq (.ops [⟨(some 10), .mov (.t 0), none, false⟩,
    ⟨(some 11), .mov (.t 1), none, false⟩,
    ⟨(some 12), .call f_edit_run [(.t 10), (.t 11)], none, false⟩,
    ⟨(some 9), .mov (.t 12), none, false⟩,
    ⟨(some 13), .extract (.t 9) 0, none, false⟩,
    ⟨(some 14), .extract (.t 9) 1, none, false⟩,
    ⟨(some 15), .extract (.t 9) 2, none, false⟩,
    ⟨(some 6), .mov (.t 13), none, false⟩,
    ⟨(some 7), .mov (.t 14), none, false⟩,
    ⟨(some 8), .mov (.t 15), none, false⟩] none [7, 8])
  (.seq (.ops [⟨(some 16), .mov (.t 7), none, false⟩,
    ⟨(some 17), .call f_slices_Reverse___api_Edit_api_Edit_ [(.t 16)], none, false⟩] none [7, 8])
  (.seq (.ops [⟨(some 18), .mov (.t 7), none, false⟩,
    ⟨(some 19), .mov (.t 8), none, false⟩,
    ⟨(some 4), .mov (.t 18), none, false⟩,
    ⟨(some 5), .mov (.t 19), none, false⟩] none [4, 5])
  .ret))))
def edit_Invert_r : List RRes := [.tmp 4, .tmp 5]
def edit_Invert_hi : Hi := ⟨[], [(0, "text"), (1, "l"), (2, "text"), (3, "l"), (7, "back"), (8, "e")]⟩
def edit_Invert_an : An := .d
def edit_Invert_fi : Fi := ⟨20, edit_Invert_c, edit_Invert_r, edit_Invert_an, edit_Invert_hi⟩
theorem edit_Invert_ok : FiOk Try.prog f_edit_Invert edit_Invert_fi :=
  ⟨by kernel_rfl, fun h hlen => fun_sound (fn := Try.f28) (draw_sound _ _) Try.func28 rfl (by kernel_rfl : comp Try.prog 20 _ edit_Invert_c = some edit_Invert_c) (by kernel_rfl : cRes Try.prog Try.f28.results.toList = some edit_Invert_r) hlen h⟩

/-- fustian/fustianref.EditFault: slots [0 size, 1 e, 2 size, 3 e] -/
def ref_EditFault_c : SCode :=
  (.seq (.ops [⟨(some 3), .box 0 (.t 1), none, false⟩,
    ⟨(some 4), .mov (.c (.int .i64 0)), none, false⟩] none [0, 3])
  (.seq (.seq (.ops [⟨(some 5), .mov (.t 0), none, false⟩,
    ⟨(some 6), .bin .none .lss (.t 5) (.c (.int .i64 0)), none, false⟩,
    ⟨(some 7), .mov (.t 6), none, true⟩,
    ⟨(some 8), .mov (.t 0), (some (7, false)), false⟩,
    ⟨(some 9), .bin .none .gtr (.t 8) (.c (.int .i64 600)), (some (7, false)), false⟩,
    ⟨(some 10), .pick (.t 7) (.c (.bool true)) (.t 9), none, false⟩,
    ⟨(some 11), .mov (.t 10), none, true⟩,
    ⟨(some 12), .faddr 0 (.t 3), (some (11, false)), false⟩,
    ⟨(some 13), .load 1 false (.t 12), (some (11, false)), false⟩,
    ⟨(some 14), .bin .none .lss (.t 13) (.c (.int .i64 0)), (some (11, false)), false⟩,
    ⟨(some 15), .pick (.t 11) (.c (.bool true)) (.t 14), none, false⟩,
    ⟨(some 16), .mov (.t 15), none, true⟩,
    ⟨(some 17), .faddr 1 (.t 3), (some (16, false)), false⟩,
    ⟨(some 18), .load 1 false (.t 17), (some (16, false)), false⟩,
    ⟨(some 19), .bin .none .lss (.t 18) (.c (.int .i64 0)), (some (16, false)), false⟩,
    ⟨(some 20), .pick (.t 16) (.c (.bool true)) (.t 19), none, false⟩,
    ⟨(some 21), .mov (.t 20), none, true⟩,
    ⟨(some 22), .faddr 0 (.t 3), (some (21, false)), false⟩,
    ⟨(some 23), .load 1 false (.t 22), (some (21, false)), false⟩,
    ⟨(some 24), .mov (.t 0), (some (21, false)), false⟩,
    ⟨(some 25), .bin .none .gtr (.t 23) (.t 24), (some (21, false)), false⟩,
    ⟨(some 26), .pick (.t 21) (.c (.bool true)) (.t 25), none, false⟩,
    ⟨(some 27), .mov (.t 26), none, true⟩,
    ⟨(some 28), .faddr 1 (.t 3), (some (27, false)), false⟩,
    ⟨(some 29), .load 1 false (.t 28), (some (27, false)), false⟩,
    ⟨(some 30), .mov (.t 0), (some (27, false)), false⟩,
    ⟨(some 31), .bin .none .gtr (.t 29) (.t 30), (some (27, false)), false⟩,
    ⟨(some 32), .pick (.t 27) (.c (.bool true)) (.t 31), none, false⟩,
    ⟨(some 33), .mov (.t 32), none, true⟩,
    ⟨(some 34), .faddr 0 (.t 3), (some (33, false)), false⟩,
    ⟨(some 35), .load 1 false (.t 34), (some (33, false)), false⟩,
    ⟨(some 36), .faddr 1 (.t 3), (some (33, false)), false⟩,
    ⟨(some 37), .load 1 false (.t 36), (some (33, false)), false⟩,
    ⟨(some 38), .bin .none .add (.t 35) (.t 37), (some (33, false)), false⟩,
    ⟨(some 39), .mov (.t 0), (some (33, false)), false⟩,
    ⟨(some 40), .bin .none .gtr (.t 38) (.t 39), (some (33, false)), false⟩,
    ⟨(some 41), .pick (.t 33) (.c (.bool true)) (.t 40), none, false⟩] none [0, 3, 41])
  (.cond (.t 41)
    (.seq (.ops [⟨(some 4), .mov (.c (.int .i64 2)), none, false⟩] none [4])
    .ret)
    .skip))
  (.seq (.seq (.ops [⟨(some 42), .mov (.t 0), none, false⟩,
    ⟨(some 43), .faddr 2 (.t 3), none, false⟩,
    ⟨(some 44), .load 1 false (.t 43), none, false⟩,
    ⟨(some 45), .len true (.t 44), none, false⟩,
    ⟨(some 46), .bin .none .add (.t 42) (.t 45), none, false⟩,
    ⟨(some 47), .faddr 1 (.t 3), none, false⟩,
    ⟨(some 48), .load 1 false (.t 47), none, false⟩,
    ⟨(some 49), .bin .none .sub (.t 46) (.t 48), none, false⟩,
    ⟨(some 50), .bin .none .gtr (.t 49) (.c (.int .i64 600)), none, false⟩] none [50])
  (.cond (.t 50)
    (.seq (.ops [⟨(some 4), .mov (.c (.int .i64 1)), none, false⟩] none [4])
    .ret)
    .skip))
  (.seq (.ops [⟨(some 4), .mov (.c (.int .i64 0)), none, false⟩] none [4])
  .ret))))
def ref_EditFault_r : List RRes := [.tmp 4]
def ref_EditFault_hi : Hi := ⟨[], [(0, "size"), (1, "e"), (2, "size"), (3, "e")]⟩
def ref_EditFault_an : An := .d
def ref_EditFault_fi : Fi := ⟨51, ref_EditFault_c, ref_EditFault_r, ref_EditFault_an, ref_EditFault_hi⟩
theorem ref_EditFault_ok : FiOk Try.prog f_ref_EditFault ref_EditFault_fi :=
  ⟨by kernel_rfl, fun h hlen => fun_sound (fn := Try.f60) (draw_sound _ _) Try.func60 rfl (by kernel_rfl : comp Try.prog 51 _ ref_EditFault_c = some ref_EditFault_c) (by kernel_rfl : cRes Try.prog Try.f60.results.toList = some ref_EditFault_r) hlen h⟩

/-- fustian/fustianref.editMade: slots [0 text, 1 e, 2 text, 3 e, 5 out, 6 i] -/
def ref_editMade_c : SCode :=
  (.seq (.ops [⟨(some 3), .box 0 (.t 1), none, false⟩,
    ⟨(some 4), .mov (.c (.str [])), none, false⟩] none [0, 3])
  (.seq (.ops [⟨(some 5), .mov (.c (.str [])), none, false⟩] none [0, 3, 5])
  (.seq (.seq (.ops [⟨(some 6), .mov (.c (.int .i64 0)), none, false⟩] none [0, 3, 5, 6])
  (.block 0 (.loop [0, 3] [5, 6] 1
    (.seq (.seq (.ops [⟨(some 7), .mov (.t 6), none, false⟩,
      ⟨(some 8), .mov (.t 0), none, false⟩,
      ⟨(some 9), .len true (.t 8), none, false⟩,
      ⟨(some 10), .bin .none .leq (.t 7) (.t 9), none, false⟩] none [0, 3, 5, 6, 10])
    (.cond (.t 10)
      .skip
      (.exit 0)))
    (.join [0, 3, 6] [5] 1 (.block 1 (.join [0, 3, 6] [5] 1 (.seq (.ops [⟨(some 13), .mov (.t 6), none, false⟩,
          ⟨(some 14), .faddr 0 (.t 3), none, false⟩,
          ⟨(some 15), .load 1 false (.t 14), none, false⟩,
          ⟨(some 16), .bin .none .eql (.t 13) (.t 15), none, false⟩] none [0, 3, 5, 6, 16])
        (.cond (.t 16)
          (.ops [⟨(some 17), .mov (.t 5), none, false⟩,
            ⟨(some 18), .faddr 2 (.t 3), none, false⟩,
            ⟨(some 19), .load 1 false (.t 18), none, false⟩,
            ⟨(some 20), .bin .none .add (.t 17) (.t 19), none, false⟩,
            ⟨(some 5), .mov (.t 20), none, false⟩] none [0, 3, 5, 6])
          .skip))
      (.seq (.ops [⟨(some 21), .mov (.t 6), none, false⟩,
        ⟨(some 22), .mov (.t 0), none, false⟩,
        ⟨(some 23), .len true (.t 22), none, false⟩,
        ⟨(some 24), .bin .none .lss (.t 21) (.t 23), none, false⟩,
        ⟨(some 25), .mov (.t 24), none, true⟩,
        ⟨(some 26), .mov (.t 6), (some (25, true)), false⟩,
        ⟨(some 27), .faddr 0 (.t 3), (some (25, true)), false⟩,
        ⟨(some 28), .load 1 false (.t 27), (some (25, true)), false⟩,
        ⟨(some 29), .bin .none .lss (.t 26) (.t 28), (some (25, true)), false⟩,
        ⟨(some 30), .mov (.t 29), (some (25, true)), true⟩,
        ⟨(some 31), .mov (.t 6), (some (30, false)), false⟩,
        ⟨(some 32), .faddr 0 (.t 3), (some (30, false)), false⟩,
        ⟨(some 33), .load 1 false (.t 32), (some (30, false)), false⟩,
        ⟨(some 34), .faddr 1 (.t 3), (some (30, false)), false⟩,
        ⟨(some 35), .load 1 false (.t 34), (some (30, false)), false⟩,
        ⟨(some 36), .bin .none .add (.t 33) (.t 35), (some (30, false)), false⟩,
        ⟨(some 37), .bin .none .geq (.t 31) (.t 36), (some (30, false)), false⟩,
        ⟨(some 38), .pick (.t 30) (.c (.bool true)) (.t 37), (some (25, true)), false⟩,
        ⟨(some 39), .pick (.t 25) (.t 38) (.c (.bool false)), none, false⟩] none [0, 3, 5, 6, 39])
      (.cond (.t 39)
        (.ops [⟨(some 40), .mov (.t 5), none, false⟩,
          ⟨(some 41), .mov (.t 0), none, false⟩,
          ⟨(some 42), .mov (.t 6), none, false⟩,
          ⟨(some 43), .mov (.t 6), none, false⟩,
          ⟨(some 44), .bin .none .add (.t 43) (.c (.int .i64 1)), none, false⟩,
          ⟨(some 45), .slice 0 (.t 41) (some (.t 42)) (some (.t 44)), none, false⟩,
          ⟨(some 46), .bin .none .add (.t 40) (.t 45), none, false⟩,
          ⟨(some 5), .mov (.t 46), none, false⟩] none [0, 3, 5, 6])
        .skip))))
    (.ops [⟨(some 11), .mov (.t 6), none, false⟩,
      ⟨(some 12), .bin .none .add (.t 11) (.c (.int .i64 1)), none, false⟩,
      ⟨(some 6), .mov (.t 12), none, false⟩] none [0, 3, 5, 6]))))))
  (.seq (.ops [⟨(some 47), .mov (.t 5), none, false⟩,
    ⟨(some 4), .mov (.t 47), none, false⟩] none [4])
  .ret))))
def ref_editMade_r : List RRes := [.tmp 4]
def ref_editMade_hi : Hi := ⟨[], [(0, "text"), (1, "e"), (2, "text"), (3, "e"), (5, "out"), (6, "i")]⟩
def ref_editMade_an : An := (.seq .d (.seq .d (.seq (.seq .d (.loop [] [] [] .d)) .d)))
def ref_editMade_fi : Fi := ⟨48, ref_editMade_c, ref_editMade_r, ref_editMade_an, ref_editMade_hi⟩
theorem ref_editMade_ok : FiOk Try.prog f_ref_editMade ref_editMade_fi :=
  ⟨by kernel_rfl, fun h hlen => fun_sound (fn := Try.f72) (draw_sound _ _) Try.func72 rfl (by kernel_rfl : comp Try.prog 48 _ ref_editMade_c = some ref_editMade_c) (by kernel_rfl : cRes Try.prog Try.f72.results.toList = some ref_editMade_r) hlen h⟩

/-- fustian/fustianref.EditApplied: slots [0 text, 1 l, 2 text, 3 l, 6 all, 7 _, 8 x, 9 now, 10 e] -/
def ref_EditApplied_c : SCode :=
  (.seq (.ops [⟨(some 4), .mov (.c .nils), none, false⟩,
    ⟨(some 5), .mov (.c (.int .i64 0)), none, false⟩] none [0, 1])
  (.seq (.seq (.ops [⟨(some 11), .mov (.t 1), none, false⟩,
    ⟨(some 12), .len false (.t 11), none, false⟩,
    ⟨(some 13), .bin .none .gtr (.t 12) (.c (.int .i64 60)), none, false⟩,
    ⟨(some 14), .mov (.t 13), none, true⟩,
    ⟨(some 15), .mov (.t 0), (some (14, false)), false⟩,
    ⟨(some 16), .len true (.t 15), (some (14, false)), false⟩,
    ⟨(some 17), .bin .none .gtr (.t 16) (.c (.int .i64 600)), (some (14, false)), false⟩,
    ⟨(some 18), .pick (.t 14) (.c (.bool true)) (.t 17), none, false⟩] none [0, 1, 18])
  (.cond (.t 18)
    (.seq (.ops [⟨(some 4), .mov (.c .nils), none, false⟩,
      ⟨(some 5), .mov (.c (.int .i64 1)), none, false⟩] none [4, 5])
    .ret)
    .skip))
  (.seq (.ops [⟨(some 19), .mov (.t 0), none, false⟩,
    ⟨(some 20), .bslice false 1 1 [(.str [])] [(0, 1, (.t 19))], none, false⟩,
    ⟨(some 6), .mov (.t 20), none, false⟩] none [1, 6])
  (.seq (.seq (.ops [⟨(some 21), .mov (.t 1), none, false⟩,
    ⟨(some 22), .len false (.t 21), none, false⟩,
    ⟨(some 23), .mov (.c (.int .i64 0)), none, false⟩] none [6, 21, 22, 23])
  (.block 0 (.loop [21, 22] [6, 23] 1
    (.seq (.ops [⟨(some 24), .bin .none .lss (.t 23) (.t 22), none, false⟩] none [6, 21, 22, 23, 24])
    (.seq (.cond (.t 24)
      .skip
      (.exit 0))
    (.seq (.block 1 (.seq (.ops [⟨(some 25), .iaddr 3 none (.t 21) (.t 23), none, false⟩,
      ⟨(some 26), .load 3 true (.t 25), none, false⟩,
      ⟨(some 8), .alloc 0 [(.int .i64 0), (.int .i64 0), (.str [])], none, false⟩,
      ⟨none, .store 3 (.t 8) (.t 26), none, false⟩] none [6, 8, 21, 22, 23])
    (.seq (.ops [⟨(some 27), .mov (.t 6), none, false⟩,
      ⟨(some 28), .mov (.t 6), none, false⟩,
      ⟨(some 29), .len false (.t 28), none, false⟩,
      ⟨(some 30), .bin .none .sub (.t 29) (.c (.int .i64 1)), none, false⟩,
      ⟨(some 31), .iaddr 1 none (.t 27) (.t 30), none, false⟩,
      ⟨(some 32), .load 1 false (.t 31), none, false⟩,
      ⟨(some 9), .mov (.t 32), none, false⟩] none [6, 8, 9, 21, 22, 23])
    (.seq (.seq (.ops [⟨(some 33), .mov (.t 9), none, false⟩,
      ⟨(some 34), .len true (.t 33), none, false⟩,
      ⟨(some 35), .load 3 true (.t 8), none, false⟩,
      ⟨(some 36), .call f_ref_EditFault [(.t 34), (.t 35)], none, false⟩,
      ⟨(some 10), .mov (.t 36), none, false⟩] none [6, 8, 9, 10, 21, 22, 23])
    (.seq (.ops [⟨(some 37), .mov (.t 10), none, false⟩,
      ⟨(some 38), .bin .none .neq (.t 37) (.c (.int .i64 0)), none, false⟩] none [6, 8, 9, 10, 21, 22, 23, 38])
    (.cond (.t 38)
      (.seq (.ops [⟨(some 39), .mov (.t 10), none, false⟩,
        ⟨(some 4), .mov (.c .nils), none, false⟩,
        ⟨(some 5), .mov (.t 39), none, false⟩] none [4, 5])
      .ret)
      .skip)))
    (.ops [⟨(some 40), .mov (.t 6), none, false⟩,
      ⟨(some 41), .mov (.t 9), none, false⟩,
      ⟨(some 42), .load 3 true (.t 8), none, false⟩,
      ⟨(some 43), .call f_ref_editMade [(.t 41), (.t 42)], none, false⟩,
      ⟨(some 44), .bslice true 1 1 [(.str [])] [(0, 1, (.t 43))], none, false⟩,
      ⟨(some 45), .append 1 16 (.t 40) (.t 44), none, false⟩,
      ⟨(some 6), .mov (.t 45), none, false⟩] none [6, 21, 22, 23])))))
    (.ops [⟨(some 46), .bin .none .add (.t 23) (.c (.int .i64 1)), none, false⟩,
      ⟨(some 23), .mov (.t 46), none, false⟩] none [6, 21, 22, 23])))))))
  (.seq (.ops [⟨(some 47), .mov (.t 6), none, false⟩,
    ⟨(some 4), .mov (.t 47), none, false⟩,
    ⟨(some 5), .mov (.c (.int .i64 0)), none, false⟩] none [4, 5])
  .ret)))))
def ref_EditApplied_r : List RRes := [.tmp 4, .tmp 5]
def ref_EditApplied_hi : Hi := ⟨[(20, .str), (44, .str), (45, .str)], [(0, "text"), (1, "l"), (2, "text"), (3, "l"), (6, "all"), (8, "x"), (9, "now"), (10, "e")]⟩
def ref_EditApplied_an : An := (.seq .d (.seq .d (.seq .d (.seq (.seq .d (.loop [6] [] [] .d)) .d))))
def ref_EditApplied_fi : Fi := ⟨48, ref_EditApplied_c, ref_EditApplied_r, ref_EditApplied_an, ref_EditApplied_hi⟩
theorem ref_EditApplied_ok : FiOk Try.prog f_ref_EditApplied ref_EditApplied_fi :=
  ⟨by kernel_rfl, fun h hlen => fun_sound (fn := Try.f47) (draw_sound _ _) Try.func47 rfl (by kernel_rfl : comp Try.prog 48 _ ref_EditApplied_c = some ref_EditApplied_c) (by kernel_rfl : cRes Try.prog Try.f47.results.toList = some ref_EditApplied_r) hlen h⟩

/-- fustian/fustianref.EditInvert: slots [0 text, 1 l, 2 text, 3 l, 6 all, 7 e, 8 out, 9 i, 10 x] -/
def ref_EditInvert_c : SCode :=
  (.seq (.ops [⟨(some 4), .mov (.c .nils), none, false⟩,
    ⟨(some 5), .mov (.c (.int .i64 0)), none, false⟩] none [0, 1])
  (.seq (.ops [⟨(some 12), .mov (.t 0), none, false⟩,
    ⟨(some 13), .mov (.t 1), none, false⟩,
    ⟨(some 14), .call f_ref_EditApplied [(.t 12), (.t 13)], none, false⟩,
    ⟨(some 11), .mov (.t 14), none, false⟩,
    ⟨(some 15), .extract (.t 11) 0, none, false⟩,
    ⟨(some 16), .extract (.t 11) 1, none, false⟩,
    ⟨(some 6), .mov (.t 15), none, false⟩,
    ⟨(some 7), .mov (.t 16), none, false⟩] none [1, 6, 7])
  (.seq (.seq (.ops [⟨(some 17), .mov (.t 7), none, false⟩,
    ⟨(some 18), .bin .none .neq (.t 17) (.c (.int .i64 0)), none, false⟩] none [1, 6, 7, 18])
  (.cond (.t 18)
    (.seq (.ops [⟨(some 19), .mov (.t 7), none, false⟩,
      ⟨(some 4), .mov (.c .nils), none, false⟩,
      ⟨(some 5), .mov (.t 19), none, false⟩] none [4, 5])
    .ret)
    .skip))
  (.seq (.ops [⟨(some 8), .newnil 3, none, false⟩] none [1, 6, 8])
  (.seq (.seq (.ops [⟨(some 20), .mov (.t 1), none, false⟩,
    ⟨(some 21), .len false (.t 20), none, false⟩,
    ⟨(some 22), .bin .none .sub (.t 21) (.c (.int .i64 1)), none, false⟩,
    ⟨(some 9), .mov (.t 22), none, false⟩] none [1, 6, 8, 9])
  (.block 0 (.loop [1, 6] [8, 9] 1
    (.seq (.seq (.ops [⟨(some 23), .mov (.t 9), none, false⟩,
      ⟨(some 24), .bin .none .geq (.t 23) (.c (.int .i64 0)), none, false⟩] none [1, 6, 8, 9, 24])
    (.cond (.t 24)
      .skip
      (.exit 0)))
    (.seq (.block 1 (.seq (.ops [⟨(some 27), .mov (.t 1), none, false⟩,
      ⟨(some 28), .mov (.t 9), none, false⟩,
      ⟨(some 29), .iaddr 3 none (.t 27) (.t 28), none, false⟩,
      ⟨(some 30), .load 3 true (.t 29), none, false⟩,
      ⟨(some 10), .alloc 0 [(.int .i64 0), (.int .i64 0), (.str [])], none, false⟩,
      ⟨none, .store 3 (.t 10) (.t 30), none, false⟩] none [1, 6, 8, 9, 10])
    (.ops [⟨(some 31), .mov (.t 8), none, false⟩,
      ⟨(some 32), .faddr 0 (.t 10), none, false⟩,
      ⟨(some 33), .load 1 false (.t 32), none, false⟩,
      ⟨(some 34), .faddr 2 (.t 10), none, false⟩,
      ⟨(some 35), .load 1 false (.t 34), none, false⟩,
      ⟨(some 36), .len true (.t 35), none, false⟩,
      ⟨(some 37), .mov (.t 6), none, false⟩,
      ⟨(some 38), .mov (.t 9), none, false⟩,
      ⟨(some 39), .iaddr 1 none (.t 37) (.t 38), none, false⟩,
      ⟨(some 40), .load 1 false (.t 39), none, false⟩,
      ⟨(some 41), .faddr 0 (.t 10), none, false⟩,
      ⟨(some 42), .load 1 false (.t 41), none, false⟩,
      ⟨(some 43), .faddr 0 (.t 10), none, false⟩,
      ⟨(some 44), .load 1 false (.t 43), none, false⟩,
      ⟨(some 45), .faddr 1 (.t 10), none, false⟩,
      ⟨(some 46), .load 1 false (.t 45), none, false⟩,
      ⟨(some 47), .bin .none .add (.t 44) (.t 46), none, false⟩,
      ⟨(some 48), .slice 0 (.t 40) (some (.t 42)) (some (.t 47)), none, false⟩,
      ⟨(some 49), .build [(.int .i64 0), (.int .i64 0), (.str [])] [(0, 1, (.t 33)), (1, 1, (.t 36)), (2, 1, (.t 48))], none, false⟩,
      ⟨(some 50), .bslice true 1 3 [(.int .i64 0), (.int .i64 0), (.str [])] [(0, 3, (.t 49))], none, false⟩,
      ⟨(some 51), .append 3 32 (.t 31) (.t 50), none, false⟩,
      ⟨(some 8), .mov (.t 51), none, false⟩] (some (0, 0, [0, 1, 2, 3, 4, 5, 6, 7, 8, 9, 10, 11, 12, 13, 14, 15, 16, 17, 18, 19, 20, 21])) [1, 6, 8, 9])))
    (.ops [⟨(some 25), .mov (.t 9), none, false⟩,
      ⟨(some 26), .bin .none .sub (.t 25) (.c (.int .i64 1)), none, false⟩,
      ⟨(some 9), .mov (.t 26), none, false⟩] none [1, 6, 8, 9]))))))
  (.seq (.ops [⟨(some 52), .mov (.t 8), none, false⟩,
    ⟨(some 4), .mov (.t 52), none, false⟩,
    ⟨(some 5), .mov (.c (.int .i64 0)), none, false⟩] none [4, 5])
  .ret))))))
def ref_EditInvert_r : List RRes := [.tmp 4, .tmp 5]
def ref_EditInvert_hi : Hi := ⟨[(8, (.st (.cons (.int .i64) (.cons (.int .i64) (.cons .str .nil))))), (50, (.st (.cons (.int .i64) (.cons (.int .i64) (.cons .str .nil))))), (51, (.st (.cons (.int .i64) (.cons (.int .i64) (.cons .str .nil)))))], [(0, "text"), (1, "l"), (2, "text"), (3, "l"), (6, "all"), (7, "e"), (8, "out"), (9, "i"), (10, "x")]⟩
def ref_EditInvert_an : An := (.seq .d (.seq .d (.seq .d (.seq .d (.seq (.seq .d (.loop [8] [] [] .d)) .d)))))
def ref_EditInvert_fi : Fi := ⟨53, ref_EditInvert_c, ref_EditInvert_r, ref_EditInvert_an, ref_EditInvert_hi⟩
theorem ref_EditInvert_ok : FiOk Try.prog f_ref_EditInvert ref_EditInvert_fi :=
  ⟨by kernel_rfl, fun h hlen => fun_sound (fn := Try.f29) (draw_sound _ _) Try.func29 rfl (by kernel_rfl : comp Try.prog 53 _ ref_EditInvert_c = some ref_EditInvert_c) (by kernel_rfl : cRes Try.prog Try.f29.results.toList = some ref_EditInvert_r) hlen h⟩

/-- fustian/fustianlaw.EditInverts: slots [0 text, 1 l, 2 text, 3 l, 5 x, 6 e, 7 y, 8 f, 9 i] -/
def law_EditInverts_c : SCode :=
  (.seq (.ops [⟨(some 4), .mov (.c (.bool false)), none, false⟩] none [0, 1])
  (.seq (.ops [⟨(some 11), .mov (.t 0), none, false⟩,
    ⟨(some 12), .mov (.t 1), none, false⟩,
    ⟨(some 13), .call f_edit_Invert [(.t 11), (.t 12)], none, false⟩,
    ⟨(some 10), .mov (.t 13), none, false⟩,
    ⟨(some 14), .extract (.t 10) 0, none, false⟩,
    ⟨(some 15), .extract (.t 10) 1, none, false⟩,
    ⟨(some 5), .mov (.t 14), none, false⟩,
    ⟨(some 6), .mov (.t 15), none, false⟩] none [0, 1, 5, 6])
  (.seq (.ops [⟨(some 17), .mov (.t 0), none, false⟩,
    ⟨(some 18), .mov (.t 1), none, false⟩,
    ⟨(some 19), .call f_ref_EditInvert [(.t 17), (.t 18)], none, false⟩,
    ⟨(some 16), .mov (.t 19), none, false⟩,
    ⟨(some 20), .extract (.t 16) 0, none, false⟩,
    ⟨(some 21), .extract (.t 16) 1, none, false⟩,
    ⟨(some 7), .mov (.t 20), none, false⟩,
    ⟨(some 8), .mov (.t 21), none, false⟩] none [5, 6, 7, 8])
  (.seq (.seq (.ops [⟨(some 22), .mov (.t 5), none, false⟩,
    ⟨(some 23), .len false (.t 22), none, false⟩,
    ⟨(some 24), .mov (.t 7), none, false⟩,
    ⟨(some 25), .len false (.t 24), none, false⟩,
    ⟨(some 26), .bin .none .neq (.t 23) (.t 25), none, false⟩,
    ⟨(some 27), .mov (.t 26), none, true⟩,
    ⟨(some 28), .mov (.t 6), (some (27, false)), false⟩,
    ⟨(some 29), .mov (.t 8), (some (27, false)), false⟩,
    ⟨(some 30), .bin .none .neq (.t 28) (.t 29), (some (27, false)), false⟩,
    ⟨(some 31), .pick (.t 27) (.c (.bool true)) (.t 30), none, false⟩] none [5, 7, 31])
  (.cond (.t 31)
    (.seq (.ops [⟨(some 4), .mov (.c (.bool false)), none, false⟩] none [4])
    .ret)
    .skip))
  (.seq (.seq (.ops [⟨(some 9), .mov (.c (.int .i64 0)), none, false⟩] none [5, 7, 9])
  (.block 0 (.loop [5, 7] [9] 0
    (.seq (.seq (.ops [⟨(some 32), .mov (.t 9), none, false⟩,
      ⟨(some 33), .mov (.t 5), none, false⟩,
      ⟨(some 34), .len false (.t 33), none, false⟩,
      ⟨(some 35), .bin .none .lss (.t 32) (.t 34), none, false⟩] none [5, 7, 9, 35])
    (.cond (.t 35)
      .skip
      (.exit 0)))
    (.seq (.block 1 (.seq (.ops [⟨(some 38), .mov (.t 5), none, false⟩,
      ⟨(some 39), .mov (.t 9), none, false⟩,
      ⟨(some 40), .iaddr 3 none (.t 38) (.t 39), none, false⟩,
      ⟨(some 41), .load 3 true (.t 40), none, false⟩,
      ⟨(some 42), .mov (.t 7), none, false⟩,
      ⟨(some 43), .mov (.t 9), none, false⟩,
      ⟨(some 44), .iaddr 3 none (.t 42) (.t 43), none, false⟩,
      ⟨(some 45), .load 3 true (.t 44), none, false⟩,
      ⟨(some 46), .bin (.agg [.int, .int, .str]) .neq (.t 41) (.t 45), none, false⟩] (some (0, 0, [0, 1, 2, 3, 4, 5, 6, 7, 8])) [5, 7, 9, 46])
    (.cond (.t 46)
      (.seq (.ops [⟨(some 4), .mov (.c (.bool false)), none, false⟩] none [4])
      .ret)
      .skip)))
    (.ops [⟨(some 36), .mov (.t 9), none, false⟩,
      ⟨(some 37), .bin .none .add (.t 36) (.c (.int .i64 1)), none, false⟩,
      ⟨(some 9), .mov (.t 37), none, false⟩] none [5, 7, 9]))))))
  (.seq (.ops [⟨(some 4), .mov (.c (.bool true)), none, false⟩] none [4])
  .ret))))))
def law_EditInverts_r : List RRes := [.tmp 4]
def law_EditInverts_hi : Hi := ⟨[], [(0, "text"), (1, "l"), (2, "text"), (3, "l"), (5, "x"), (6, "e"), (7, "y"), (8, "f"), (9, "i")]⟩
def law_EditInverts_an : An := (.seq .d (.seq .d (.seq .d (.seq .d (.seq (.seq .d (.loop [] [] [] .d)) .d)))))
def law_EditInverts_fi : Fi := ⟨47, law_EditInverts_c, law_EditInverts_r, law_EditInverts_an, law_EditInverts_hi⟩
theorem law_EditInverts_ok : FiOk Try.prog f_law_EditInverts law_EditInverts_fi :=
  ⟨by kernel_rfl, fun h hlen => fun_sound (fn := Try.f9) (draw_sound _ _) Try.func9 rfl (by kernel_rfl : comp Try.prog 47 _ law_EditInverts_c = some law_EditInverts_c) (by kernel_rfl : cRes Try.prog Try.f9.results.toList = some law_EditInverts_r) hlen h⟩

/-- slices.Reverse[[]fustian/api.Edit,fustian/api.Edit]: slots [0 s, 1 s, 2 i, 3 j] -/
def slices_Reverse___api_Edit_api_Edit__c : SCode :=
  (.seq (.ops [⟨(some 4), .mov (.t 0), none, false⟩,
    ⟨(some 5), .len false (.t 4), none, false⟩,
    ⟨(some 6), .bin .none .sub (.t 5) (.c (.int .i64 1)), none, false⟩,
    ⟨(some 2), .mov (.c (.int .i64 0)), none, false⟩,
    ⟨(some 3), .mov (.t 6), none, false⟩] none [0, 2, 3])
  (.block 0 (.loop [0] [2, 3] 0
    (.seq (.seq (.ops [⟨(some 7), .mov (.t 2), none, false⟩,
      ⟨(some 8), .mov (.t 3), none, false⟩,
      ⟨(some 9), .bin .none .lss (.t 7) (.t 8), none, false⟩] none [0, 2, 3, 9])
    (.cond (.t 9)
      .skip
      (.exit 0)))
    (.seq (.block 1 (.ops [⟨(some 14), .mov (.t 0), none, false⟩,
      ⟨(some 15), .mov (.t 2), none, false⟩,
      ⟨(some 16), .mov (.t 0), none, false⟩,
      ⟨(some 17), .mov (.t 3), none, false⟩,
      ⟨(some 18), .mov (.t 0), none, false⟩,
      ⟨(some 19), .mov (.t 3), none, false⟩,
      ⟨(some 20), .iaddr 3 none (.t 18) (.t 19), none, false⟩,
      ⟨(some 21), .load 3 true (.t 20), none, false⟩,
      ⟨(some 22), .mov (.t 0), none, false⟩,
      ⟨(some 23), .mov (.t 2), none, false⟩,
      ⟨(some 24), .iaddr 3 none (.t 22) (.t 23), none, false⟩,
      ⟨(some 25), .load 3 true (.t 24), none, false⟩,
      ⟨(some 26), .iaddr 3 none (.t 14) (.t 15), none, false⟩,
      ⟨none, .store 3 (.t 26) (.t 21), none, false⟩,
      ⟨(some 27), .iaddr 3 none (.t 16) (.t 17), none, false⟩,
      ⟨none, .store 3 (.t 27) (.t 25), none, false⟩] (some (0, 0, [0, 1, 2, 3, 4, 5, 6, 7, 8, 9, 10, 11, 12, 13, 14, 15])) [0, 2, 3]))
    (.ops [⟨(some 10), .mov (.t 2), none, false⟩,
      ⟨(some 11), .bin .none .add (.t 10) (.c (.int .i64 1)), none, false⟩,
      ⟨(some 12), .mov (.t 3), none, false⟩,
      ⟨(some 13), .bin .none .sub (.t 12) (.c (.int .i64 1)), none, false⟩,
      ⟨(some 2), .mov (.t 11), none, false⟩,
      ⟨(some 3), .mov (.t 13), none, false⟩] none [0, 2, 3]))))))
def slices_Reverse___api_Edit_api_Edit__r : List RRes := []
def slices_Reverse___api_Edit_api_Edit__hi : Hi := ⟨[], [(0, "s"), (1, "s"), (2, "i"), (3, "j")]⟩
def slices_Reverse___api_Edit_api_Edit__an : An := (.seq .d (.loop [0] [] [] .d))
def slices_Reverse___api_Edit_api_Edit__fi : Fi := ⟨28, slices_Reverse___api_Edit_api_Edit__c, slices_Reverse___api_Edit_api_Edit__r, slices_Reverse___api_Edit_api_Edit__an, slices_Reverse___api_Edit_api_Edit__hi⟩
theorem slices_Reverse___api_Edit_api_Edit__ok : FiOk Try.prog f_slices_Reverse___api_Edit_api_Edit_ slices_Reverse___api_Edit_api_Edit__fi :=
  ⟨by kernel_rfl, fun h hlen => fun_sound (fn := Try.f53) (draw_sound _ _) Try.func53 rfl (by kernel_rfl : comp Try.prog 28 _ slices_Reverse___api_Edit_api_Edit__c = some slices_Reverse___api_Edit_api_Edit__c) (by kernel_rfl : cRes Try.prog Try.f53.results.toList = some slices_Reverse___api_Edit_api_Edit__r) hlen h⟩

end Go.Proofs.Ytcgggoaefceokaa
