/- The functions' simplified code, printed by a program of the claim's author; each is checked against the program's own code. Conditions: none. -/
import Derived.Test.YtcgggoaefceokaaProg
import Derived.Test.YtcgggoaefceokaaVyM
set_option linter.unusedVariables false
set_option maxRecDepth 100000
namespace Go.Proofs.Ytcgggoaefceokaa
open Go.Vc
abbrev f_gosem_cut_init : Nat := 2
abbrev f_law_WrapChecks : Nat := 3
abbrev f_law_PosFinds : Nat := 4
abbrev f_law_DiffPatches : Nat := 5
abbrev f_law_EditApplies : Nat := 6
abbrev f_law_LinesLines : Nat := 7
abbrev f_law_SpansWidens : Nat := 8
abbrev f_law_EditInverts : Nat := 9
abbrev f_law_WrapGreedies : Nat := 10
abbrev f_law_SchedPlays : Nat := 11
abbrev f_law_EditOvers : Nat := 12
abbrev f_law_FindAlls : Nat := 13
abbrev f_law_WrapBests : Nat := 14
abbrev f_wrap_Check : Nat := 15
abbrev f_ref_WrapFault : Nat := 16
abbrev f_pos_Find : Nat := 17
abbrev f_ref_PosFind : Nat := 18
abbrev f_diff_Patch : Nat := 19
abbrev f_ref_DiffPatch : Nat := 20
abbrev f_law_sameTexts : Nat := 21
abbrev f_edit_Apply : Nat := 22
abbrev f_ref_EditApply : Nat := 23
abbrev f_lines_Line : Nat := 24
abbrev f_ref_LinesLine : Nat := 25
abbrev f_spans_Widen : Nat := 26
abbrev f_ref_SpansWiden : Nat := 27
abbrev f_edit_Invert : Nat := 28
abbrev f_ref_EditInvert : Nat := 29
abbrev f_wrap_Greedy : Nat := 30
abbrev f_ref_WrapGreedy : Nat := 31
abbrev f_law_sameInts : Nat := 32
abbrev f_sched_Play : Nat := 33
abbrev f_ref_SchedPlayed : Nat := 34
abbrev f_edit_Over : Nat := 35
abbrev f_ref_EditOver : Nat := 36
abbrev f_find_All : Nat := 37
abbrev f_ref_FindAll : Nat := 38
abbrev f_wrap_Best : Nat := 39
abbrev f_ref_WrapCost : Nat := 40
abbrev f_ref_WrapLeast : Nat := 41
abbrev f_slices_ContainsFunc___int_int_ : Nat := 42
abbrev f_wrap_Check_1 : Nat := 43
abbrev f_strings_IndexByte : Nat := 44
abbrev f_ref_PosOf : Nat := 45
abbrev f_edit_run : Nat := 46
abbrev f_ref_EditApplied : Nat := 47
abbrev f_lines_may : Nat := 48
abbrev f_sort_Search : Nat := 49
abbrev f_lines_Line_1 : Nat := 50
abbrev f_ref_startsMay : Nat := 51
abbrev f_spans_Widened : Nat := 52
abbrev f_slices_Reverse___api_Edit_api_Edit_ : Nat := 53
abbrev f_ref_lineWide : Nat := 54
abbrev f___sched_ring__push : Nat := 55
abbrev f___sched_ring__turn : Nat := 56
abbrev f_edit_Check : Nat := 57
abbrev f_edit_clash : Nat := 58
abbrev f_edit_Moved : Nat := 59
abbrev f_ref_EditFault : Nat := 60
abbrev f_ref_EditOver_1 : Nat := 61
abbrev f_ref_EditOver_2 : Nat := 62
abbrev f_ref_editPlace : Nat := 63
abbrev f_find_fault : Nat := 64
abbrev f_find_In : Nat := 65
abbrev f_ref_findFault : Nat := 66
abbrev f_ref_standsAt : Nat := 67
abbrev f_slices_IndexFunc___int_int_ : Nat := 68
abbrev f_internal_stringslite_IndexByte : Nat := 69
abbrev f_edit_Undo : Nat := 70
abbrev f_edit_Made : Nat := 71
abbrev f_ref_editMade : Nat := 72
abbrev f_strings_LastIndexByte : Nat := 73
abbrev f_edit_nothing : Nat := 74
abbrev f_edit_within : Nat := 75
abbrev f_find_border : Nat := 76
abbrev f_internal_bytealg_LastIndexByteString : Nat := 78

/-- fustian/find.fault: slots [0 text, 1 find, 2 text, 3 find] -/
def find_fault_c : SCode :=
  (.seq (.ops [⟨(some 4), .mov (.c (.int .i64 0)), none, false⟩] none [0, 1])
  (.seq (.block 0 (.seq (.ops [⟨(some 6), .mov (.t 0), none, false⟩,
    ⟨(some 7), .len true (.t 6), none, false⟩,
    ⟨(some 8), .bin .none .gtr (.t 7) (.c (.int .i64 600)), none, false⟩,
    ⟨(some 9), .mov (.t 8), none, true⟩,
    ⟨(some 10), .mov (.t 1), (some (9, false)), false⟩,
    ⟨(some 11), .len true (.t 10), (some (9, false)), false⟩,
    ⟨(some 12), .bin .none .gtr (.t 11) (.c (.int .i64 20)), (some (9, false)), false⟩,
    ⟨(some 13), .pick (.t 9) (.c (.bool true)) (.t 12), none, false⟩,
    ⟨(some 5), .mov (.t 13), none, false⟩] none [1, 5])
  (.cond (.t 5)
    (.seq (.ops [⟨(some 4), .mov (.c (.int .i64 1)), none, false⟩] none [4])
    .ret)
    (.seq (.ops [⟨(some 15), .mov (.t 1), none, false⟩,
      ⟨(some 16), .bin .none .eql (.t 15) (.c (.str [])), none, false⟩,
      ⟨(some 14), .mov (.t 16), none, false⟩] none [14])
    (.cond (.t 14)
      (.seq (.ops [⟨(some 4), .mov (.c (.int .i64 4)), none, false⟩] none [4])
      .ret)
      .skip)))))
  (.seq (.ops [⟨(some 4), .mov (.c (.int .i64 0)), none, false⟩] none [4])
  .ret)))
def find_fault_r : List RRes := [.tmp 4]
def find_fault_hi : Hi := ⟨[], [(0, "text"), (1, "find"), (2, "text"), (3, "find")]⟩
def find_fault_an : An := .d
def find_fault_fi : Fi := ⟨17, find_fault_c, find_fault_r, find_fault_an, find_fault_hi⟩
theorem find_fault_ok : FiOk Try.prog f_find_fault find_fault_fi :=
  ⟨by kernel_rfl, fun h hlen => fun_sound (fn := Try.f64) (draw_sound _ _) Try.func64 rfl (by kernel_rfl : comp Try.prog 17 _ find_fault_c = some find_fault_c) (by kernel_rfl : cRes Try.prog Try.f64.results.toList = some find_fault_r) hlen h⟩

/-- fustian/find.border: slots [0 s, 1 s, 3 out, 4 n, 5 i] -/
def find_border_c : SCode :=
  (.seq (.ops [⟨(some 2), .mov (.c .nils), none, false⟩] none [0])
  (.seq (.ops [⟨(some 6), .mov (.t 0), none, false⟩,
    ⟨(some 7), .len true (.t 6), none, false⟩,
    ⟨(some 8), .mkslice 1 8 [(.int .i64 0)] (.t 7) (.t 7), none, false⟩,
    ⟨(some 3), .mov (.t 8), none, false⟩] none [0, 3])
  (.seq (.ops [⟨(some 4), .mov (.c (.int .i64 0)), none, false⟩] none [0, 3, 4])
  (.seq (.seq (.ops [⟨(some 5), .mov (.c (.int .i64 1)), none, false⟩] none [0, 3, 4, 5])
  (.block 0 (.loop [0, 3] [4, 5] 1
    (.seq (.seq (.ops [⟨(some 9), .mov (.t 5), none, false⟩,
      ⟨(some 10), .mov (.t 0), none, false⟩,
      ⟨(some 11), .len true (.t 10), none, false⟩,
      ⟨(some 12), .bin .none .lss (.t 9) (.t 11), none, false⟩] none [0, 3, 4, 5, 12])
    (.cond (.t 12)
      .skip
      (.exit 0)))
    (.seq (.block 1 (.seq (.block 2 (.loop [0, 3, 5] [4] 1
      (.seq (.seq (.ops [⟨(some 15), .mov (.t 4), none, false⟩,
        ⟨(some 16), .bin .none .gtr (.t 15) (.c (.int .i64 0)), none, false⟩,
        ⟨(some 17), .mov (.t 16), none, true⟩,
        ⟨(some 18), .mov (.t 0), (some (17, true)), false⟩,
        ⟨(some 19), .mov (.t 5), (some (17, true)), false⟩,
        ⟨(some 20), .index 1 none false (.t 18) (.t 19), (some (17, true)), false⟩,
        ⟨(some 21), .mov (.t 0), (some (17, true)), false⟩,
        ⟨(some 22), .mov (.t 4), (some (17, true)), false⟩,
        ⟨(some 23), .index 1 none false (.t 21) (.t 22), (some (17, true)), false⟩,
        ⟨(some 24), .bin .none .neq (.t 20) (.t 23), (some (17, true)), false⟩,
        ⟨(some 25), .pick (.t 17) (.t 24) (.c (.bool false)), none, false⟩] (some (0, 0, [0, 1, 2, 3, 4, 5, 6, 7, 8, 9, 10])) [0, 3, 4, 5, 25])
      (.cond (.t 25)
        .skip
        (.exit 2)))
      (.block 3 (.ops [⟨(some 26), .mov (.t 3), none, false⟩,
        ⟨(some 27), .mov (.t 4), none, false⟩,
        ⟨(some 28), .bin .none .sub (.t 27) (.c (.int .i64 1)), none, false⟩,
        ⟨(some 29), .iaddr 1 none (.t 26) (.t 28), none, false⟩,
        ⟨(some 30), .load 1 false (.t 29), none, false⟩,
        ⟨(some 4), .mov (.t 30), none, false⟩] none [0, 3, 4, 5])))))
    (.join [0, 3, 5] [4] 1 (.seq (.ops [⟨(some 31), .mov (.t 0), none, false⟩,
        ⟨(some 32), .mov (.t 5), none, false⟩,
        ⟨(some 33), .index 1 none false (.t 31) (.t 32), none, false⟩,
        ⟨(some 34), .mov (.t 0), none, false⟩,
        ⟨(some 35), .mov (.t 4), none, false⟩,
        ⟨(some 36), .index 1 none false (.t 34) (.t 35), none, false⟩,
        ⟨(some 37), .bin .none .eql (.t 33) (.t 36), none, false⟩] (some (0, 0, [0, 1, 2, 3, 4, 5, 6])) [0, 3, 4, 5, 37])
      (.cond (.t 37)
        (.ops [⟨(some 38), .mov (.t 4), none, false⟩,
          ⟨(some 39), .bin .none .add (.t 38) (.c (.int .i64 1)), none, false⟩,
          ⟨(some 4), .mov (.t 39), none, false⟩] none [0, 3, 4, 5])
        .skip))
    (.ops [⟨(some 40), .mov (.t 3), none, false⟩,
      ⟨(some 41), .mov (.t 5), none, false⟩,
      ⟨(some 42), .mov (.t 4), none, false⟩,
      ⟨(some 43), .iaddr 1 none (.t 40) (.t 41), none, false⟩,
      ⟨none, .store 1 (.t 43) (.t 42), none, false⟩] none [0, 3, 4, 5]))))
    (.ops [⟨(some 13), .mov (.t 5), none, false⟩,
      ⟨(some 14), .bin .none .add (.t 13) (.c (.int .i64 1)), none, false⟩,
      ⟨(some 5), .mov (.t 14), none, false⟩] none [0, 3, 4, 5]))))))
  (.seq (.ops [⟨(some 44), .mov (.t 3), none, false⟩,
    ⟨(some 2), .mov (.t 44), none, false⟩] none [2])
  .ret)))))
def find_border_r : List RRes := [.tmp 2]
def find_border_hi : Hi := ⟨[(8, (.int .i64))], [(0, "s"), (1, "s"), (3, "out"), (4, "n"), (5, "i")]⟩
def find_border_an : An := (.seq .d (.seq .d (.seq .d (.seq (.seq .d (.loop [3] [] [] (.seq .d (.seq (.seq (.loop [] [] [] .d) .d) .d)))) .d))))
def find_border_fi : Fi := ⟨45, find_border_c, find_border_r, find_border_an, find_border_hi⟩
theorem find_border_ok : FiOk Try.prog f_find_border find_border_fi :=
  ⟨by kernel_rfl, fun h hlen => fun_sound (fn := Try.f76) (draw_sound _ _) Try.func76 rfl (by kernel_rfl : comp Try.prog 45 _ find_border_c = some find_border_c) (by kernel_rfl : cRes Try.prog Try.f76.results.toList = some find_border_r) hlen h⟩

/-- fustian/find.In: slots [0 text, 1 find, 2 text, 3 find, 5 b, 6 out, 7 n, 8 i] -/
def find_In_c : SCode :=
  (.seq (.ops [⟨(some 4), .mov (.c .nils), none, false⟩] none [0, 1])
  (.seq (.ops [⟨(some 9), .mov (.t 1), none, false⟩,
    ⟨(some 10), .call f_find_border [(.t 9)], none, false⟩,
    ⟨(some 5), .mov (.t 10), none, false⟩] none [0, 1, 5])
  (.seq (.ops [⟨(some 6), .newnil 1, none, false⟩] none [0, 1, 5, 6])
  (.seq (.ops [⟨(some 7), .mov (.c (.int .i64 0)), none, false⟩] none [0, 1, 5, 6, 7])
  (.seq (.seq (.ops [⟨(some 11), .mov (.t 0), none, false⟩,
    ⟨(some 12), .len true (.t 11), none, false⟩,
    ⟨(some 13), .mov (.c (.int .i64 0)), none, false⟩] none [0, 1, 5, 6, 7, 12, 13])
  (.block 0 (.loop [0, 1, 5, 12] [6, 7, 13] 1
    (.seq (.ops [⟨(some 14), .bin .none .lss (.t 13) (.t 12), none, false⟩] none [0, 1, 5, 6, 7, 12, 13, 14])
    (.seq (.cond (.t 14)
      .skip
      (.exit 0))
    (.join [0, 1, 5, 12, 13] [6, 7] 1 (.block 1 (.seq (.ops [⟨(some 15), .mov (.t 13), none, false⟩,
        ⟨(some 8), .mov (.t 15), none, false⟩] none [0, 1, 5, 6, 7, 8, 12, 13])
      (.seq (.block 2 (.loop [0, 1, 5, 6, 8, 12, 13] [7] 1
        (.seq (.seq (.ops [⟨(some 16), .mov (.t 7), none, false⟩,
          ⟨(some 17), .bin .none .gtr (.t 16) (.c (.int .i64 0)), none, false⟩,
          ⟨(some 18), .mov (.t 17), none, true⟩,
          ⟨(some 19), .mov (.t 7), (some (18, true)), false⟩,
          ⟨(some 20), .mov (.t 1), (some (18, true)), false⟩,
          ⟨(some 21), .len true (.t 20), (some (18, true)), false⟩,
          ⟨(some 22), .bin .none .eql (.t 19) (.t 21), (some (18, true)), false⟩,
          ⟨(some 23), .mov (.t 22), (some (18, true)), true⟩,
          ⟨(some 24), .mov (.t 0), (some (23, false)), false⟩,
          ⟨(some 25), .mov (.t 8), (some (23, false)), false⟩,
          ⟨(some 26), .index 1 none false (.t 24) (.t 25), (some (23, false)), false⟩,
          ⟨(some 27), .mov (.t 1), (some (23, false)), false⟩,
          ⟨(some 28), .mov (.t 7), (some (23, false)), false⟩,
          ⟨(some 29), .index 1 none false (.t 27) (.t 28), (some (23, false)), false⟩,
          ⟨(some 30), .bin .none .neq (.t 26) (.t 29), (some (23, false)), false⟩,
          ⟨(some 31), .pick (.t 23) (.c (.bool true)) (.t 30), (some (18, true)), false⟩,
          ⟨(some 32), .pick (.t 18) (.t 31) (.c (.bool false)), none, false⟩] (some (0, 0, [0, 1, 2, 3, 4, 5, 6, 7, 8, 9, 10, 11, 12, 13, 14, 15, 16])) [0, 1, 5, 6, 7, 8, 12, 13, 32])
        (.cond (.t 32)
          .skip
          (.exit 2)))
        (.block 3 (.ops [⟨(some 33), .mov (.t 5), none, false⟩,
          ⟨(some 34), .mov (.t 7), none, false⟩,
          ⟨(some 35), .bin .none .sub (.t 34) (.c (.int .i64 1)), none, false⟩,
          ⟨(some 36), .iaddr 1 none (.t 33) (.t 35), none, false⟩,
          ⟨(some 37), .load 1 false (.t 36), none, false⟩,
          ⟨(some 7), .mov (.t 37), none, false⟩] none [0, 1, 5, 6, 7, 8, 12, 13])))))
      (.join [0, 1, 5, 6, 8, 12, 13] [7] 1 (.seq (.ops [⟨(some 38), .mov (.t 0), none, false⟩,
          ⟨(some 39), .mov (.t 8), none, false⟩,
          ⟨(some 40), .index 1 none false (.t 38) (.t 39), none, false⟩,
          ⟨(some 41), .mov (.t 1), none, false⟩,
          ⟨(some 42), .mov (.t 7), none, false⟩,
          ⟨(some 43), .index 1 none false (.t 41) (.t 42), none, false⟩,
          ⟨(some 44), .bin .none .eql (.t 40) (.t 43), none, false⟩] (some (0, 0, [0, 1, 2, 3, 4, 5, 6])) [0, 1, 5, 6, 7, 8, 12, 13, 44])
        (.cond (.t 44)
          (.ops [⟨(some 45), .mov (.t 7), none, false⟩,
            ⟨(some 46), .bin .none .add (.t 45) (.c (.int .i64 1)), none, false⟩,
            ⟨(some 7), .mov (.t 46), none, false⟩] none [0, 1, 5, 6, 7, 8, 12, 13])
          .skip))
      (.seq (.ops [⟨(some 47), .mov (.t 7), none, false⟩,
        ⟨(some 48), .mov (.t 1), none, false⟩,
        ⟨(some 49), .len true (.t 48), none, false⟩,
        ⟨(some 50), .bin .none .eql (.t 47) (.t 49), none, false⟩] none [0, 1, 5, 6, 7, 8, 12, 13, 50])
      (.cond (.t 50)
        (.ops [⟨(some 51), .mov (.t 6), none, false⟩,
          ⟨(some 52), .mov (.t 8), none, false⟩,
          ⟨(some 53), .bin .none .add (.t 52) (.c (.int .i64 1)), none, false⟩,
          ⟨(some 54), .mov (.t 7), none, false⟩,
          ⟨(some 55), .bin .none .sub (.t 53) (.t 54), none, false⟩,
          ⟨(some 56), .bslice true 1 1 [(.int .i64 0)] [(0, 1, (.t 55))], none, false⟩,
          ⟨(some 57), .append 1 8 (.t 51) (.t 56), none, false⟩,
          ⟨(some 6), .mov (.t 57), none, false⟩] none [0, 1, 5, 6, 7, 12, 13])
        .skip))))))
    (.ops [⟨(some 58), .bin .none .add (.t 13) (.c (.int .i64 1)), none, false⟩,
      ⟨(some 13), .mov (.t 58), none, false⟩] none [0, 1, 5, 6, 7, 12, 13])))))))
  (.seq (.ops [⟨(some 59), .mov (.t 6), none, false⟩,
    ⟨(some 4), .mov (.t 59), none, false⟩] none [4])
  .ret))))))
def find_In_r : List RRes := [.tmp 4]
def find_In_hi : Hi := ⟨[(6, (.int .i64)), (56, (.int .i64)), (57, (.int .i64))], [(0, "text"), (1, "find"), (2, "text"), (3, "find"), (5, "b"), (6, "out"), (7, "n"), (8, "i")]⟩
def find_In_an : An := (.seq .d (.seq .d (.seq .d (.seq .d (.seq (.seq .d (.loop [6] [] [] (.seq .d (.seq .d (.seq (.seq .d (.seq (.loop [] [] [] .d) .d)) .d))))) .d)))))
def find_In_fi : Fi := ⟨60, find_In_c, find_In_r, find_In_an, find_In_hi⟩
theorem find_In_ok : FiOk Try.prog f_find_In find_In_fi :=
  ⟨by kernel_rfl, fun h hlen => fun_sound (fn := Try.f65) (draw_sound _ _) Try.func65 rfl (by kernel_rfl : comp Try.prog 60 _ find_In_c = some find_In_c) (by kernel_rfl : cRes Try.prog Try.f65.results.toList = some find_In_r) hlen h⟩

/-- fustian/find.All: slots [0 text, 1 find, 2 text, 3 find, 6 e] -/
def find_All_c : SCode :=
  (.seq (.ops [⟨(some 4), .mov (.c .nils), none, false⟩,
    ⟨(some 5), .mov (.c (.int .i64 0)), none, false⟩] none [0, 1])
  (.seq (.seq (.ops [⟨(some 7), .mov (.t 0), none, false⟩,
    ⟨(some 8), .mov (.t 1), none, false⟩,
    ⟨(some 9), .call f_find_fault [(.t 7), (.t 8)], none, false⟩,
    ⟨(some 6), .mov (.t 9), none, false⟩] none [0, 1, 6])
  (.seq (.ops [⟨(some 10), .mov (.t 6), none, false⟩,
    ⟨(some 11), .bin .none .neq (.t 10) (.c (.int .i64 0)), none, false⟩] none [0, 1, 6, 11])
  (.cond (.t 11)
    (.seq (.ops [⟨(some 12), .mov (.t 6), none, false⟩,
      ⟨(some 4), .mov (.c .nils), none, false⟩,
      ⟨(some 5), .mov (.t 12), none, false⟩] none [4, 5])
    .ret)
    .skip)))
  (.seq (.ops [⟨(some 13), .mov (.t 0), none, false⟩,
    ⟨(some 14), .mov (.t 1), none, false⟩,
    ⟨(some 15), .call f_find_In [(.t 13), (.t 14)], none, false⟩,
    ⟨(some 4), .mov (.t 15), none, false⟩,
    ⟨(some 5), .mov (.c (.int .i64 0)), none, false⟩] none [4, 5])
  .ret)))
def find_All_r : List RRes := [.tmp 4, .tmp 5]
def find_All_hi : Hi := ⟨[], [(0, "text"), (1, "find"), (2, "text"), (3, "find"), (6, "e")]⟩
def find_All_an : An := .d
def find_All_fi : Fi := ⟨16, find_All_c, find_All_r, find_All_an, find_All_hi⟩
theorem find_All_ok : FiOk Try.prog f_find_All find_All_fi :=
  ⟨by kernel_rfl, fun h hlen => fun_sound (fn := Try.f37) (draw_sound _ _) Try.func37 rfl (by kernel_rfl : comp Try.prog 16 _ find_All_c = some find_All_c) (by kernel_rfl : cRes Try.prog Try.f37.results.toList = some find_All_r) hlen h⟩

/-- fustian/fustianref.findFault: slots [0 text, 1 find, 2 text, 3 find] -/
def ref_findFault_c : SCode :=
  (.seq (.ops [⟨(some 4), .mov (.c (.int .i64 0)), none, false⟩] none [0, 1])
  (.seq (.seq (.ops [⟨(some 5), .mov (.t 0), none, false⟩,
    ⟨(some 6), .len true (.t 5), none, false⟩,
    ⟨(some 7), .bin .none .gtr (.t 6) (.c (.int .i64 600)), none, false⟩,
    ⟨(some 8), .mov (.t 7), none, true⟩,
    ⟨(some 9), .mov (.t 1), (some (8, false)), false⟩,
    ⟨(some 10), .len true (.t 9), (some (8, false)), false⟩,
    ⟨(some 11), .bin .none .gtr (.t 10) (.c (.int .i64 20)), (some (8, false)), false⟩,
    ⟨(some 12), .pick (.t 8) (.c (.bool true)) (.t 11), none, false⟩] none [1, 12])
  (.cond (.t 12)
    (.seq (.ops [⟨(some 4), .mov (.c (.int .i64 1)), none, false⟩] none [4])
    .ret)
    .skip))
  (.seq (.seq (.ops [⟨(some 13), .mov (.t 1), none, false⟩,
    ⟨(some 14), .bin .none .eql (.t 13) (.c (.str [])), none, false⟩] none [14])
  (.cond (.t 14)
    (.seq (.ops [⟨(some 4), .mov (.c (.int .i64 4)), none, false⟩] none [4])
    .ret)
    .skip))
  (.seq (.ops [⟨(some 4), .mov (.c (.int .i64 0)), none, false⟩] none [4])
  .ret))))
def ref_findFault_r : List RRes := [.tmp 4]
def ref_findFault_hi : Hi := ⟨[], [(0, "text"), (1, "find"), (2, "text"), (3, "find")]⟩
def ref_findFault_an : An := .d
def ref_findFault_fi : Fi := ⟨15, ref_findFault_c, ref_findFault_r, ref_findFault_an, ref_findFault_hi⟩
theorem ref_findFault_ok : FiOk Try.prog f_ref_findFault ref_findFault_fi :=
  ⟨by kernel_rfl, fun h hlen => fun_sound (fn := Try.f66) (draw_sound _ _) Try.func66 rfl (by kernel_rfl : comp Try.prog 15 _ ref_findFault_c = some ref_findFault_c) (by kernel_rfl : cRes Try.prog Try.f66.results.toList = some ref_findFault_r) hlen h⟩

/-- fustian/fustianref.standsAt: slots [0 text, 1 find, 2 at, 3 text, 4 find, 5 at] -/
def ref_standsAt_c : SCode :=
  (.seq (.ops [⟨(some 6), .mov (.c (.bool false)), none, false⟩] none [0, 1, 2])
  (.seq (.ops [⟨(some 7), .mov (.t 2), none, false⟩,
    ⟨(some 8), .bin .none .geq (.t 7) (.c (.int .i64 0)), none, false⟩,
    ⟨(some 9), .mov (.t 8), none, true⟩,
    ⟨(some 10), .mov (.t 2), (some (9, true)), false⟩,
    ⟨(some 11), .mov (.t 1), (some (9, true)), false⟩,
    ⟨(some 12), .len true (.t 11), (some (9, true)), false⟩,
    ⟨(some 13), .bin .none .add (.t 10) (.t 12), (some (9, true)), false⟩,
    ⟨(some 14), .mov (.t 0), (some (9, true)), false⟩,
    ⟨(some 15), .len true (.t 14), (some (9, true)), false⟩,
    ⟨(some 16), .bin .none .leq (.t 13) (.t 15), (some (9, true)), false⟩,
    ⟨(some 17), .pick (.t 9) (.t 16) (.c (.bool false)), none, false⟩,
    ⟨(some 18), .mov (.t 17), none, true⟩,
    ⟨(some 19), .mov (.t 0), (some (18, true)), false⟩,
    ⟨(some 20), .mov (.t 2), (some (18, true)), false⟩,
    ⟨(some 21), .mov (.t 2), (some (18, true)), false⟩,
    ⟨(some 22), .mov (.t 1), (some (18, true)), false⟩,
    ⟨(some 23), .len true (.t 22), (some (18, true)), false⟩,
    ⟨(some 24), .bin .none .add (.t 21) (.t 23), (some (18, true)), false⟩,
    ⟨(some 25), .slice 0 (.t 19) (some (.t 20)) (some (.t 24)), (some (18, true)), false⟩,
    ⟨(some 26), .mov (.t 1), (some (18, true)), false⟩,
    ⟨(some 27), .bin .none .eql (.t 25) (.t 26), (some (18, true)), false⟩,
    ⟨(some 28), .pick (.t 18) (.t 27) (.c (.bool false)), none, false⟩,
    ⟨(some 6), .mov (.t 28), none, false⟩] none [6])
  .ret))
def ref_standsAt_r : List RRes := [.tmp 6]
def ref_standsAt_hi : Hi := ⟨[], [(0, "text"), (1, "find"), (2, "at"), (3, "text"), (4, "find"), (5, "at")]⟩
def ref_standsAt_an : An := .d
def ref_standsAt_fi : Fi := ⟨29, ref_standsAt_c, ref_standsAt_r, ref_standsAt_an, ref_standsAt_hi⟩
theorem ref_standsAt_ok : FiOk Try.prog f_ref_standsAt ref_standsAt_fi :=
  ⟨by kernel_rfl, fun h hlen => fun_sound (fn := Try.f67) (draw_sound _ _) Try.func67 rfl (by kernel_rfl : comp Try.prog 29 _ ref_standsAt_c = some ref_standsAt_c) (by kernel_rfl : cRes Try.prog Try.f67.results.toList = some ref_standsAt_r) hlen h⟩

/-- fustian/fustianref.FindAll: slots [0 text, 1 find, 2 text, 3 find, 6 e, 7 out, 8 at] -/
def ref_FindAll_c : SCode :=
  (.seq (.ops [⟨(some 4), .mov (.c .nils), none, false⟩,
    ⟨(some 5), .mov (.c (.int .i64 0)), none, false⟩] none [0, 1])
  (.seq (.seq (.ops [⟨(some 9), .mov (.t 0), none, false⟩,
    ⟨(some 10), .mov (.t 1), none, false⟩,
    ⟨(some 11), .call f_ref_findFault [(.t 9), (.t 10)], none, false⟩,
    ⟨(some 6), .mov (.t 11), none, false⟩] none [0, 1, 6])
  (.seq (.ops [⟨(some 12), .mov (.t 6), none, false⟩,
    ⟨(some 13), .bin .none .neq (.t 12) (.c (.int .i64 0)), none, false⟩] none [0, 1, 6, 13])
  (.cond (.t 13)
    (.seq (.ops [⟨(some 14), .mov (.t 6), none, false⟩,
      ⟨(some 4), .mov (.c .nils), none, false⟩,
      ⟨(some 5), .mov (.t 14), none, false⟩] none [4, 5])
    .ret)
    .skip)))
  (.seq (.ops [⟨(some 7), .newnil 1, none, false⟩] none [0, 1, 7])
  (.seq (.seq (.ops [⟨(some 15), .mov (.t 0), none, false⟩,
    ⟨(some 16), .len true (.t 15), none, false⟩,
    ⟨(some 17), .mov (.c (.int .i64 0)), none, false⟩] none [0, 1, 7, 16, 17])
  (.block 0 (.loop [0, 1, 16] [7, 17] 1
    (.seq (.ops [⟨(some 18), .bin .none .lss (.t 17) (.t 16), none, false⟩] none [0, 1, 7, 16, 17, 18])
    (.seq (.cond (.t 18)
      .skip
      (.exit 0))
    (.join [0, 1, 16, 17] [7] 1 (.block 1 (.seq (.ops [⟨(some 19), .mov (.t 17), none, false⟩,
        ⟨(some 8), .mov (.t 19), none, false⟩] none [0, 1, 7, 8, 16, 17])
      (.seq (.ops [⟨(some 20), .mov (.t 0), none, false⟩,
        ⟨(some 21), .mov (.t 1), none, false⟩,
        ⟨(some 22), .mov (.t 8), none, false⟩,
        ⟨(some 23), .call f_ref_standsAt [(.t 20), (.t 21), (.t 22)], none, false⟩] none [0, 1, 7, 8, 16, 17, 23])
      (.cond (.t 23)
        (.ops [⟨(some 24), .mov (.t 7), none, false⟩,
          ⟨(some 25), .mov (.t 8), none, false⟩,
          ⟨(some 26), .bslice true 1 1 [(.int .i64 0)] [(0, 1, (.t 25))], none, false⟩,
          ⟨(some 27), .append 1 8 (.t 24) (.t 26), none, false⟩,
          ⟨(some 7), .mov (.t 27), none, false⟩] none [0, 1, 7, 16, 17])
        .skip))))
    (.ops [⟨(some 28), .bin .none .add (.t 17) (.c (.int .i64 1)), none, false⟩,
      ⟨(some 17), .mov (.t 28), none, false⟩] none [0, 1, 7, 16, 17])))))))
  (.seq (.ops [⟨(some 29), .mov (.t 7), none, false⟩,
    ⟨(some 4), .mov (.t 29), none, false⟩,
    ⟨(some 5), .mov (.c (.int .i64 0)), none, false⟩] none [4, 5])
  .ret)))))
def ref_FindAll_r : List RRes := [.tmp 4, .tmp 5]
def ref_FindAll_hi : Hi := ⟨[(7, (.int .i64)), (26, (.int .i64)), (27, (.int .i64))], [(0, "text"), (1, "find"), (2, "text"), (3, "find"), (6, "e"), (7, "out"), (8, "at")]⟩
def ref_FindAll_an : An := (.seq .d (.seq .d (.seq .d (.seq (.seq .d (.loop [7] [] [] .d)) .d))))
def ref_FindAll_fi : Fi := ⟨30, ref_FindAll_c, ref_FindAll_r, ref_FindAll_an, ref_FindAll_hi⟩
theorem ref_FindAll_ok : FiOk Try.prog f_ref_FindAll ref_FindAll_fi :=
  ⟨by kernel_rfl, fun h hlen => fun_sound (fn := Try.f38) (draw_sound _ _) Try.func38 rfl (by kernel_rfl : comp Try.prog 30 _ ref_FindAll_c = some ref_FindAll_c) (by kernel_rfl : cRes Try.prog Try.f38.results.toList = some ref_FindAll_r) hlen h⟩

/-- fustian/fustianlaw.sameInts: slots [0 a, 1 b, 2 a, 3 b, 5 i] -/
def law_sameInts_c : SCode :=
  (.seq (.ops [⟨(some 4), .mov (.c (.bool false)), none, false⟩] none [0, 1])
  (.seq (.seq (.ops [⟨(some 6), .mov (.t 0), none, false⟩,
    ⟨(some 7), .len false (.t 6), none, false⟩,
    ⟨(some 8), .mov (.t 1), none, false⟩,
    ⟨(some 9), .len false (.t 8), none, false⟩,
    ⟨(some 10), .bin .none .neq (.t 7) (.t 9), none, false⟩] none [0, 1, 10])
  (.cond (.t 10)
    (.seq (.ops [⟨(some 4), .mov (.c (.bool false)), none, false⟩] none [4])
    .ret)
    .skip))
  (.seq (.seq (.ops [⟨(some 5), .mov (.c (.int .i64 0)), none, false⟩] none [0, 1, 5])
  (.block 0 (.loop [0, 1] [5] 0
    (.seq (.seq (.ops [⟨(some 11), .mov (.t 5), none, false⟩,
      ⟨(some 12), .mov (.t 0), none, false⟩,
      ⟨(some 13), .len false (.t 12), none, false⟩,
      ⟨(some 14), .bin .none .lss (.t 11) (.t 13), none, false⟩] none [0, 1, 5, 14])
    (.cond (.t 14)
      .skip
      (.exit 0)))
    (.seq (.block 1 (.seq (.ops [⟨(some 17), .mov (.t 0), none, false⟩,
      ⟨(some 18), .mov (.t 5), none, false⟩,
      ⟨(some 19), .iaddr 1 none (.t 17) (.t 18), none, false⟩,
      ⟨(some 20), .load 1 false (.t 19), none, false⟩,
      ⟨(some 21), .mov (.t 1), none, false⟩,
      ⟨(some 22), .mov (.t 5), none, false⟩,
      ⟨(some 23), .iaddr 1 none (.t 21) (.t 22), none, false⟩,
      ⟨(some 24), .load 1 false (.t 23), none, false⟩,
      ⟨(some 25), .bin .none .neq (.t 20) (.t 24), none, false⟩] (some (0, 0, [0, 1, 2, 3, 4, 5, 6, 7, 8])) [0, 1, 5, 25])
    (.cond (.t 25)
      (.seq (.ops [⟨(some 4), .mov (.c (.bool false)), none, false⟩] none [4])
      .ret)
      .skip)))
    (.ops [⟨(some 15), .mov (.t 5), none, false⟩,
      ⟨(some 16), .bin .none .add (.t 15) (.c (.int .i64 1)), none, false⟩,
      ⟨(some 5), .mov (.t 16), none, false⟩] none [0, 1, 5]))))))
  (.seq (.ops [⟨(some 4), .mov (.c (.bool true)), none, false⟩] none [4])
  .ret))))
def law_sameInts_r : List RRes := [.tmp 4]
def law_sameInts_hi : Hi := ⟨[], [(0, "a"), (1, "b"), (2, "a"), (3, "b"), (5, "i")]⟩
def law_sameInts_an : An := (.seq .d (.seq .d (.seq (.seq .d (.loop [] [] [] .d)) .d)))
def law_sameInts_fi : Fi := ⟨26, law_sameInts_c, law_sameInts_r, law_sameInts_an, law_sameInts_hi⟩
theorem law_sameInts_ok : FiOk Try.prog f_law_sameInts law_sameInts_fi :=
  ⟨by kernel_rfl, fun h hlen => fun_sound (fn := Try.f32) (draw_sound _ _) Try.func32 rfl (by kernel_rfl : comp Try.prog 26 _ law_sameInts_c = some law_sameInts_c) (by kernel_rfl : cRes Try.prog Try.f32.results.toList = some law_sameInts_r) hlen h⟩

/-- fustian/fustianlaw.FindAlls: slots [0 text, 1 s, 2 text, 3 s, 5 x, 6 e, 7 y, 8 f] -/
def law_FindAlls_c : SCode :=
  (.seq (.ops [⟨(some 4), .mov (.c (.bool false)), none, false⟩] none [0, 1])
  (.seq (.ops [⟨(some 10), .mov (.t 0), none, false⟩,
    ⟨(some 11), .mov (.t 1), none, false⟩,
    ⟨(some 12), .call f_find_All [(.t 10), (.t 11)], none, false⟩,
    ⟨(some 9), .mov (.t 12), none, false⟩,
    ⟨(some 13), .extract (.t 9) 0, none, false⟩,
    ⟨(some 14), .extract (.t 9) 1, none, false⟩,
    ⟨(some 5), .mov (.t 13), none, false⟩,
    ⟨(some 6), .mov (.t 14), none, false⟩] none [0, 1, 5, 6])
  (.seq (.ops [⟨(some 16), .mov (.t 0), none, false⟩,
    ⟨(some 17), .mov (.t 1), none, false⟩,
    ⟨(some 18), .call f_ref_FindAll [(.t 16), (.t 17)], none, false⟩,
    ⟨(some 15), .mov (.t 18), none, false⟩,
    ⟨(some 19), .extract (.t 15) 0, none, false⟩,
    ⟨(some 20), .extract (.t 15) 1, none, false⟩,
    ⟨(some 7), .mov (.t 19), none, false⟩,
    ⟨(some 8), .mov (.t 20), none, false⟩] none [5, 6, 7, 8])
  (.seq (.ops [⟨(some 21), .mov (.t 5), none, false⟩,
    ⟨(some 22), .mov (.t 7), none, false⟩,
    ⟨(some 23), .call f_law_sameInts [(.t 21), (.t 22)], none, false⟩,
    ⟨(some 24), .mov (.t 23), none, true⟩,
    ⟨(some 25), .mov (.t 6), (some (24, true)), false⟩,
    ⟨(some 26), .mov (.t 8), (some (24, true)), false⟩,
    ⟨(some 27), .bin .none .eql (.t 25) (.t 26), (some (24, true)), false⟩,
    ⟨(some 28), .pick (.t 24) (.t 27) (.c (.bool false)), none, false⟩,
    ⟨(some 4), .mov (.t 28), none, false⟩] none [4])
  .ret))))
def law_FindAlls_r : List RRes := [.tmp 4]
def law_FindAlls_hi : Hi := ⟨[], [(0, "text"), (1, "s"), (2, "text"), (3, "s"), (5, "x"), (6, "e"), (7, "y"), (8, "f")]⟩
def law_FindAlls_an : An := .d
def law_FindAlls_fi : Fi := ⟨29, law_FindAlls_c, law_FindAlls_r, law_FindAlls_an, law_FindAlls_hi⟩
theorem law_FindAlls_ok : FiOk Try.prog f_law_FindAlls law_FindAlls_fi :=
  ⟨by kernel_rfl, fun h hlen => fun_sound (fn := Try.f13) (draw_sound _ _) Try.func13 rfl (by kernel_rfl : comp Try.prog 29 _ law_FindAlls_c = some law_FindAlls_c) (by kernel_rfl : cRes Try.prog Try.f13.results.toList = some law_FindAlls_r) hlen h⟩

end Go.Proofs.Ytcgggoaefceokaa
