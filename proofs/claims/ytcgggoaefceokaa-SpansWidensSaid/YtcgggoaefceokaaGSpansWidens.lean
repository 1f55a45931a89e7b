/- The functions' simplified code, printed by a program of the claim's author; each is checked against the program's own code. Conditions: none. -/
import Derived.Test.YtcgggoaefceokaaProg
import Derived.Test.YtcgggoaefceokaaVyM
set_option linter.unusedVariables false
set_option maxRecDepth 100000
namespace Go.Proofs.Ytcgggoaefceokaa
open Go.Vc
abbrev f_gosem_cut_init : Nat := 2
abbrev f_law_WrapChecks : Nat := 3
abbrev f_law_PosFinds : Nat := 4
abbrev f_law_DiffPatches : Nat := 5
abbrev f_law_EditApplies : Nat := 6
abbrev f_law_LinesLines : Nat := 7
abbrev f_law_SpansWidens : Nat := 8
abbrev f_law_EditInverts : Nat := 9
abbrev f_law_WrapGreedies : Nat := 10
abbrev f_law_SchedPlays : Nat := 11
abbrev f_law_EditOvers : Nat := 12
abbrev f_law_FindAlls : Nat := 13
abbrev f_law_WrapBests : Nat := 14
abbrev f_wrap_Check : Nat := 15
abbrev f_ref_WrapFault : Nat := 16
abbrev f_pos_Find : Nat := 17
abbrev f_ref_PosFind : Nat := 18
abbrev f_diff_Patch : Nat := 19
abbrev f_ref_DiffPatch : Nat := 20
abbrev f_law_sameTexts : Nat := 21
abbrev f_edit_Apply : Nat := 22
abbrev f_ref_EditApply : Nat := 23
abbrev f_lines_Line : Nat := 24
abbrev f_ref_LinesLine : Nat := 25
abbrev f_spans_Widen : Nat := 26
abbrev f_ref_SpansWiden : Nat := 27
abbrev f_edit_Invert : Nat := 28
abbrev f_ref_EditInvert : Nat := 29
abbrev f_wrap_Greedy : Nat := 30
abbrev f_ref_WrapGreedy : Nat := 31
abbrev f_law_sameInts : Nat := 32
abbrev f_sched_Play : Nat := 33
abbrev f_ref_SchedPlayed : Nat := 34
abbrev f_edit_Over : Nat := 35
abbrev f_ref_EditOver : Nat := 36
abbrev f_find_All : Nat := 37
abbrev f_ref_FindAll : Nat := 38
abbrev f_wrap_Best : Nat := 39
abbrev f_ref_WrapCost : Nat := 40
abbrev f_ref_WrapLeast : Nat := 41
abbrev f_slices_ContainsFunc___int_int_ : Nat := 42
abbrev f_wrap_Check_1 : Nat := 43
abbrev f_strings_IndexByte : Nat := 44
abbrev f_ref_PosOf : Nat := 45
abbrev f_edit_run : Nat := 46
abbrev f_ref_EditApplied : Nat := 47
abbrev f_lines_may : Nat := 48
abbrev f_sort_Search : Nat := 49
abbrev f_lines_Line_1 : Nat := 50
abbrev f_ref_startsMay : Nat := 51
abbrev f_spans_Widened : Nat := 52
abbrev f_slices_Reverse___api_Edit_api_Edit_ : Nat := 53
abbrev f_ref_lineWide : Nat := 54
abbrev f___sched_ring__push : Nat := 55
abbrev f___sched_ring__turn : Nat := 56
abbrev f_edit_Check : Nat := 57
abbrev f_edit_clash : Nat := 58
abbrev f_edit_Moved : Nat := 59
abbrev f_ref_EditFault : Nat := 60
abbrev f_ref_EditOver_1 : Nat := 61
abbrev f_ref_EditOver_2 : Nat := 62
abbrev f_ref_editPlace : Nat := 63
abbrev f_find_fault : Nat := 64
abbrev f_find_In : Nat := 65
abbrev f_ref_findFault : Nat := 66
abbrev f_ref_standsAt : Nat := 67
abbrev f_slices_IndexFunc___int_int_ : Nat := 68
abbrev f_internal_stringslite_IndexByte : Nat := 69
abbrev f_edit_Undo : Nat := 70
abbrev f_edit_Made : Nat := 71
abbrev f_ref_editMade : Nat := 72
abbrev f_strings_LastIndexByte : Nat := 73
abbrev f_edit_nothing : Nat := 74
abbrev f_edit_within : Nat := 75
abbrev f_find_border : Nat := 76
abbrev f_internal_bytealg_LastIndexByteString : Nat := 78

/-- fustian/spans.Widened: slots [0 text, 1 s, 2 text, 3 s, 5 i] -/
def spans_Widened_c : SCode :=
  (.seq (.ops [⟨(some 3), .box 0 (.t 1), none, false⟩,
    ⟨(some 4), .alloc 0 [(.int .i64 0), (.int .i64 0)], none, false⟩] none [0, 3, 4])
  (.seq (.ops [⟨(some 6), .mov (.t 0), none, false⟩,
    ⟨(some 7), .faddr 0 (.t 3), none, false⟩,
    ⟨(some 8), .load 1 false (.t 7), none, false⟩,
    ⟨(some 9), .slice 0 (.t 6) none (some (.t 8)), none, false⟩,
    ⟨(some 10), .call f_strings_LastIndexByte [(.t 9), (.c (.int .u8 10))], none, false⟩,
    ⟨(some 11), .bin .none .add (.t 10) (.c (.int .i64 1)), none, false⟩,
    ⟨(some 12), .faddr 0 (.t 3), none, false⟩,
    ⟨none, .store 1 (.t 12) (.t 11), none, false⟩] none [0, 3, 4])
  (.join [3, 4] [] 2 (.seq (.ops [⟨(some 13), .mov (.t 0), none, false⟩,
      ⟨(some 14), .faddr 1 (.t 3), none, false⟩,
      ⟨(some 15), .load 1 false (.t 14), none, false⟩,
      ⟨(some 16), .slice 0 (.t 13) (some (.t 15)) none, none, false⟩,
      ⟨(some 17), .call f_strings_IndexByte [(.t 16), (.c (.int .u8 10))], none, false⟩,
      ⟨(some 5), .mov (.t 17), none, false⟩] none [0, 3, 4, 5])
    (.seq (.ops [⟨(some 18), .mov (.t 5), none, false⟩,
      ⟨(some 19), .bin .none .geq (.t 18) (.c (.int .i64 0)), none, false⟩] none [0, 3, 4, 5, 19])
    (.cond (.t 19)
      (.ops [⟨(some 20), .faddr 1 (.t 3), none, false⟩,
        ⟨(some 21), .load 1 false (.t 20), none, false⟩,
        ⟨(some 22), .mov (.t 5), none, false⟩,
        ⟨(some 23), .bin .none .add (.t 22) (.c (.int .i64 1)), none, false⟩,
        ⟨(some 24), .bin .none .add (.t 21) (.t 23), none, false⟩,
        ⟨(some 25), .faddr 1 (.t 3), none, false⟩,
        ⟨none, .store 1 (.t 25) (.t 24), none, false⟩] none [3, 4])
      (.ops [⟨(some 26), .mov (.t 0), none, false⟩,
        ⟨(some 27), .len true (.t 26), none, false⟩,
        ⟨(some 28), .faddr 1 (.t 3), none, false⟩,
        ⟨none, .store 1 (.t 28) (.t 27), none, false⟩] none [3, 4]))))
  (.seq (.ops [⟨(some 29), .load 2 true (.t 3), none, false⟩,
    ⟨none, .store 2 (.t 4) (.t 29), none, false⟩] none [4])
  .ret))))
def spans_Widened_r : List RRes := [.cell 4 2 true]
def spans_Widened_hi : Hi := ⟨[], [(0, "text"), (1, "s"), (2, "text"), (3, "s"), (5, "i")]⟩
def spans_Widened_an : An := .d
def spans_Widened_fi : Fi := ⟨30, spans_Widened_c, spans_Widened_r, spans_Widened_an, spans_Widened_hi⟩
theorem spans_Widened_ok : FiOk Try.prog f_spans_Widened spans_Widened_fi :=
  ⟨by kernel_rfl, fun h hlen => fun_sound (fn := Try.f52) (draw_sound _ _) Try.func52 rfl (by kernel_rfl : comp Try.prog 30 _ spans_Widened_c = some spans_Widened_c) (by kernel_rfl : cRes Try.prog Try.f52.results.toList = some spans_Widened_r) hlen h⟩

/-- fustian/spans.Widen: slots [0 text, 1 s, 2 text, 3 s] -/
def spans_Widen_c : SCode :=
  (.seq (.ops [⟨(some 3), .box 0 (.t 1), none, false⟩,
    ⟨(some 4), .alloc 0 [(.int .i64 0), (.int .i64 0)], none, false⟩,
    ⟨(some 5), .mov (.c (.int .i64 0)), none, false⟩] none [0, 3, 4])
  (.seq (.block 0 (.seq (.ops [⟨(some 7), .mov (.t 0), none, false⟩,
    ⟨(some 8), .len true (.t 7), none, false⟩,
    ⟨(some 9), .bin .none .gtr (.t 8) (.c (.int .i64 600)), none, false⟩,
    ⟨(some 6), .mov (.t 9), none, false⟩] none [0, 3, 4, 6])
  (.cond (.t 6)
    (.seq (.ops [⟨(some 10), .build [(.int .i64 0), (.int .i64 0)] [], none, false⟩,
      ⟨none, .store 2 (.t 4) (.t 10), none, false⟩,
      ⟨(some 5), .mov (.c (.int .i64 1)), none, false⟩] none [4, 5])
    .ret)
    (.seq (.ops [⟨(some 12), .faddr 0 (.t 3), none, false⟩,
      ⟨(some 13), .load 1 false (.t 12), none, false⟩,
      ⟨(some 14), .bin .none .lss (.t 13) (.c (.int .i64 0)), none, false⟩,
      ⟨(some 15), .mov (.t 14), none, true⟩,
      ⟨(some 16), .faddr 0 (.t 3), (some (15, false)), false⟩,
      ⟨(some 17), .load 1 false (.t 16), (some (15, false)), false⟩,
      ⟨(some 18), .faddr 1 (.t 3), (some (15, false)), false⟩,
      ⟨(some 19), .load 1 false (.t 18), (some (15, false)), false⟩,
      ⟨(some 20), .bin .none .gtr (.t 17) (.t 19), (some (15, false)), false⟩,
      ⟨(some 21), .pick (.t 15) (.c (.bool true)) (.t 20), none, false⟩,
      ⟨(some 22), .mov (.t 21), none, true⟩,
      ⟨(some 23), .faddr 1 (.t 3), (some (22, false)), false⟩,
      ⟨(some 24), .load 1 false (.t 23), (some (22, false)), false⟩,
      ⟨(some 25), .mov (.t 0), (some (22, false)), false⟩,
      ⟨(some 26), .len true (.t 25), (some (22, false)), false⟩,
      ⟨(some 27), .bin .none .gtr (.t 24) (.t 26), (some (22, false)), false⟩,
      ⟨(some 28), .pick (.t 22) (.c (.bool true)) (.t 27), none, false⟩,
      ⟨(some 11), .mov (.t 28), none, false⟩] none [0, 3, 4, 11])
    (.cond (.t 11)
      (.seq (.ops [⟨(some 29), .build [(.int .i64 0), (.int .i64 0)] [], none, false⟩,
        ⟨none, .store 2 (.t 4) (.t 29), none, false⟩,
        ⟨(some 5), .mov (.c (.int .i64 2)), none, false⟩] none [4, 5])
      .ret)
      .skip)))))
  (.seq (.ops [⟨(some 30), .mov (.t 0), none, false⟩,
    ⟨(some 31), .load 2 true (.t 3), none, false⟩,
    ⟨(some 32), .call f_spans_Widened [(.t 30), (.t 31)], none, false⟩,
    ⟨none, .store 2 (.t 4) (.t 32), none, false⟩,
    ⟨(some 5), .mov (.c (.int .i64 0)), none, false⟩] none [4, 5])
  .ret)))
def spans_Widen_r : List RRes := [.cell 4 2 true, .tmp 5]
def spans_Widen_hi : Hi := ⟨[], [(0, "text"), (1, "s"), (2, "text"), (3, "s")]⟩
def spans_Widen_an : An := .d
def spans_Widen_fi : Fi := ⟨33, spans_Widen_c, spans_Widen_r, spans_Widen_an, spans_Widen_hi⟩
theorem spans_Widen_ok : FiOk Try.prog f_spans_Widen spans_Widen_fi :=
  ⟨by kernel_rfl, fun h hlen => fun_sound (fn := Try.f26) (draw_sound _ _) Try.func26 rfl (by kernel_rfl : comp Try.prog 33 _ spans_Widen_c = some spans_Widen_c) (by kernel_rfl : cRes Try.prog Try.f26.results.toList = some spans_Widen_r) hlen h⟩

/-- fustian/fustianref.SpansWiden: slots [0 text, 1 s, 2 text, 3 s] -/
def ref_SpansWiden_c : SCode :=
  (.seq (.ops [⟨(some 3), .box 0 (.t 1), none, false⟩,
    ⟨(some 4), .alloc 0 [(.int .i64 0), (.int .i64 0)], none, false⟩,
    ⟨(some 5), .mov (.c (.int .i64 0)), none, false⟩] none [0, 3, 4])
  (.seq (.seq (.ops [⟨(some 6), .mov (.t 0), none, false⟩,
    ⟨(some 7), .len true (.t 6), none, false⟩,
    ⟨(some 8), .bin .none .gtr (.t 7) (.c (.int .i64 600)), none, false⟩] none [0, 3, 4, 8])
  (.cond (.t 8)
    (.seq (.ops [⟨(some 9), .build [(.int .i64 0), (.int .i64 0)] [], none, false⟩,
      ⟨none, .store 2 (.t 4) (.t 9), none, false⟩,
      ⟨(some 5), .mov (.c (.int .i64 1)), none, false⟩] none [4, 5])
    .ret)
    .skip))
  (.seq (.seq (.ops [⟨(some 10), .faddr 0 (.t 3), none, false⟩,
    ⟨(some 11), .load 1 false (.t 10), none, false⟩,
    ⟨(some 12), .bin .none .lss (.t 11) (.c (.int .i64 0)), none, false⟩,
    ⟨(some 13), .mov (.t 12), none, true⟩,
    ⟨(some 14), .faddr 1 (.t 3), (some (13, false)), false⟩,
    ⟨(some 15), .load 1 false (.t 14), (some (13, false)), false⟩,
    ⟨(some 16), .faddr 0 (.t 3), (some (13, false)), false⟩,
    ⟨(some 17), .load 1 false (.t 16), (some (13, false)), false⟩,
    ⟨(some 18), .bin .none .lss (.t 15) (.t 17), (some (13, false)), false⟩,
    ⟨(some 19), .pick (.t 13) (.c (.bool true)) (.t 18), none, false⟩,
    ⟨(some 20), .mov (.t 19), none, true⟩,
    ⟨(some 21), .faddr 1 (.t 3), (some (20, false)), false⟩,
    ⟨(some 22), .load 1 false (.t 21), (some (20, false)), false⟩,
    ⟨(some 23), .mov (.t 0), (some (20, false)), false⟩,
    ⟨(some 24), .len true (.t 23), (some (20, false)), false⟩,
    ⟨(some 25), .bin .none .gtr (.t 22) (.t 24), (some (20, false)), false⟩,
    ⟨(some 26), .pick (.t 20) (.c (.bool true)) (.t 25), none, false⟩] none [0, 3, 4, 26])
  (.cond (.t 26)
    (.seq (.ops [⟨(some 27), .build [(.int .i64 0), (.int .i64 0)] [], none, false⟩,
      ⟨none, .store 2 (.t 4) (.t 27), none, false⟩,
      ⟨(some 5), .mov (.c (.int .i64 2)), none, false⟩] none [4, 5])
    .ret)
    .skip))
  (.seq (.block 0 (.loop [0, 3, 4] [] 2
    (.seq (.seq (.ops [⟨(some 28), .faddr 0 (.t 3), none, false⟩,
      ⟨(some 29), .load 1 false (.t 28), none, false⟩,
      ⟨(some 30), .bin .none .gtr (.t 29) (.c (.int .i64 0)), none, false⟩,
      ⟨(some 31), .mov (.t 30), none, true⟩,
      ⟨(some 32), .mov (.t 0), (some (31, true)), false⟩,
      ⟨(some 33), .faddr 0 (.t 3), (some (31, true)), false⟩,
      ⟨(some 34), .load 1 false (.t 33), (some (31, true)), false⟩,
      ⟨(some 35), .bin .none .sub (.t 34) (.c (.int .i64 1)), (some (31, true)), false⟩,
      ⟨(some 36), .index 1 none false (.t 32) (.t 35), (some (31, true)), false⟩,
      ⟨(some 37), .bin .none .neq (.t 36) (.c (.int .u8 10)), (some (31, true)), false⟩,
      ⟨(some 38), .pick (.t 31) (.t 37) (.c (.bool false)), none, false⟩] none [0, 3, 4, 38])
    (.cond (.t 38)
      .skip
      (.exit 0)))
    (.block 1 (.ops [⟨(some 39), .faddr 0 (.t 3), none, false⟩,
      ⟨(some 40), .load 1 false (.t 39), none, false⟩,
      ⟨(some 41), .bin .none .sub (.t 40) (.c (.int .i64 1)), none, false⟩,
      ⟨(some 42), .faddr 0 (.t 3), none, false⟩,
      ⟨none, .store 1 (.t 42) (.t 41), none, false⟩] none [0, 3, 4])))))
  (.join [3, 4] [] 2 (.block 2 (.loop [0, 3, 4] [] 2
      (.seq (.seq (.ops [⟨(some 43), .faddr 1 (.t 3), none, false⟩,
        ⟨(some 44), .load 1 false (.t 43), none, false⟩,
        ⟨(some 45), .mov (.t 0), none, false⟩,
        ⟨(some 46), .len true (.t 45), none, false⟩,
        ⟨(some 47), .bin .none .lss (.t 44) (.t 46), none, false⟩] none [0, 3, 4, 47])
      (.cond (.t 47)
        .skip
        (.exit 2)))
      (.block 3 (.seq (.ops [⟨(some 48), .faddr 1 (.t 3), none, false⟩,
        ⟨(some 49), .load 1 false (.t 48), none, false⟩,
        ⟨(some 50), .bin .none .add (.t 49) (.c (.int .i64 1)), none, false⟩,
        ⟨(some 51), .faddr 1 (.t 3), none, false⟩,
        ⟨none, .store 1 (.t 51) (.t 50), none, false⟩] none [0, 3, 4])
      (.seq (.ops [⟨(some 52), .mov (.t 0), none, false⟩,
        ⟨(some 53), .faddr 1 (.t 3), none, false⟩,
        ⟨(some 54), .load 1 false (.t 53), none, false⟩,
        ⟨(some 55), .bin .none .sub (.t 54) (.c (.int .i64 1)), none, false⟩,
        ⟨(some 56), .index 1 none false (.t 52) (.t 55), none, false⟩,
        ⟨(some 57), .bin .none .eql (.t 56) (.c (.int .u8 10)), none, false⟩] none [0, 3, 4, 57])
      (.cond (.t 57)
        (.exit 2)
        .skip)))))))
  (.seq (.ops [⟨(some 58), .load 2 true (.t 3), none, false⟩,
    ⟨none, .store 2 (.t 4) (.t 58), none, false⟩,
    ⟨(some 5), .mov (.c (.int .i64 0)), none, false⟩] none [4, 5])
  .ret))))))
def ref_SpansWiden_r : List RRes := [.cell 4 2 true, .tmp 5]
def ref_SpansWiden_hi : Hi := ⟨[], [(0, "text"), (1, "s"), (2, "text"), (3, "s")]⟩
def ref_SpansWiden_an : An := (.seq .d (.seq .d (.seq .d (.seq (.loop [3] [] [] .d) (.seq (.loop [3] [] [] .d) .d)))))
def ref_SpansWiden_fi : Fi := ⟨59, ref_SpansWiden_c, ref_SpansWiden_r, ref_SpansWiden_an, ref_SpansWiden_hi⟩
theorem ref_SpansWiden_ok : FiOk Try.prog f_ref_SpansWiden ref_SpansWiden_fi :=
  ⟨by kernel_rfl, fun h hlen => fun_sound (fn := Try.f27) (draw_sound _ _) Try.func27 rfl (by kernel_rfl : comp Try.prog 59 _ ref_SpansWiden_c = some ref_SpansWiden_c) (by kernel_rfl : cRes Try.prog Try.f27.results.toList = some ref_SpansWiden_r) hlen h⟩

/-- fustian/fustianlaw.SpansWidens: slots [0 text, 1 s, 2 text, 3 s, 5 x, 6 e, 7 y, 8 f] -/
def law_SpansWidens_c : SCode :=
  (.seq (.ops [⟨(some 3), .box 0 (.t 1), none, false⟩,
    ⟨(some 4), .mov (.c (.bool false)), none, false⟩] none [0, 3])
  (.seq (.ops [⟨(some 10), .mov (.t 0), none, false⟩,
    ⟨(some 11), .load 2 true (.t 3), none, false⟩,
    ⟨(some 12), .call f_spans_Widen [(.t 10), (.t 11)], none, false⟩,
    ⟨(some 9), .mov (.t 12), none, false⟩,
    ⟨(some 13), .extract (.t 9) 0, none, false⟩,
    ⟨(some 14), .extract (.t 9) 1, none, false⟩,
    ⟨(some 5), .alloc 0 [(.int .i64 0), (.int .i64 0)], none, false⟩,
    ⟨none, .store 2 (.t 5) (.t 13), none, false⟩,
    ⟨(some 6), .mov (.t 14), none, false⟩] none [0, 3, 5, 6])
  (.seq (.ops [⟨(some 16), .mov (.t 0), none, false⟩,
    ⟨(some 17), .load 2 true (.t 3), none, false⟩,
    ⟨(some 18), .call f_ref_SpansWiden [(.t 16), (.t 17)], none, false⟩,
    ⟨(some 15), .mov (.t 18), none, false⟩,
    ⟨(some 19), .extract (.t 15) 0, none, false⟩,
    ⟨(some 20), .extract (.t 15) 1, none, false⟩,
    ⟨(some 7), .alloc 0 [(.int .i64 0), (.int .i64 0)], none, false⟩,
    ⟨none, .store 2 (.t 7) (.t 19), none, false⟩,
    ⟨(some 8), .mov (.t 20), none, false⟩] none [5, 6, 7, 8])
  (.seq (.ops [⟨(some 21), .load 2 true (.t 5), none, false⟩,
    ⟨(some 22), .load 2 true (.t 7), none, false⟩,
    ⟨(some 23), .bin (.agg [.int, .int]) .eql (.t 21) (.t 22), none, false⟩,
    ⟨(some 24), .mov (.t 23), none, true⟩,
    ⟨(some 25), .mov (.t 6), (some (24, true)), false⟩,
    ⟨(some 26), .mov (.t 8), (some (24, true)), false⟩,
    ⟨(some 27), .bin .none .eql (.t 25) (.t 26), (some (24, true)), false⟩,
    ⟨(some 28), .pick (.t 24) (.t 27) (.c (.bool false)), none, false⟩,
    ⟨(some 4), .mov (.t 28), none, false⟩] none [4])
  .ret))))
def law_SpansWidens_r : List RRes := [.tmp 4]
def law_SpansWidens_hi : Hi := ⟨[], [(0, "text"), (1, "s"), (2, "text"), (3, "s"), (5, "x"), (6, "e"), (7, "y"), (8, "f")]⟩
def law_SpansWidens_an : An := .d
def law_SpansWidens_fi : Fi := ⟨29, law_SpansWidens_c, law_SpansWidens_r, law_SpansWidens_an, law_SpansWidens_hi⟩
theorem law_SpansWidens_ok : FiOk Try.prog f_law_SpansWidens law_SpansWidens_fi :=
  ⟨by kernel_rfl, fun h hlen => fun_sound (fn := Try.f8) (draw_sound _ _) Try.func8 rfl (by kernel_rfl : comp Try.prog 29 _ law_SpansWidens_c = some law_SpansWidens_c) (by kernel_rfl : cRes Try.prog Try.f8.results.toList = some law_SpansWidens_r) hlen h⟩

/-- strings.LastIndexByte: slots [0 s, 1 c, 2 s, 3 c] -/
def strings_LastIndexByte_c : SCode :=
  (.seq (.ops [⟨(some 4), .mov (.c (.int .i64 0)), none, false⟩] none [0, 1])
  (.seq (.ops [⟨(some 5), .mov (.t 0), none, false⟩,
    ⟨(some 6), .mov (.t 1), none, false⟩,
    ⟨(some 7), .call f_internal_bytealg_LastIndexByteString [(.t 5), (.t 6)], none, false⟩,
    ⟨(some 4), .mov (.t 7), none, false⟩] none [4])
  .ret))
def strings_LastIndexByte_r : List RRes := [.tmp 4]
def strings_LastIndexByte_hi : Hi := ⟨[], [(0, "s"), (1, "c"), (2, "s"), (3, "c")]⟩
def strings_LastIndexByte_an : An := .d
def strings_LastIndexByte_fi : Fi := ⟨8, strings_LastIndexByte_c, strings_LastIndexByte_r, strings_LastIndexByte_an, strings_LastIndexByte_hi⟩
theorem strings_LastIndexByte_ok : FiOk Try.prog f_strings_LastIndexByte strings_LastIndexByte_fi :=
  ⟨by kernel_rfl, fun h hlen => fun_sound (fn := Try.f73) (draw_sound _ _) Try.func73 rfl (by kernel_rfl : comp Try.prog 8 _ strings_LastIndexByte_c = some strings_LastIndexByte_c) (by kernel_rfl : cRes Try.prog Try.f73.results.toList = some strings_LastIndexByte_r) hlen h⟩

/-- internal/bytealg.LastIndexByteString: slots [0 s, 1 c, 2 s, 3 c, 5 i] -/
def internal_bytealg_LastIndexByteString_c : SCode :=
  (.seq (.ops [⟨(some 4), .mov (.c (.int .i64 0)), none, false⟩] none [0, 1])
  (.seq (.seq (.ops [⟨(some 6), .mov (.t 0), none, false⟩,
    ⟨(some 7), .len true (.t 6), none, false⟩,
    ⟨(some 8), .bin .none .sub (.t 7) (.c (.int .i64 1)), none, false⟩,
    ⟨(some 5), .mov (.t 8), none, false⟩] none [0, 1, 5])
  (.block 0 (.loop [0, 1] [5] 0
    (.seq (.seq (.ops [⟨(some 9), .mov (.t 5), none, false⟩,
      ⟨(some 10), .bin .none .geq (.t 9) (.c (.int .i64 0)), none, false⟩] none [0, 1, 5, 10])
    (.cond (.t 10)
      .skip
      (.exit 0)))
    (.seq (.block 1 (.seq (.ops [⟨(some 13), .mov (.t 0), none, false⟩,
      ⟨(some 14), .mov (.t 5), none, false⟩,
      ⟨(some 15), .index 1 none false (.t 13) (.t 14), none, false⟩,
      ⟨(some 16), .mov (.t 1), none, false⟩,
      ⟨(some 17), .bin .none .eql (.t 15) (.t 16), none, false⟩] none [0, 1, 5, 17])
    (.cond (.t 17)
      (.seq (.ops [⟨(some 18), .mov (.t 5), none, false⟩,
        ⟨(some 4), .mov (.t 18), none, false⟩] none [4])
      .ret)
      .skip)))
    (.ops [⟨(some 11), .mov (.t 5), none, false⟩,
      ⟨(some 12), .bin .none .sub (.t 11) (.c (.int .i64 1)), none, false⟩,
      ⟨(some 5), .mov (.t 12), none, false⟩] none [0, 1, 5]))))))
  (.seq (.ops [⟨(some 4), .mov (.c (.int .i64 (-1))), none, false⟩] none [4])
  .ret)))
def internal_bytealg_LastIndexByteString_r : List RRes := [.tmp 4]
def internal_bytealg_LastIndexByteString_hi : Hi := ⟨[], [(0, "s"), (1, "c"), (2, "s"), (3, "c"), (5, "i")]⟩
def internal_bytealg_LastIndexByteString_an : An := (.seq .d (.seq (.seq .d (.loop [] [] [] .d)) .d))
def internal_bytealg_LastIndexByteString_fi : Fi := ⟨19, internal_bytealg_LastIndexByteString_c, internal_bytealg_LastIndexByteString_r, internal_bytealg_LastIndexByteString_an, internal_bytealg_LastIndexByteString_hi⟩
theorem internal_bytealg_LastIndexByteString_ok : FiOk Try.prog f_internal_bytealg_LastIndexByteString internal_bytealg_LastIndexByteString_fi :=
  ⟨by kernel_rfl, fun h hlen => fun_sound (fn := Try.f78) (draw_sound _ _) Try.func78 rfl (by kernel_rfl : comp Try.prog 19 _ internal_bytealg_LastIndexByteString_c = some internal_bytealg_LastIndexByteString_c) (by kernel_rfl : cRes Try.prog Try.f78.results.toList = some internal_bytealg_LastIndexByteString_r) hlen h⟩

/-- strings.IndexByte: slots [0 s, 1 c, 2 s, 3 c] -/
def strings_IndexByte_c : SCode :=
  (.seq (.ops [⟨(some 4), .mov (.c (.int .i64 0)), none, false⟩] none [0, 1])
  (.seq (.ops [⟨(some 5), .mov (.t 0), none, false⟩,
    ⟨(some 6), .mov (.t 1), none, false⟩,
    ⟨(some 7), .call f_internal_stringslite_IndexByte [(.t 5), (.t 6)], none, false⟩,
    ⟨(some 4), .mov (.t 7), none, false⟩] none [4])
  .ret))
def strings_IndexByte_r : List RRes := [.tmp 4]
def strings_IndexByte_hi : Hi := ⟨[], [(0, "s"), (1, "c"), (2, "s"), (3, "c")]⟩
def strings_IndexByte_an : An := .d
def strings_IndexByte_fi : Fi := ⟨8, strings_IndexByte_c, strings_IndexByte_r, strings_IndexByte_an, strings_IndexByte_hi⟩
theorem strings_IndexByte_ok : FiOk Try.prog f_strings_IndexByte strings_IndexByte_fi :=
  ⟨by kernel_rfl, fun h hlen => fun_sound (fn := Try.f44) (draw_sound _ _) Try.func44 rfl (by kernel_rfl : comp Try.prog 8 _ strings_IndexByte_c = some strings_IndexByte_c) (by kernel_rfl : cRes Try.prog Try.f44.results.toList = some strings_IndexByte_r) hlen h⟩

/-- internal/stringslite.IndexByte: slots [0 s, 1 c, 2 s, 3 c] -/
def internal_stringslite_IndexByte_c : SCode :=
  (.seq (.ops [⟨(some 4), .mov (.c (.int .i64 0)), none, false⟩] none [0, 1])
  (.seq (.ops [⟨(some 5), .mov (.t 0), none, false⟩,
    ⟨(some 6), .mov (.t 1), none, false⟩,
    ⟨(some 7), .ext .idxb [(.t 5), (.t 6)], none, false⟩,
    ⟨(some 4), .mov (.t 7), none, false⟩] none [4])
  .ret))
def internal_stringslite_IndexByte_r : List RRes := [.tmp 4]
def internal_stringslite_IndexByte_hi : Hi := ⟨[], [(0, "s"), (1, "c"), (2, "s"), (3, "c")]⟩
def internal_stringslite_IndexByte_an : An := .d
def internal_stringslite_IndexByte_fi : Fi := ⟨8, internal_stringslite_IndexByte_c, internal_stringslite_IndexByte_r, internal_stringslite_IndexByte_an, internal_stringslite_IndexByte_hi⟩
theorem internal_stringslite_IndexByte_ok : FiOk Try.prog f_internal_stringslite_IndexByte internal_stringslite_IndexByte_fi :=
  ⟨by kernel_rfl, fun h hlen => fun_sound (fn := Try.f69) (draw_sound _ _) Try.func69 rfl (by kernel_rfl : comp Try.prog 8 _ internal_stringslite_IndexByte_c = some internal_stringslite_IndexByte_c) (by kernel_rfl : cRes Try.prog Try.f69.results.toList = some internal_stringslite_IndexByte_r) hlen h⟩

end Go.Proofs.Ytcgggoaefceokaa
