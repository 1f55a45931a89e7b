/- The functions' simplified code, printed by a program of the claim's author; each is checked against the program's own code. Conditions: none. -/
import Derived.Test.YtdbgppfoenoijaaProg
import Derived.Test.YtdbgppfoenoijaaVyM
set_option linter.unusedVariables false
set_option maxRecDepth 100000
namespace Go.Proofs.Ytdbgppfoenoijaa
open Go.Vc
abbrev f_gosem_cut_init : Nat := 2
abbrev f_law_MergeMerges : Nat := 3
abbrev f_top_TopMerge : Nat := 4
abbrev f_merge_Merge : Nat := 5
abbrev f_ref_Merged : Nat := 6
abbrev f_law_sameTexts : Nat := 7
abbrev f_keep_TextOf : Nat := 8
abbrev f_keep_Picked : Nat := 9
abbrev f_edit_Apply : Nat := 10
abbrev f_keep_Few : Nat := 11
abbrev f_top_cutText : Nat := 12
abbrev f_diff_Cost : Nat := 13
abbrev f_top_sameTexts : Nat := 14
abbrev f_merge_Merge_1 : Nat := 15
abbrev f_slices_ContainsFunc___string_string_ : Nat := 16
abbrev f_merge_hunks : Nat := 17
abbrev f_merge_part : Nat := 18
abbrev f_merge_made : Nat := 19
abbrev f_slices_Equal___string_string_ : Nat := 20
abbrev f_ref_LinesFault : Nat := 21
abbrev f_ref_touched : Nat := 22
abbrev f_ref_Merged_1 : Nat := 23
abbrev f_edit_run : Nat := 24
abbrev f_diff_fault : Nat := 25
abbrev f_diff_costs : Nat := 26
abbrev f_slices_IndexFunc___string_string_ : Nat := 27
abbrev f_diff_Way : Nat := 28
abbrev f___merge_side__upTo : Nat := 29
abbrev f_ref_DiffSteps : Nat := 30
abbrev f_edit_Check : Nat := 31
abbrev f_edit_Undo : Nat := 32
abbrev f_edit_Made : Nat := 33
abbrev f_diff_fault_1 : Nat := 34
abbrev f_diff_add : Nat := 35
abbrev f_ref_common : Nat := 36

/-- fustian/diff.Way: slots [0 a, 1 b, 2 a, 3 b, 5 c, 6 out, 7 i, 8 k] -/
def diff_Way_c : SCode :=
  (.seq (.ops [⟨(some 4), .mov (.c .nils), none, false, []⟩] none [0, 1])
  (.seq (.ops [⟨(some 9), .mov (.t 0), none, false, []⟩,
    ⟨(some 10), .mov (.t 1), none, false, []⟩,
    ⟨(some 11), .call f_diff_costs [(.t 9), (.t 10)], none, false, []⟩,
    ⟨(some 5), .mov (.t 11), none, false, []⟩] none [0, 1, 5])
  (.seq (.ops [⟨(some 6), .newnil 2, none, false, []⟩] none [0, 1, 5, 6])
  (.seq (.seq (.ops [⟨(some 7), .mov (.c (.int .i64 0)), none, false, []⟩,
    ⟨(some 8), .mov (.c (.int .i64 0)), none, false, []⟩] none [0, 1, 5, 6, 7, 8])
  (.block 0 (.loop [0, 1, 5] [6, 7, 8] 1
    (.seq (.seq (.ops [⟨(some 12), .mov (.t 7), none, false, []⟩,
      ⟨(some 13), .mov (.t 0), none, false, []⟩,
      ⟨(some 14), .len false (.t 13), none, false, []⟩,
      ⟨(some 15), .bin .none .lss (.t 12) (.t 14), none, false, []⟩,
      ⟨(some 16), .mov (.t 15), none, true, []⟩,
      ⟨(some 17), .mov (.t 8), (some (16, false)), false, []⟩,
      ⟨(some 18), .mov (.t 1), (some (16, false)), false, []⟩,
      ⟨(some 19), .len false (.t 18), (some (16, false)), false, []⟩,
      ⟨(some 20), .bin .none .lss (.t 17) (.t 19), (some (16, false)), false, []⟩,
      ⟨(some 21), .pick (.t 16) (.c (.bool true)) (.t 20), none, false, []⟩] none [0, 1, 5, 6, 7, 8, 21])
    (.cond (.t 21)
      .skip
      (.exit 0)))
    (.block 1 (.block 2 (.seq (.ops [⟨(some 27), .mov (.t 7), none, false, []⟩,
      ⟨(some 28), .mov (.t 0), none, false, []⟩,
      ⟨(some 29), .len false (.t 28), none, false, []⟩,
      ⟨(some 30), .bin .none .lss (.t 27) (.t 29), none, false, []⟩,
      ⟨(some 31), .mov (.t 30), none, true, []⟩,
      ⟨(some 32), .mov (.t 8), (some (31, true)), false, []⟩,
      ⟨(some 33), .mov (.t 1), (some (31, true)), false, []⟩,
      ⟨(some 34), .len false (.t 33), (some (31, true)), false, []⟩,
      ⟨(some 35), .bin .none .lss (.t 32) (.t 34), (some (31, true)), false, []⟩,
      ⟨(some 36), .pick (.t 31) (.t 35) (.c (.bool false)), none, false, []⟩,
      ⟨(some 37), .mov (.t 36), none, true, []⟩,
      ⟨(some 38), .mov (.t 0), (some (37, true)), false, []⟩,
      ⟨(some 39), .mov (.t 7), (some (37, true)), false, []⟩,
      ⟨(some 40), .iaddr 1 none (.t 38) (.t 39), (some (37, true)), false, []⟩,
      ⟨(some 41), .load 1 false (.t 40), (some (37, true)), false, []⟩,
      ⟨(some 42), .mov (.t 1), (some (37, true)), false, []⟩,
      ⟨(some 43), .mov (.t 8), (some (37, true)), false, []⟩,
      ⟨(some 44), .iaddr 1 none (.t 42) (.t 43), (some (37, true)), false, []⟩,
      ⟨(some 45), .load 1 false (.t 44), (some (37, true)), false, []⟩,
      ⟨(some 46), .bin .none .eql (.t 41) (.t 45), (some (37, true)), false, []⟩,
      ⟨(some 47), .pick (.t 37) (.t 46) (.c (.bool false)), none, false, []⟩,
      ⟨(some 26), .mov (.t 47), none, false, []⟩] (some (0, 0, [0, 1, 2, 3, 4, 5, 6, 7, 8, 9, 10, 11, 12, 13, 14, 15, 16, 17, 18, 19, 20, 21])) [0, 1, 5, 6, 7, 8, 26])
    (.cond (.t 26)
      (.seq (.ops [⟨(some 48), .mov (.t 6), none, false, []⟩,
        ⟨(some 49), .call f_diff_add [(.t 48), (.c (.int .i64 1))], none, false, []⟩,
        ⟨(some 6), .mov (.t 49), none, false, []⟩] none [0, 1, 5, 6, 7, 8])
      (.seq (.ops [⟨(some 50), .mov (.t 7), none, false, []⟩,
        ⟨(some 51), .bin .none .add (.t 50) (.c (.int .i64 1)), none, false, []⟩,
        ⟨(some 7), .mov (.t 51), none, false, []⟩] none [0, 1, 5, 6, 7, 8])
      (.ops [⟨(some 52), .mov (.t 8), none, false, []⟩,
        ⟨(some 53), .bin .none .add (.t 52) (.c (.int .i64 1)), none, false, []⟩,
        ⟨(some 8), .mov (.t 53), none, false, []⟩] none [0, 1, 5, 6, 7, 8])))
      (.seq (.ops [⟨(some 55), .mov (.t 7), none, false, []⟩,
        ⟨(some 56), .mov (.t 0), none, false, []⟩,
        ⟨(some 57), .len false (.t 56), none, false, []⟩,
        ⟨(some 58), .bin .none .lss (.t 55) (.t 57), none, false, []⟩,
        ⟨(some 59), .mov (.t 58), none, true, []⟩,
        ⟨(some 60), .mov (.t 5), (some (59, true)), false, []⟩,
        ⟨(some 61), .mov (.t 7), (some (59, true)), false, []⟩,
        ⟨(some 62), .bin .none .add (.t 61) (.c (.int .i64 1)), (some (59, true)), false, []⟩,
        ⟨(some 63), .iaddr 1 none (.t 60) (.t 62), (some (59, true)), false, []⟩,
        ⟨(some 64), .load 1 false (.t 63), (some (59, true)), false, []⟩,
        ⟨(some 65), .mov (.t 8), (some (59, true)), false, []⟩,
        ⟨(some 66), .iaddr 1 none (.t 64) (.t 65), (some (59, true)), false, []⟩,
        ⟨(some 67), .load 1 false (.t 66), (some (59, true)), false, []⟩,
        ⟨(some 68), .bin .none .add (.t 67) (.c (.int .i64 1)), (some (59, true)), false, []⟩,
        ⟨(some 69), .mov (.t 5), (some (59, true)), false, []⟩,
        ⟨(some 70), .mov (.t 7), (some (59, true)), false, []⟩,
        ⟨(some 71), .iaddr 1 none (.t 69) (.t 70), (some (59, true)), false, []⟩,
        ⟨(some 72), .load 1 false (.t 71), (some (59, true)), false, []⟩,
        ⟨(some 73), .mov (.t 8), (some (59, true)), false, []⟩,
        ⟨(some 74), .iaddr 1 none (.t 72) (.t 73), (some (59, true)), false, []⟩,
        ⟨(some 75), .load 1 false (.t 74), (some (59, true)), false, []⟩,
        ⟨(some 76), .bin .none .eql (.t 68) (.t 75), (some (59, true)), false, []⟩,
        ⟨(some 77), .pick (.t 59) (.t 76) (.c (.bool false)), none, false, []⟩,
        ⟨(some 54), .mov (.t 77), none, false, []⟩] (some (0, 0, [0, 1, 2, 3, 4, 5, 6, 7, 8, 9, 10, 11, 12, 13, 14, 15, 16, 17, 18, 19, 20, 21, 22, 23])) [0, 1, 5, 6, 7, 8, 54])
      (.cond (.t 54)
        (.seq (.ops [⟨(some 78), .mov (.t 6), none, false, []⟩,
          ⟨(some 79), .call f_diff_add [(.t 78), (.c (.int .i64 2))], none, false, []⟩,
          ⟨(some 6), .mov (.t 79), none, false, []⟩] none [0, 1, 5, 6, 7, 8])
        (.ops [⟨(some 80), .mov (.t 7), none, false, []⟩,
          ⟨(some 81), .bin .none .add (.t 80) (.c (.int .i64 1)), none, false, []⟩,
          ⟨(some 7), .mov (.t 81), none, false, []⟩] none [0, 1, 5, 6, 7, 8]))
        (.seq (.ops [⟨(some 22), .mov (.t 6), none, false, []⟩,
          ⟨(some 23), .call f_diff_add [(.t 22), (.c (.int .i64 3))], none, false, []⟩,
          ⟨(some 6), .mov (.t 23), none, false, []⟩] none [0, 1, 5, 6, 7, 8])
        (.ops [⟨(some 24), .mov (.t 8), none, false, []⟩,
          ⟨(some 25), .bin .none .add (.t 24) (.c (.int .i64 1)), none, false, []⟩,
          ⟨(some 8), .mov (.t 25), none, false, []⟩] none [0, 1, 5, 6, 7, 8]))))))))))))
  (.seq (.ops [⟨(some 82), .mov (.t 6), none, false, []⟩,
    ⟨(some 4), .mov (.t 82), none, false, []⟩] none [4])
  .ret)))))
def diff_Way_r : List RRes := [.tmp 4]
def diff_Way_hi : Hi := ⟨[(6, (.st (.cons (.int .i64) (.cons (.int .i64) .nil))))], [(0, "a"), (1, "b"), (2, "a"), (3, "b"), (5, "c"), (6, "out"), (7, "i"), (8, "k")]⟩
def diff_Way_an : An := (.seq .d (.seq .d (.seq .d (.seq (.seq .d (.loop [6] [] [6] .d)) .d))))
def diff_Way_fi : Fi := ⟨83, diff_Way_c, diff_Way_r, diff_Way_an, diff_Way_hi, none⟩
theorem diff_Way_ok : FiOk Try.prog f_diff_Way diff_Way_fi :=
  ⟨fun _ => by kernel_rfl, fun _ h hlen => fun_sound (by kernel_rfl) (fn := Try.f28) (draw_sound _ _) Try.func28 rfl (by kernel_rfl : comp Try.prog 83 _ diff_Way_c = some diff_Way_c) (by kernel_rfl : cRes Try.prog Try.f28.results.toList = some diff_Way_r) hlen h, fun _ h => nomatch h⟩

/-- fustian/merge.Merge: slots [0 base, 1 a, 2 b, 3 base, 4 a, 5 b, 6 lines, 7 clashes, 8 e, 9 long, 10 _, 11 l, 12 p, 13 q, 14 at, 15 lo, 16 hi, 17 x, 18 y, 19 u, 20 v] -/
def merge_Merge_c : SCode :=
  (.seq (.ops [⟨(some 6), .newnil 1, none, false, []⟩,
    ⟨(some 7), .mov (.c (.int .i64 0)), none, false, []⟩,
    ⟨(some 8), .mov (.c (.int .i64 0)), none, false, []⟩] none [0, 1, 2, 6, 7])
  (.seq (.ops [⟨(some 9), .mov (.c (.fn (.func f_merge_Merge_1) [] [])), none, false, []⟩] none [0, 1, 2, 6, 7, 9])
  (.seq (.seq (.ops [⟨(some 21), .mov (.t 0), none, false, []⟩,
    ⟨(some 22), .mov (.t 1), none, false, []⟩,
    ⟨(some 23), .mov (.t 2), none, false, []⟩,
    ⟨(some 24), .build [.nils, .nils, .nils] [(0, 1, (.t 21)), (1, 1, (.t 22)), (2, 1, (.t 23))], none, false, []⟩,
    ⟨(some 25), .mov (.c (.int .i64 0)), none, false, []⟩] none [0, 1, 2, 6, 7, 9, 24, 25])
  (.block 0 (.loop [0, 1, 2, 9, 24] [6, 7, 25] 1
    (.seq (.ops [⟨(some 26), .bin .none .lss (.t 25) (.c (.int .i64 3)), none, false, []⟩] none [0, 1, 2, 6, 7, 9, 24, 25, 26])
    (.seq (.cond (.t 26)
      .skip
      (.exit 0))
    (.seq (.block 1 (.seq (.ops [⟨(some 27), .index 1 (some 3) false (.t 24) (.t 25), none, false, []⟩,
      ⟨(some 11), .mov (.t 27), none, false, []⟩] none [0, 1, 2, 6, 7, 9, 11, 24, 25])
    (.seq (.ops [⟨(some 28), .mov (.t 11), none, false, []⟩,
      ⟨(some 29), .len false (.t 28), none, false, []⟩,
      ⟨(some 30), .bin .none .gtr (.t 29) (.c (.int .i64 80)), none, false, []⟩,
      ⟨(some 31), .mov (.t 30), none, true, []⟩,
      ⟨(some 32), .mov (.t 11), (some (31, false)), false, []⟩,
      ⟨(some 33), .mov (.t 9), (some (31, false)), false, []⟩,
      ⟨(some 34), .call f_slices_ContainsFunc___string_string_ [(.t 32), (.t 33)], (some (31, false)), false, []⟩,
      ⟨(some 35), .pick (.t 31) (.c (.bool true)) (.t 34), none, false, []⟩] none [0, 1, 2, 6, 7, 9, 24, 25, 35])
    (.cond (.t 35)
      (.seq (.ops [⟨(some 6), .newnil 1, none, false, []⟩,
        ⟨(some 7), .mov (.c (.int .i64 0)), none, false, []⟩,
        ⟨(some 8), .mov (.c (.int .i64 1)), none, false, []⟩] none [6, 7, 8])
      .ret)
      .skip))))
    (.ops [⟨(some 36), .bin .none .add (.t 25) (.c (.int .i64 1)), none, false, []⟩,
      ⟨(some 25), .mov (.t 36), none, false, []⟩] none [0, 1, 2, 6, 7, 9, 24, 25])))))))
  (.seq (.ops [⟨(some 37), .mov (.t 0), none, false, []⟩,
    ⟨(some 38), .mov (.t 1), none, false, []⟩,
    ⟨(some 39), .call f_merge_hunks [(.t 37), (.t 38)], none, false, []⟩,
    ⟨(some 40), .build [.nils] [(0, 1, (.t 39))], none, false, []⟩,
    ⟨(some 41), .box 0 (.t 40), none, false, []⟩,
    ⟨(some 42), .mov (.t 0), none, false, []⟩,
    ⟨(some 43), .mov (.t 2), none, false, []⟩,
    ⟨(some 44), .call f_merge_hunks [(.t 42), (.t 43)], none, false, []⟩,
    ⟨(some 45), .build [.nils] [(0, 1, (.t 44))], none, false, []⟩,
    ⟨(some 46), .box 0 (.t 45), none, false, []⟩,
    ⟨(some 12), .mov (.t 41), none, false, []⟩,
    ⟨(some 13), .mov (.t 46), none, false, []⟩] none [0, 6, 7, 12, 13])
  (.seq (.ops [⟨(some 14), .mov (.c (.int .i64 0)), none, false, []⟩] none [0, 6, 7, 12, 13, 14])
  (.seq (.block 2 (.loop [0, 12, 13] [6, 7, 14] 4
    (.seq (.seq (.ops [⟨(some 47), .mov (.t 12), none, false, []⟩,
      ⟨(some 48), .nilchk (.t 47), none, false, []⟩,
      ⟨(some 49), .faddr 0 (.t 48), none, false, []⟩,
      ⟨(some 50), .load 1 false (.t 49), none, false, []⟩,
      ⟨(some 51), .len false (.t 50), none, false, []⟩,
      ⟨(some 52), .mov (.t 13), none, false, []⟩,
      ⟨(some 53), .nilchk (.t 52), none, false, []⟩,
      ⟨(some 54), .faddr 0 (.t 53), none, false, []⟩,
      ⟨(some 55), .load 1 false (.t 54), none, false, []⟩,
      ⟨(some 56), .len false (.t 55), none, false, []⟩,
      ⟨(some 57), .bin .none .add (.t 51) (.t 56), none, false, []⟩,
      ⟨(some 58), .bin .none .gtr (.t 57) (.c (.int .i64 0)), none, false, []⟩] (some (0, 0, [0, 1, 2, 3, 4, 5, 6, 7, 8, 9, 10, 11])) [0, 6, 7, 12, 13, 14, 58])
    (.cond (.t 58)
      .skip
      (.exit 2)))
    (.block 3 (.seq (.ops [⟨(some 60), .mov (.t 12), none, false, []⟩,
      ⟨(some 61), .mov (.t 13), none, false, []⟩,
      ⟨(some 62), .call f_merge_part [(.t 60), (.t 61)], none, false, []⟩,
      ⟨(some 59), .mov (.t 62), none, false, []⟩,
      ⟨(some 63), .extract (.t 59) 0, none, false, []⟩,
      ⟨(some 64), .extract (.t 59) 1, none, false, []⟩,
      ⟨(some 65), .extract (.t 59) 2, none, false, []⟩,
      ⟨(some 66), .extract (.t 59) 3, none, false, []⟩,
      ⟨(some 15), .mov (.t 63), none, false, []⟩,
      ⟨(some 16), .mov (.t 64), none, false, []⟩,
      ⟨(some 17), .mov (.t 65), none, false, []⟩,
      ⟨(some 18), .mov (.t 66), none, false, []⟩] none [0, 6, 7, 12, 13, 14, 15, 16, 17, 18])
    (.seq (.ops [⟨(some 67), .mov (.t 6), none, false, []⟩,
      ⟨(some 68), .mov (.t 0), none, false, []⟩,
      ⟨(some 69), .mov (.t 14), none, false, []⟩,
      ⟨(some 70), .mov (.t 15), none, false, []⟩,
      ⟨(some 71), .slice 1 (.t 68) (some (.t 69)) (some (.t 70)), none, false, []⟩,
      ⟨(some 72), .append 1 16 (.t 67) (.t 71), none, false, []⟩,
      ⟨(some 6), .mov (.t 72), none, false, []⟩] none [0, 6, 7, 12, 13, 15, 16, 17, 18])
    (.seq (.ops [⟨(some 73), .mov (.t 16), none, false, []⟩,
      ⟨(some 14), .mov (.t 73), none, false, []⟩] none [0, 6, 7, 12, 13, 14, 15, 16, 17, 18])
    (.seq (.ops [⟨(some 74), .mov (.t 0), none, false, []⟩,
      ⟨(some 75), .mov (.t 15), none, false, []⟩,
      ⟨(some 76), .mov (.t 16), none, false, []⟩,
      ⟨(some 77), .mov (.t 17), none, false, []⟩,
      ⟨(some 78), .call f_merge_made [(.t 74), (.t 75), (.t 76), (.t 77)], none, false, []⟩,
      ⟨(some 79), .mov (.t 0), none, false, []⟩,
      ⟨(some 80), .mov (.t 15), none, false, []⟩,
      ⟨(some 81), .mov (.t 16), none, false, []⟩,
      ⟨(some 82), .mov (.t 18), none, false, []⟩,
      ⟨(some 83), .call f_merge_made [(.t 79), (.t 80), (.t 81), (.t 82)], none, false, []⟩,
      ⟨(some 19), .mov (.t 78), none, false, []⟩,
      ⟨(some 20), .mov (.t 83), none, false, []⟩] none [0, 6, 7, 12, 13, 14, 17, 18, 19, 20])
    (.block 4 (.seq (.ops [⟨(some 100), .mov (.t 18), none, false, []⟩,
      ⟨(some 101), .len false (.t 100), none, false, []⟩,
      ⟨(some 102), .bin .none .eql (.t 101) (.c (.int .i64 0)), none, false, []⟩,
      ⟨(some 103), .mov (.t 102), none, true, []⟩,
      ⟨(some 104), .mov (.t 19), (some (103, false)), false, []⟩,
      ⟨(some 105), .mov (.t 20), (some (103, false)), false, []⟩,
      ⟨(some 106), .call f_slices_Equal___string_string_ [(.t 104), (.t 105)], (some (103, false)), false, []⟩,
      ⟨(some 107), .pick (.t 103) (.c (.bool true)) (.t 106), none, false, []⟩,
      ⟨(some 99), .mov (.t 107), none, false, []⟩] none [0, 6, 7, 12, 13, 14, 17, 19, 20, 99])
    (.cond (.t 99)
      (.ops [⟨(some 108), .mov (.t 6), none, false, []⟩,
        ⟨(some 109), .mov (.t 19), none, false, []⟩,
        ⟨(some 110), .append 1 16 (.t 108) (.t 109), none, false, []⟩,
        ⟨(some 6), .mov (.t 110), none, false, []⟩] none [0, 6, 7, 12, 13, 14])
      (.seq (.ops [⟨(some 112), .mov (.t 17), none, false, []⟩,
        ⟨(some 113), .len false (.t 112), none, false, []⟩,
        ⟨(some 114), .bin .none .eql (.t 113) (.c (.int .i64 0)), none, false, []⟩,
        ⟨(some 111), .mov (.t 114), none, false, []⟩] none [0, 6, 7, 12, 13, 14, 19, 20, 111])
      (.cond (.t 111)
        (.ops [⟨(some 115), .mov (.t 6), none, false, []⟩,
          ⟨(some 116), .mov (.t 20), none, false, []⟩,
          ⟨(some 117), .append 1 16 (.t 115) (.t 116), none, false, []⟩,
          ⟨(some 6), .mov (.t 117), none, false, []⟩] none [0, 6, 7, 12, 13, 14])
        (.seq (.ops [⟨(some 84), .mov (.t 7), none, false, []⟩,
          ⟨(some 85), .bin .none .add (.t 84) (.c (.int .i64 1)), none, false, []⟩,
          ⟨(some 7), .mov (.t 85), none, false, []⟩] none [0, 6, 7, 12, 13, 14, 19, 20])
        (.seq (.ops [⟨(some 86), .mov (.t 6), none, false, []⟩,
          ⟨(some 87), .bslice true 1 1 [(.str [])] [(0, 1, (.c (.str [60, 60, 60, 60, 60, 60, 60])))], none, false, []⟩,
          ⟨(some 88), .append 1 16 (.t 86) (.t 87), none, false, []⟩,
          ⟨(some 89), .mov (.t 19), none, false, []⟩,
          ⟨(some 90), .append 1 16 (.t 88) (.t 89), none, false, []⟩,
          ⟨(some 6), .mov (.t 90), none, false, []⟩] none [0, 6, 7, 12, 13, 14, 20])
        (.seq (.ops [⟨(some 91), .mov (.t 6), none, false, []⟩,
          ⟨(some 92), .bslice true 1 1 [(.str [])] [(0, 1, (.c (.str [61, 61, 61, 61, 61, 61, 61])))], none, false, []⟩,
          ⟨(some 93), .append 1 16 (.t 91) (.t 92), none, false, []⟩,
          ⟨(some 94), .mov (.t 20), none, false, []⟩,
          ⟨(some 95), .append 1 16 (.t 93) (.t 94), none, false, []⟩,
          ⟨(some 6), .mov (.t 95), none, false, []⟩] none [0, 6, 7, 12, 13, 14])
        (.ops [⟨(some 96), .mov (.t 6), none, false, []⟩,
          ⟨(some 97), .bslice true 1 1 [(.str [])] [(0, 1, (.c (.str [62, 62, 62, 62, 62, 62, 62])))], none, false, []⟩,
          ⟨(some 98), .append 1 16 (.t 96) (.t 97), none, false, []⟩,
          ⟨(some 6), .mov (.t 98), none, false, []⟩] none [0, 6, 7, 12, 13, 14])))))))))))))))))
  (.seq (.ops [⟨(some 118), .mov (.t 6), none, false, []⟩,
    ⟨(some 119), .mov (.t 0), none, false, []⟩,
    ⟨(some 120), .mov (.t 14), none, false, []⟩,
    ⟨(some 121), .slice 1 (.t 119) (some (.t 120)) none, none, false, []⟩,
    ⟨(some 122), .append 1 16 (.t 118) (.t 121), none, false, []⟩,
    ⟨(some 123), .mov (.t 7), none, false, []⟩,
    ⟨(some 6), .mov (.t 122), none, false, []⟩,
    ⟨(some 7), .mov (.t 123), none, false, []⟩,
    ⟨(some 8), .mov (.c (.int .i64 0)), none, false, []⟩] none [6, 7, 8])
  .ret)))))))
def merge_Merge_r : List RRes := [.tmp 6, .tmp 7, .tmp 8]
def merge_Merge_hi : Hi := ⟨[(6, .str), (72, .str), (110, .str), (117, .str), (87, .str), (88, .str), (90, .str), (92, .str), (93, .str), (95, .str), (97, .str), (98, .str), (122, .str), (41, (.st (.cons (.sl (.st (.cons (.int .i64) (.cons (.int .i64) (.cons (.sl .str) .nil))))) .nil))), (46, (.st (.cons (.sl (.st (.cons (.int .i64) (.cons (.int .i64) (.cons (.sl .str) .nil))))) .nil))), (12, (.st (.cons (.sl (.st (.cons (.int .i64) (.cons (.int .i64) (.cons (.sl .str) .nil))))) .nil))), (13, (.st (.cons (.sl (.st (.cons (.int .i64) (.cons (.int .i64) (.cons (.sl .str) .nil))))) .nil))), (47, (.st (.cons (.sl (.st (.cons (.int .i64) (.cons (.int .i64) (.cons (.sl .str) .nil))))) .nil))), (52, (.st (.cons (.sl (.st (.cons (.int .i64) (.cons (.int .i64) (.cons (.sl .str) .nil))))) .nil))), (60, (.st (.cons (.sl (.st (.cons (.int .i64) (.cons (.int .i64) (.cons (.sl .str) .nil))))) .nil))), (61, (.st (.cons (.sl (.st (.cons (.int .i64) (.cons (.int .i64) (.cons (.sl .str) .nil))))) .nil)))], [(0, "base"), (1, "a"), (2, "b"), (3, "base"), (4, "a"), (5, "b"), (6, "lines"), (7, "clashes"), (8, "e"), (9, "long"), (11, "l"), (12, "p"), (13, "q"), (14, "at"), (15, "lo"), (16, "hi"), (17, "x"), (18, "y"), (19, "u"), (20, "v")]⟩
def merge_Merge_an : An := (.seq .d (.seq .d (.seq (.seq .d (.loop [9] [] [] .d)) (.seq .d (.seq .d (.seq (.loop [12, 13, 6, 0] [] [] .d) .d))))))
def merge_Merge_fi : Fi := ⟨124, merge_Merge_c, merge_Merge_r, merge_Merge_an, merge_Merge_hi, none⟩
theorem merge_Merge_ok : FiOk Try.prog f_merge_Merge merge_Merge_fi :=
  ⟨fun _ => by kernel_rfl, fun _ h hlen => fun_sound (by kernel_rfl) (fn := Try.f5) (draw_sound _ _) Try.func5 rfl (by kernel_rfl : comp Try.prog 124 _ merge_Merge_c = some merge_Merge_c) (by kernel_rfl : cRes Try.prog Try.f5.results.toList = some merge_Merge_r) hlen h, fun _ h => nomatch h⟩

/-- fustian/fustianref.LinesFault: slots [0 ls, 1 ls, 3 _, 4 l, 5 _, 6 s] -/
def ref_LinesFault_c : SCode :=
  (.seq (.ops [⟨(some 2), .mov (.c (.int .i64 0)), none, false, []⟩] none [0])
  (.seq (.seq (.ops [⟨(some 7), .mov (.t 0), none, false, []⟩,
    ⟨(some 8), .len false (.t 7), none, false, []⟩,
    ⟨(some 9), .mov (.c (.int .i64 0)), none, false, []⟩] none [7, 8, 9])
  (.block 0 (.loop [7, 8] [9] 0
    (.seq (.ops [⟨(some 10), .bin .none .lss (.t 9) (.t 8), none, false, []⟩] none [7, 8, 9, 10])
    (.seq (.cond (.t 10)
      .skip
      (.exit 0))
    (.seq (.block 1 (.seq (.ops [⟨(some 11), .iaddr 1 none (.t 7) (.t 9), none, false, []⟩,
      ⟨(some 12), .load 1 false (.t 11), none, false, []⟩,
      ⟨(some 4), .mov (.t 12), none, false, []⟩] none [4, 7, 8, 9])
    (.seq (.seq (.ops [⟨(some 13), .mov (.t 4), none, false, []⟩,
      ⟨(some 14), .len false (.t 13), none, false, []⟩,
      ⟨(some 15), .bin .none .gtr (.t 14) (.c (.int .i64 80)), none, false, []⟩] none [4, 7, 8, 9, 15])
    (.cond (.t 15)
      (.seq (.ops [⟨(some 2), .mov (.c (.int .i64 1)), none, false, []⟩] none [2])
      .ret)
      .skip))
    (.seq (.ops [⟨(some 16), .mov (.t 4), none, false, []⟩,
      ⟨(some 17), .len false (.t 16), none, false, []⟩,
      ⟨(some 18), .mov (.c (.int .i64 0)), none, false, []⟩] none [7, 8, 9, 16, 17, 18])
    (.block 2 (.loop [7, 8, 9, 16, 17] [18] 0
      (.seq (.ops [⟨(some 19), .bin .none .lss (.t 18) (.t 17), none, false, []⟩] none [7, 8, 9, 16, 17, 18, 19])
      (.seq (.cond (.t 19)
        .skip
        (.exit 2))
      (.seq (.block 3 (.seq (.ops [⟨(some 20), .iaddr 1 none (.t 16) (.t 18), none, false, []⟩,
        ⟨(some 21), .load 1 false (.t 20), none, false, []⟩,
        ⟨(some 6), .mov (.t 21), none, false, []⟩] none [6, 7, 8, 9, 16, 17, 18])
      (.seq (.ops [⟨(some 22), .mov (.t 6), none, false, []⟩,
        ⟨(some 23), .len true (.t 22), none, false, []⟩,
        ⟨(some 24), .bin .none .gtr (.t 23) (.c (.int .i64 600)), none, false, []⟩] none [7, 8, 9, 16, 17, 18, 24])
      (.cond (.t 24)
        (.seq (.ops [⟨(some 2), .mov (.c (.int .i64 1)), none, false, []⟩] none [2])
        .ret)
        .skip))))
      (.ops [⟨(some 25), .bin .none .add (.t 18) (.c (.int .i64 1)), none, false, []⟩,
        ⟨(some 18), .mov (.t 25), none, false, []⟩] none [7, 8, 9, 16, 17, 18]))))))))))
    (.ops [⟨(some 26), .bin .none .add (.t 9) (.c (.int .i64 1)), none, false, []⟩,
      ⟨(some 9), .mov (.t 26), none, false, []⟩] none [7, 8, 9])))))))
  (.seq (.ops [⟨(some 2), .mov (.c (.int .i64 0)), none, false, []⟩] none [2])
  .ret)))
def ref_LinesFault_r : List RRes := [.tmp 2]
def ref_LinesFault_hi : Hi := ⟨[], [(0, "ls"), (1, "ls"), (4, "l"), (6, "s")]⟩
def ref_LinesFault_an : An := (.seq .d (.seq (.seq .d (.loop [] [] [] (.seq .d (.seq .d (.seq (.seq .d (.seq .d (.seq .d (.loop [] [] [] .d)))) .d))))) .d))
def ref_LinesFault_fi : Fi := ⟨27, ref_LinesFault_c, ref_LinesFault_r, ref_LinesFault_an, ref_LinesFault_hi, none⟩
theorem ref_LinesFault_ok : FiOk Try.prog f_ref_LinesFault ref_LinesFault_fi :=
  ⟨fun _ => by kernel_rfl, fun _ h hlen => fun_sound (by kernel_rfl) (fn := Try.f21) (draw_sound _ _) Try.func21 rfl (by kernel_rfl : comp Try.prog 27 _ ref_LinesFault_c = some ref_LinesFault_c) (by kernel_rfl : cRes Try.prog Try.f21.results.toList = some ref_LinesFault_r) hlen h, fun _ h => nomatch h⟩

/-- fustian/fustianref.common: slots [0 a, 1 b, 2 a, 3 b, 5 row, 6 _, 7 x, 8 next, 9 k, 10 y] -/
def ref_common_c : SCode :=
  (.seq (.ops [⟨(some 4), .mov (.c (.int .i64 0)), none, false, []⟩] none [0, 1])
  (.seq (.ops [⟨(some 11), .mov (.t 1), none, false, []⟩,
    ⟨(some 12), .len false (.t 11), none, false, []⟩,
    ⟨(some 13), .bin .none .add (.t 12) (.c (.int .i64 1)), none, false, []⟩,
    ⟨(some 14), .mkslice 1 8 [(.int .i64 0)] (.t 13) (.t 13), none, false, []⟩,
    ⟨(some 5), .mov (.t 14), none, false, []⟩] none [0, 1, 5])
  (.seq (.seq (.ops [⟨(some 15), .mov (.t 0), none, false, []⟩,
    ⟨(some 16), .len false (.t 15), none, false, []⟩,
    ⟨(some 17), .mov (.c (.int .i64 0)), none, false, []⟩] none [1, 5, 15, 16, 17])
  (.block 0 (.loop [1, 15, 16] [5, 17] 1
    (.seq (.ops [⟨(some 18), .bin .none .lss (.t 17) (.t 16), none, false, []⟩] none [1, 5, 15, 16, 17, 18])
    (.seq (.cond (.t 18)
      .skip
      (.exit 0))
    (.seq (.block 1 (.seq (.ops [⟨(some 19), .iaddr 1 none (.t 15) (.t 17), none, false, []⟩,
      ⟨(some 20), .load 1 false (.t 19), none, false, []⟩,
      ⟨(some 7), .mov (.t 20), none, false, []⟩] none [1, 5, 7, 15, 16, 17])
    (.seq (.ops [⟨(some 21), .mov (.t 1), none, false, []⟩,
      ⟨(some 22), .len false (.t 21), none, false, []⟩,
      ⟨(some 23), .bin .none .add (.t 22) (.c (.int .i64 1)), none, false, []⟩,
      ⟨(some 24), .mkslice 1 8 [(.int .i64 0)] (.t 23) (.t 23), none, false, []⟩,
      ⟨(some 8), .mov (.t 24), none, false, []⟩] none [1, 5, 7, 8, 15, 16, 17])
    (.seq (.seq (.ops [⟨(some 25), .mov (.t 1), none, false, []⟩,
      ⟨(some 26), .len false (.t 25), none, false, []⟩,
      ⟨(some 27), .mov (.c (.int .i64 0)), none, false, []⟩] none [1, 5, 7, 8, 15, 16, 17, 25, 26, 27])
    (.block 2 (.loop [1, 5, 7, 8, 15, 16, 17, 25, 26] [27] 2
      (.seq (.ops [⟨(some 28), .bin .none .lss (.t 27) (.t 26), none, false, []⟩] none [1, 5, 7, 8, 15, 16, 17, 25, 26, 27, 28])
      (.seq (.cond (.t 28)
        .skip
        (.exit 2))
      (.join [1, 5, 7, 8, 15, 16, 17, 25, 26, 27] [] 2 (.block 3 (.seq (.ops [⟨(some 29), .mov (.t 27), none, false, []⟩,
          ⟨(some 30), .iaddr 1 none (.t 25) (.t 27), none, false, []⟩,
          ⟨(some 31), .load 1 false (.t 30), none, false, []⟩,
          ⟨(some 9), .mov (.t 29), none, false, []⟩,
          ⟨(some 10), .mov (.t 31), none, false, []⟩] none [1, 5, 7, 8, 9, 10, 15, 16, 17, 25, 26, 27])
        (.seq (.ops [⟨(some 32), .mov (.t 8), none, false, []⟩,
          ⟨(some 33), .mov (.t 9), none, false, []⟩,
          ⟨(some 34), .bin .none .add (.t 33) (.c (.int .i64 1)), none, false, []⟩,
          ⟨(some 35), .mov (.t 5), none, false, []⟩,
          ⟨(some 36), .mov (.t 9), none, false, []⟩,
          ⟨(some 37), .bin .none .add (.t 36) (.c (.int .i64 1)), none, false, []⟩,
          ⟨(some 38), .iaddr 1 none (.t 35) (.t 37), none, false, []⟩,
          ⟨(some 39), .load 1 false (.t 38), none, false, []⟩,
          ⟨(some 40), .mov (.t 8), none, false, []⟩,
          ⟨(some 41), .mov (.t 9), none, false, []⟩,
          ⟨(some 42), .iaddr 1 none (.t 40) (.t 41), none, false, []⟩,
          ⟨(some 43), .load 1 false (.t 42), none, false, []⟩,
          ⟨(some 44), .max [(.t 39), (.t 43)], none, false, []⟩,
          ⟨(some 45), .iaddr 1 none (.t 32) (.t 34), none, false, []⟩,
          ⟨none, .store 1 (.t 45) (.t 44), none, false, []⟩] (some (0, 0, [0, 1, 2, 3, 4, 5, 6, 7, 8, 9, 10, 11, 12, 13, 14])) [1, 5, 7, 8, 9, 10, 15, 16, 17, 25, 26, 27])
        (.seq (.ops [⟨(some 46), .mov (.t 7), none, false, []⟩,
          ⟨(some 47), .mov (.t 10), none, false, []⟩,
          ⟨(some 48), .bin .none .eql (.t 46) (.t 47), none, false, []⟩] none [1, 5, 7, 8, 9, 15, 16, 17, 25, 26, 27, 48])
        (.cond (.t 48)
          (.ops [⟨(some 49), .mov (.t 8), none, false, []⟩,
            ⟨(some 50), .mov (.t 9), none, false, []⟩,
            ⟨(some 51), .bin .none .add (.t 50) (.c (.int .i64 1)), none, false, []⟩,
            ⟨(some 52), .mov (.t 8), none, false, []⟩,
            ⟨(some 53), .mov (.t 9), none, false, []⟩,
            ⟨(some 54), .bin .none .add (.t 53) (.c (.int .i64 1)), none, false, []⟩,
            ⟨(some 55), .iaddr 1 none (.t 52) (.t 54), none, false, []⟩,
            ⟨(some 56), .load 1 false (.t 55), none, false, []⟩,
            ⟨(some 57), .mov (.t 5), none, false, []⟩,
            ⟨(some 58), .mov (.t 9), none, false, []⟩,
            ⟨(some 59), .iaddr 1 none (.t 57) (.t 58), none, false, []⟩,
            ⟨(some 60), .load 1 false (.t 59), none, false, []⟩,
            ⟨(some 61), .bin .none .add (.t 60) (.c (.int .i64 1)), none, false, []⟩,
            ⟨(some 62), .max [(.t 56), (.t 61)], none, false, []⟩,
            ⟨(some 63), .iaddr 1 none (.t 49) (.t 51), none, false, []⟩,
            ⟨none, .store 1 (.t 63) (.t 62), none, false, []⟩] (some (0, 0, [0, 1, 2, 3, 4, 5, 6, 7, 8, 9, 10, 11, 12, 13, 14, 15])) [1, 5, 7, 8, 15, 16, 17, 25, 26, 27])
          .skip)))))
      (.ops [⟨(some 64), .bin .none .add (.t 27) (.c (.int .i64 1)), none, false, []⟩,
        ⟨(some 27), .mov (.t 64), none, false, []⟩] none [1, 5, 7, 8, 15, 16, 17, 25, 26, 27])))))))
    (.ops [⟨(some 65), .mov (.t 8), none, false, []⟩,
      ⟨(some 5), .mov (.t 65), none, false, []⟩] none [1, 5, 15, 16, 17])))))
    (.ops [⟨(some 66), .bin .none .add (.t 17) (.c (.int .i64 1)), none, false, []⟩,
      ⟨(some 17), .mov (.t 66), none, false, []⟩] none [1, 5, 15, 16, 17])))))))
  (.seq (.ops [⟨(some 67), .mov (.t 5), none, false, []⟩,
    ⟨(some 68), .mov (.t 1), none, false, []⟩,
    ⟨(some 69), .len false (.t 68), none, false, []⟩,
    ⟨(some 70), .iaddr 1 none (.t 67) (.t 69), none, false, []⟩,
    ⟨(some 71), .load 1 false (.t 70), none, false, []⟩,
    ⟨(some 4), .mov (.t 71), none, false, []⟩] none [4])
  .ret))))
def ref_common_r : List RRes := [.tmp 4]
def ref_common_hi : Hi := ⟨[(14, (.int .i64)), (24, (.int .i64))], [(0, "a"), (1, "b"), (2, "a"), (3, "b"), (5, "row"), (7, "x"), (8, "next"), (9, "k"), (10, "y")]⟩
def ref_common_an : An := (.seq .d (.seq .d (.seq (.seq .d (.loop [5] [] [5] (.seq .d (.seq .d (.seq (.seq .d (.seq .d (.seq (.seq .d (.loop [8] [] [] .d)) .d))) .d))))) .d)))
def ref_common_fi : Fi := ⟨72, ref_common_c, ref_common_r, ref_common_an, ref_common_hi, none⟩
theorem ref_common_ok : FiOk Try.prog f_ref_common ref_common_fi :=
  ⟨fun _ => by kernel_rfl, fun _ h hlen => fun_sound (by kernel_rfl) (fn := Try.f36) (draw_sound _ _) Try.func36 rfl (by kernel_rfl : comp Try.prog 72 _ ref_common_c = some ref_common_c) (by kernel_rfl : cRes Try.prog Try.f36.results.toList = some ref_common_r) hlen h, fun _ h => nomatch h⟩

/-- fustian/fustianref.DiffSteps: slots [0 a, 1 b, 2 a, 3 b, 6 e, 7 kinds, 8 out, 9 i, 10 k] -/
def ref_DiffSteps_c : SCode :=
  (.seq (.ops [⟨(some 4), .mov (.c .nils), none, false, []⟩,
    ⟨(some 5), .mov (.c (.int .i64 0)), none, false, []⟩] none [0, 1])
  (.seq (.seq (.ops [⟨(some 11), .mov (.t 0), none, false, []⟩,
    ⟨(some 12), .mov (.t 1), none, false, []⟩,
    ⟨(some 13), .bslice true 2 1 [.nils, .nils] [(0, 1, (.t 11)), (1, 1, (.t 12))], none, false, []⟩,
    ⟨(some 14), .call f_ref_LinesFault [(.t 13)], none, false, []⟩,
    ⟨(some 6), .mov (.t 14), none, false, []⟩] none [0, 1, 6])
  (.seq (.ops [⟨(some 15), .mov (.t 6), none, false, []⟩,
    ⟨(some 16), .bin .none .neq (.t 15) (.c (.int .i64 0)), none, false, []⟩] none [0, 1, 6, 16])
  (.cond (.t 16)
    (.seq (.ops [⟨(some 17), .mov (.t 6), none, false, []⟩,
      ⟨(some 4), .mov (.c .nils), none, false, []⟩,
      ⟨(some 5), .mov (.t 17), none, false, []⟩] none [4, 5])
    .ret)
    .skip)))
  (.seq (.ops [⟨(some 7), .newnil 1, none, false, []⟩] none [0, 1, 7])
  (.seq (.block 0 (.loop [] [0, 1, 7] 1
    (.seq (.seq (.ops [⟨(some 18), .mov (.t 0), none, false, []⟩,
      ⟨(some 19), .len false (.t 18), none, false, []⟩,
      ⟨(some 20), .bin .none .gtr (.t 19) (.c (.int .i64 0)), none, false, []⟩,
      ⟨(some 21), .mov (.t 20), none, true, []⟩,
      ⟨(some 22), .mov (.t 1), (some (21, false)), false, []⟩,
      ⟨(some 23), .len false (.t 22), (some (21, false)), false, []⟩,
      ⟨(some 24), .bin .none .gtr (.t 23) (.c (.int .i64 0)), (some (21, false)), false, []⟩,
      ⟨(some 25), .pick (.t 21) (.c (.bool true)) (.t 24), none, false, []⟩] none [0, 1, 7, 25])
    (.cond (.t 25)
      .skip
      (.exit 0)))
    (.block 1 (.block 2 (.seq (.ops [⟨(some 32), .mov (.t 0), none, false, []⟩,
      ⟨(some 33), .len false (.t 32), none, false, []⟩,
      ⟨(some 34), .bin .none .gtr (.t 33) (.c (.int .i64 0)), none, false, []⟩,
      ⟨(some 35), .mov (.t 34), none, true, []⟩,
      ⟨(some 36), .mov (.t 1), (some (35, true)), false, []⟩,
      ⟨(some 37), .len false (.t 36), (some (35, true)), false, []⟩,
      ⟨(some 38), .bin .none .gtr (.t 37) (.c (.int .i64 0)), (some (35, true)), false, []⟩,
      ⟨(some 39), .pick (.t 35) (.t 38) (.c (.bool false)), none, false, []⟩,
      ⟨(some 40), .mov (.t 39), none, true, []⟩,
      ⟨(some 41), .mov (.t 0), (some (40, true)), false, []⟩,
      ⟨(some 42), .iaddr 1 none (.t 41) (.c (.int .i64 0)), (some (40, true)), false, []⟩,
      ⟨(some 43), .load 1 false (.t 42), (some (40, true)), false, []⟩,
      ⟨(some 44), .mov (.t 1), (some (40, true)), false, []⟩,
      ⟨(some 45), .iaddr 1 none (.t 44) (.c (.int .i64 0)), (some (40, true)), false, []⟩,
      ⟨(some 46), .load 1 false (.t 45), (some (40, true)), false, []⟩,
      ⟨(some 47), .bin .none .eql (.t 43) (.t 46), (some (40, true)), false, []⟩,
      ⟨(some 48), .pick (.t 40) (.t 47) (.c (.bool false)), none, false, []⟩,
      ⟨(some 31), .mov (.t 48), none, false, []⟩] (some (0, 0, [0, 1, 2, 3, 4, 5, 6, 7, 8, 9, 10, 11, 12, 13, 14, 15, 16, 17])) [0, 1, 7, 31])
    (.cond (.t 31)
      (.seq (.ops [⟨(some 49), .mov (.t 7), none, false, []⟩,
        ⟨(some 50), .bslice true 1 1 [(.int .i64 0)] [(0, 1, (.c (.int .i64 1)))], none, false, []⟩,
        ⟨(some 51), .append 1 8 (.t 49) (.t 50), none, false, []⟩,
        ⟨(some 7), .mov (.t 51), none, false, []⟩] none [0, 1, 7])
      (.ops [⟨(some 52), .mov (.t 0), none, false, []⟩,
        ⟨(some 53), .slice 1 (.t 52) (some (.c (.int .i64 1))) none, none, false, []⟩,
        ⟨(some 54), .mov (.t 1), none, false, []⟩,
        ⟨(some 55), .slice 1 (.t 54) (some (.c (.int .i64 1))) none, none, false, []⟩,
        ⟨(some 0), .mov (.t 53), none, false, []⟩,
        ⟨(some 1), .mov (.t 55), none, false, []⟩] (some (0, 0, [0, 1, 2, 3, 4, 5])) [0, 1, 7]))
      (.seq (.ops [⟨(some 57), .mov (.t 0), none, false, []⟩,
        ⟨(some 58), .len false (.t 57), none, false, []⟩,
        ⟨(some 59), .bin .none .gtr (.t 58) (.c (.int .i64 0)), none, false, []⟩,
        ⟨(some 60), .mov (.t 59), none, true, []⟩,
        ⟨(some 61), .mov (.t 0), (some (60, true)), false, []⟩,
        ⟨(some 62), .slice 1 (.t 61) (some (.c (.int .i64 1))) none, (some (60, true)), false, []⟩,
        ⟨(some 63), .mov (.t 1), (some (60, true)), false, []⟩,
        ⟨(some 64), .call f_ref_common [(.t 62), (.t 63)], (some (60, true)), false, []⟩,
        ⟨(some 65), .mov (.t 0), (some (60, true)), false, []⟩,
        ⟨(some 66), .mov (.t 1), (some (60, true)), false, []⟩,
        ⟨(some 67), .call f_ref_common [(.t 65), (.t 66)], (some (60, true)), false, []⟩,
        ⟨(some 68), .bin .none .eql (.t 64) (.t 67), (some (60, true)), false, []⟩,
        ⟨(some 69), .pick (.t 60) (.t 68) (.c (.bool false)), none, false, []⟩,
        ⟨(some 56), .mov (.t 69), none, false, []⟩] none [0, 1, 7, 56])
      (.cond (.t 56)
        (.seq (.ops [⟨(some 70), .mov (.t 7), none, false, []⟩,
          ⟨(some 71), .bslice true 1 1 [(.int .i64 0)] [(0, 1, (.c (.int .i64 2)))], none, false, []⟩,
          ⟨(some 72), .append 1 8 (.t 70) (.t 71), none, false, []⟩,
          ⟨(some 7), .mov (.t 72), none, false, []⟩] none [0, 1, 7])
        (.ops [⟨(some 73), .mov (.t 0), none, false, []⟩,
          ⟨(some 74), .slice 1 (.t 73) (some (.c (.int .i64 1))) none, none, false, []⟩,
          ⟨(some 0), .mov (.t 74), none, false, []⟩] none [0, 1, 7]))
        (.seq (.ops [⟨(some 26), .mov (.t 7), none, false, []⟩,
          ⟨(some 27), .bslice true 1 1 [(.int .i64 0)] [(0, 1, (.c (.int .i64 3)))], none, false, []⟩,
          ⟨(some 28), .append 1 8 (.t 26) (.t 27), none, false, []⟩,
          ⟨(some 7), .mov (.t 28), none, false, []⟩] none [0, 1, 7])
        (.ops [⟨(some 29), .mov (.t 1), none, false, []⟩,
          ⟨(some 30), .slice 1 (.t 29) (some (.c (.int .i64 1))) none, none, false, []⟩,
          ⟨(some 1), .mov (.t 30), none, false, []⟩] none [0, 1, 7])))))))))))
  (.seq (.ops [⟨(some 8), .newnil 2, none, false, []⟩] none [7, 8])
  (.seq (.seq (.ops [⟨(some 75), .mov (.t 7), none, false, []⟩,
    ⟨(some 76), .len false (.t 75), none, false, []⟩,
    ⟨(some 77), .mov (.c (.int .i64 0)), none, false, []⟩] none [7, 8, 75, 76, 77])
  (.block 3 (.loop [7, 75, 76] [8, 77] 2
    (.seq (.ops [⟨(some 78), .bin .none .lss (.t 77) (.t 76), none, false, []⟩] none [7, 8, 75, 76, 77, 78])
    (.seq (.cond (.t 78)
      .skip
      (.exit 3))
    (.join [7, 75, 76, 77] [8] 2 (.block 4 (.seq (.ops [⟨(some 79), .mov (.t 77), none, false, []⟩,
        ⟨(some 80), .iaddr 1 none (.t 75) (.t 77), none, false, []⟩,
        ⟨(some 81), .load 1 false (.t 80), none, false, []⟩,
        ⟨(some 9), .mov (.t 79), none, false, []⟩,
        ⟨(some 10), .mov (.t 81), none, false, []⟩] none [7, 8, 9, 10, 75, 76, 77])
      (.seq (.ops [⟨(some 82), .mov (.t 9), none, false, []⟩,
        ⟨(some 83), .bin .none .gtr (.t 82) (.c (.int .i64 0)), none, false, []⟩,
        ⟨(some 84), .mov (.t 83), none, true, []⟩,
        ⟨(some 85), .mov (.t 7), (some (84, true)), false, []⟩,
        ⟨(some 86), .mov (.t 9), (some (84, true)), false, []⟩,
        ⟨(some 87), .bin .none .sub (.t 86) (.c (.int .i64 1)), (some (84, true)), false, []⟩,
        ⟨(some 88), .iaddr 1 none (.t 85) (.t 87), (some (84, true)), false, []⟩,
        ⟨(some 89), .load 1 false (.t 88), (some (84, true)), false, []⟩,
        ⟨(some 90), .mov (.t 10), (some (84, true)), false, []⟩,
        ⟨(some 91), .bin .none .eql (.t 89) (.t 90), (some (84, true)), false, []⟩,
        ⟨(some 92), .pick (.t 84) (.t 91) (.c (.bool false)), none, false, []⟩] none [7, 8, 10, 75, 76, 77, 92])
      (.cond (.t 92)
        (.ops [⟨(some 93), .mov (.t 8), none, false, []⟩,
          ⟨(some 94), .mov (.t 8), none, false, []⟩,
          ⟨(some 95), .len false (.t 94), none, false, []⟩,
          ⟨(some 96), .bin .none .sub (.t 95) (.c (.int .i64 1)), none, false, []⟩,
          ⟨(some 97), .iaddr 2 none (.t 93) (.t 96), none, false, []⟩,
          ⟨(some 98), .faddr 1 (.t 97), none, false, []⟩,
          ⟨(some 99), .load 1 false (.t 98), none, false, []⟩,
          ⟨(some 100), .bin .none .add (.t 99) (.c (.int .i64 1)), none, false, []⟩,
          ⟨(some 101), .iaddr 2 none (.t 93) (.t 96), none, false, []⟩,
          ⟨(some 102), .faddr 1 (.t 101), none, false, []⟩,
          ⟨none, .store 1 (.t 102) (.t 100), none, false, []⟩] none [7, 8, 75, 76, 77])
        (.ops [⟨(some 103), .mov (.t 8), none, false, []⟩,
          ⟨(some 104), .mov (.t 10), none, false, []⟩,
          ⟨(some 105), .build [(.int .i64 0), (.int .i64 0)] [(0, 1, (.t 104)), (1, 1, (.c (.int .i64 1)))], none, false, []⟩,
          ⟨(some 106), .bslice true 1 2 [(.int .i64 0), (.int .i64 0)] [(0, 2, (.t 105))], none, false, []⟩,
          ⟨(some 107), .append 2 16 (.t 103) (.t 106), none, false, []⟩,
          ⟨(some 8), .mov (.t 107), none, false, []⟩] none [7, 8, 75, 76, 77])))))
    (.ops [⟨(some 108), .bin .none .add (.t 77) (.c (.int .i64 1)), none, false, []⟩,
      ⟨(some 77), .mov (.t 108), none, false, []⟩] none [7, 8, 75, 76, 77])))))))
  (.seq (.ops [⟨(some 109), .mov (.t 8), none, false, []⟩,
    ⟨(some 4), .mov (.t 109), none, false, []⟩,
    ⟨(some 5), .mov (.c (.int .i64 0)), none, false, []⟩] none [4, 5])
  .ret)))))))
def ref_DiffSteps_r : List RRes := [.tmp 4, .tmp 5]
def ref_DiffSteps_hi : Hi := ⟨[(13, (.sl .str)), (7, (.int .i64)), (50, (.int .i64)), (51, (.int .i64)), (71, (.int .i64)), (72, (.int .i64)), (27, (.int .i64)), (28, (.int .i64)), (8, (.st (.cons (.int .i64) (.cons (.int .i64) .nil)))), (106, (.st (.cons (.int .i64) (.cons (.int .i64) .nil)))), (107, (.st (.cons (.int .i64) (.cons (.int .i64) .nil))))], [(0, "a"), (1, "b"), (2, "a"), (3, "b"), (6, "e"), (7, "kinds"), (8, "out"), (9, "i"), (10, "k")]⟩
def ref_DiffSteps_an : An := (.seq .d (.seq .d (.seq .d (.seq (.loop [7, 0, 1] [] [] .d) (.seq .d (.seq (.seq .d (.loop [8] [] [] .d)) .d))))))
def ref_DiffSteps_fi : Fi := ⟨110, ref_DiffSteps_c, ref_DiffSteps_r, ref_DiffSteps_an, ref_DiffSteps_hi, none⟩
theorem ref_DiffSteps_ok : FiOk Try.prog f_ref_DiffSteps ref_DiffSteps_fi :=
  ⟨fun _ => by kernel_rfl, fun _ h hlen => fun_sound (by kernel_rfl) (fn := Try.f30) (draw_sound _ _) Try.func30 rfl (by kernel_rfl : comp Try.prog 110 _ ref_DiffSteps_c = some ref_DiffSteps_c) (by kernel_rfl : cRes Try.prog Try.f30.results.toList = some ref_DiffSteps_r) hlen h, fun _ h => nomatch h⟩

/-- fustian/fustianref.touched: slots [0 base, 1 other, 2 base, 3 other, 7 gaps, 8 gone, 9 puts, 10 steps, 11 _, 12 at, 13 to, 14 _, 15 s, 16 n] -/
def ref_touched_c : SCode :=
  (.seq (.ops [⟨(some 4), .mov (.c .nils), none, false, []⟩,
    ⟨(some 5), .mov (.c .nils), none, false, []⟩,
    ⟨(some 6), .mov (.c .nils), none, false, []⟩] none [0, 1])
  (.seq (.ops [⟨(some 17), .mov (.t 0), none, false, []⟩,
    ⟨(some 18), .len false (.t 17), none, false, []⟩,
    ⟨(some 19), .bin .none .add (.t 18) (.c (.int .i64 1)), none, false, []⟩,
    ⟨(some 20), .mkslice 1 1 [(.bool false)] (.t 19) (.t 19), none, false, []⟩,
    ⟨(some 7), .mov (.t 20), none, false, []⟩] none [0, 1, 7])
  (.seq (.ops [⟨(some 21), .mov (.t 0), none, false, []⟩,
    ⟨(some 22), .len false (.t 21), none, false, []⟩,
    ⟨(some 23), .mkslice 1 1 [(.bool false)] (.t 22) (.t 22), none, false, []⟩,
    ⟨(some 8), .mov (.t 23), none, false, []⟩] none [0, 1, 7, 8])
  (.seq (.ops [⟨(some 24), .mov (.t 0), none, false, []⟩,
    ⟨(some 25), .len false (.t 24), none, false, []⟩,
    ⟨(some 26), .bin .none .add (.t 25) (.c (.int .i64 1)), none, false, []⟩,
    ⟨(some 27), .mkslice 1 24 [.nils] (.t 26) (.t 26), none, false, []⟩,
    ⟨(some 9), .mov (.t 27), none, false, []⟩] none [0, 1, 7, 8, 9])
  (.seq (.ops [⟨(some 29), .mov (.t 0), none, false, []⟩,
    ⟨(some 30), .mov (.t 1), none, false, []⟩,
    ⟨(some 31), .call f_ref_DiffSteps [(.t 29), (.t 30)], none, false, []⟩,
    ⟨(some 28), .mov (.t 31), none, false, []⟩,
    ⟨(some 32), .extract (.t 28) 0, none, false, []⟩,
    ⟨(some 33), .extract (.t 28) 1, none, false, []⟩,
    ⟨(some 10), .mov (.t 32), none, false, []⟩,
    ⟨(some 11), .mov (.t 33), none, false, []⟩] none [1, 7, 8, 9, 10])
  (.seq (.ops [⟨(some 12), .mov (.c (.int .i64 0)), none, false, []⟩] none [1, 7, 8, 9, 10, 12])
  (.seq (.ops [⟨(some 13), .mov (.c (.int .i64 0)), none, false, []⟩] none [1, 7, 8, 9, 10, 12, 13])
  (.seq (.seq (.ops [⟨(some 34), .mov (.t 10), none, false, []⟩,
    ⟨(some 35), .len false (.t 34), none, false, []⟩,
    ⟨(some 36), .mov (.c (.int .i64 0)), none, false, []⟩] none [1, 7, 8, 9, 12, 13, 34, 35, 36])
  (.block 0 (.loop [1, 7, 8, 9, 34, 35] [12, 13, 36] 3
    (.seq (.ops [⟨(some 37), .bin .none .lss (.t 36) (.t 35), none, false, []⟩] none [1, 7, 8, 9, 12, 13, 34, 35, 36, 37])
    (.seq (.cond (.t 37)
      .skip
      (.exit 0))
    (.seq (.block 1 (.seq (.ops [⟨(some 38), .iaddr 2 none (.t 34) (.t 36), none, false, []⟩,
      ⟨(some 39), .load 2 true (.t 38), none, false, []⟩,
      ⟨(some 15), .alloc 0 [(.int .i64 0), (.int .i64 0)], none, false, []⟩,
      ⟨none, .store 2 (.t 15) (.t 39), none, false, []⟩] none [1, 7, 8, 9, 12, 13, 15, 34, 35, 36])
    (.seq (.ops [⟨(some 16), .mov (.c (.int .i64 0)), none, false, []⟩] none [1, 7, 8, 9, 12, 13, 15, 16, 34, 35, 36])
    (.block 2 (.loop [1, 7, 8, 9, 15, 34, 35, 36] [12, 13, 16] 4
      (.seq (.seq (.ops [⟨(some 40), .mov (.t 16), none, false, []⟩,
        ⟨(some 41), .faddr 1 (.t 15), none, false, []⟩,
        ⟨(some 42), .load 1 false (.t 41), none, false, []⟩,
        ⟨(some 43), .bin .none .lss (.t 40) (.t 42), none, false, []⟩] none [1, 7, 8, 9, 12, 13, 15, 16, 34, 35, 36, 43])
      (.cond (.t 43)
        .skip
        (.exit 2)))
      (.join [1, 7, 8, 9, 15, 16, 34, 35, 36] [12, 13] 4 (.block 3 (.seq (.ops [⟨(some 46), .faddr 0 (.t 15), none, false, []⟩,
          ⟨(some 47), .load 1 false (.t 46), none, false, []⟩] none [1, 7, 8, 9, 12, 13, 15, 16, 34, 35, 36, 47])
        (.block 4 (.seq (.ops [⟨(some 49), .bin .none .eql (.t 47) (.c (.int .i64 1)), none, false, []⟩,
          ⟨(some 48), .mov (.t 49), none, false, []⟩] none [1, 7, 8, 9, 12, 13, 15, 16, 34, 35, 36, 47, 48])
        (.cond (.t 48)
          (.seq (.ops [⟨(some 50), .mov (.t 12), none, false, []⟩,
            ⟨(some 51), .bin .none .add (.t 50) (.c (.int .i64 1)), none, false, []⟩,
            ⟨(some 12), .mov (.t 51), none, false, []⟩] none [1, 7, 8, 9, 12, 13, 15, 16, 34, 35, 36])
          (.ops [⟨(some 52), .mov (.t 13), none, false, []⟩,
            ⟨(some 53), .bin .none .add (.t 52) (.c (.int .i64 1)), none, false, []⟩,
            ⟨(some 13), .mov (.t 53), none, false, []⟩] none [1, 7, 8, 9, 12, 13, 15, 16, 34, 35, 36]))
          (.seq (.ops [⟨(some 55), .bin .none .eql (.t 47) (.c (.int .i64 2)), none, false, []⟩,
            ⟨(some 54), .mov (.t 55), none, false, []⟩] none [1, 7, 8, 9, 12, 13, 15, 16, 34, 35, 36, 47, 54])
          (.cond (.t 54)
            (.seq (.ops [⟨(some 56), .mov (.t 8), none, false, []⟩,
              ⟨(some 57), .mov (.t 12), none, false, []⟩,
              ⟨(some 58), .iaddr 1 none (.t 56) (.t 57), none, false, []⟩,
              ⟨none, .store 1 (.t 58) (.c (.bool true)), none, false, []⟩] none [1, 7, 8, 9, 12, 13, 15, 16, 34, 35, 36])
            (.seq (.ops [⟨(some 59), .mov (.t 7), none, false, []⟩,
              ⟨(some 60), .mov (.t 12), none, false, []⟩,
              ⟨(some 61), .iaddr 1 none (.t 59) (.t 60), none, false, []⟩,
              ⟨none, .store 1 (.t 61) (.c (.bool true)), none, false, []⟩] none [1, 7, 8, 9, 12, 13, 15, 16, 34, 35, 36])
            (.seq (.ops [⟨(some 62), .mov (.t 7), none, false, []⟩,
              ⟨(some 63), .mov (.t 12), none, false, []⟩,
              ⟨(some 64), .bin .none .add (.t 63) (.c (.int .i64 1)), none, false, []⟩,
              ⟨(some 65), .iaddr 1 none (.t 62) (.t 64), none, false, []⟩,
              ⟨none, .store 1 (.t 65) (.c (.bool true)), none, false, []⟩] none [1, 7, 8, 9, 12, 13, 15, 16, 34, 35, 36])
            (.ops [⟨(some 66), .mov (.t 12), none, false, []⟩,
              ⟨(some 67), .bin .none .add (.t 66) (.c (.int .i64 1)), none, false, []⟩,
              ⟨(some 12), .mov (.t 67), none, false, []⟩] none [1, 7, 8, 9, 12, 13, 15, 16, 34, 35, 36]))))
            (.seq (.ops [⟨(some 69), .bin .none .eql (.t 47) (.c (.int .i64 3)), none, false, []⟩,
              ⟨(some 68), .mov (.t 69), none, false, []⟩] none [1, 7, 8, 9, 12, 13, 15, 16, 34, 35, 36, 68])
            (.cond (.t 68)
              (.seq (.ops [⟨(some 70), .mov (.t 7), none, false, []⟩,
                ⟨(some 71), .mov (.t 12), none, false, []⟩,
                ⟨(some 72), .iaddr 1 none (.t 70) (.t 71), none, false, []⟩,
                ⟨none, .store 1 (.t 72) (.c (.bool true)), none, false, []⟩] none [1, 7, 8, 9, 12, 13, 15, 16, 34, 35, 36])
              (.seq (.ops [⟨(some 73), .mov (.t 9), none, false, []⟩,
                ⟨(some 74), .mov (.t 12), none, false, []⟩,
                ⟨(some 75), .mov (.t 9), none, false, []⟩,
                ⟨(some 76), .mov (.t 12), none, false, []⟩,
                ⟨(some 77), .iaddr 1 none (.t 75) (.t 76), none, false, []⟩,
                ⟨(some 78), .load 1 false (.t 77), none, false, []⟩,
                ⟨(some 79), .mov (.t 1), none, false, []⟩,
                ⟨(some 80), .mov (.t 13), none, false, []⟩,
                ⟨(some 81), .iaddr 1 none (.t 79) (.t 80), none, false, []⟩,
                ⟨(some 82), .load 1 false (.t 81), none, false, []⟩,
                ⟨(some 83), .bslice true 1 1 [(.str [])] [(0, 1, (.t 82))], none, false, []⟩,
                ⟨(some 84), .append 1 16 (.t 78) (.t 83), none, false, []⟩,
                ⟨(some 85), .iaddr 1 none (.t 73) (.t 74), none, false, []⟩,
                ⟨none, .store 1 (.t 85) (.t 84), none, false, []⟩] (some (0, 0, [0, 1, 2, 3, 4, 5, 6, 7, 8, 9, 10, 11, 12, 13])) [1, 7, 8, 9, 12, 13, 15, 16, 34, 35, 36])
              (.ops [⟨(some 86), .mov (.t 13), none, false, []⟩,
                ⟨(some 87), .bin .none .add (.t 86) (.c (.int .i64 1)), none, false, []⟩,
                ⟨(some 13), .mov (.t 87), none, false, []⟩] none [1, 7, 8, 9, 12, 13, 15, 16, 34, 35, 36])))
              .skip)))))))))
      (.ops [⟨(some 44), .mov (.t 16), none, false, []⟩,
        ⟨(some 45), .bin .none .add (.t 44) (.c (.int .i64 1)), none, false, []⟩,
        ⟨(some 16), .mov (.t 45), none, false, []⟩] none [1, 7, 8, 9, 12, 13, 15, 16, 34, 35, 36]))))))))
    (.ops [⟨(some 88), .bin .none .add (.t 36) (.c (.int .i64 1)), none, false, []⟩,
      ⟨(some 36), .mov (.t 88), none, false, []⟩] none [1, 7, 8, 9, 12, 13, 34, 35, 36])))))))
  (.seq (.ops [⟨(some 89), .mov (.t 7), none, false, []⟩,
    ⟨(some 90), .mov (.t 8), none, false, []⟩,
    ⟨(some 91), .mov (.t 9), none, false, []⟩,
    ⟨(some 4), .mov (.t 89), none, false, []⟩,
    ⟨(some 5), .mov (.t 90), none, false, []⟩,
    ⟨(some 6), .mov (.t 91), none, false, []⟩] none [4, 5, 6])
  .ret)))))))))
def ref_touched_r : List RRes := [.tmp 4, .tmp 5, .tmp 6]
def ref_touched_hi : Hi := ⟨[(20, .bool), (23, .bool), (27, (.sl .str)), (83, .str), (84, .str), (15, (.st (.cons (.int .i64) (.cons (.int .i64) .nil))))], [(0, "base"), (1, "other"), (2, "base"), (3, "other"), (7, "gaps"), (8, "gone"), (9, "puts"), (10, "steps"), (12, "at"), (13, "to"), (15, "s"), (16, "n")]⟩
def ref_touched_an : An := (.seq .d (.seq .d (.seq .d (.seq .d (.seq .d (.seq .d (.seq .d (.seq (.seq .d (.loop [8, 7, 9] [] [] (.seq .d (.seq .d (.seq (.seq .d (.seq .d (.loop [8, 7, 9] [] [] .d))) .d))))) .d))))))))
def ref_touched_fi : Fi := ⟨92, ref_touched_c, ref_touched_r, ref_touched_an, ref_touched_hi, none⟩
theorem ref_touched_ok : FiOk Try.prog f_ref_touched ref_touched_fi :=
  ⟨fun _ => by kernel_rfl, fun _ h hlen => fun_sound (by kernel_rfl) (fn := Try.f22) (draw_sound _ _) Try.func22 rfl (by kernel_rfl : comp Try.prog 92 _ ref_touched_c = some ref_touched_c) (by kernel_rfl : cRes Try.prog Try.f22.results.toList = some ref_touched_r) hlen h, fun _ h => nomatch h⟩

/-- fustian/fustianref.Merged: slots [0 base, 1 a, 2 b, 3 base, 4 a, 5 b, 9 e, 10 gapsA, 11 goneA, 12 putsA, 13 gapsB, 14 goneB, 15 putsB, 16 make1, 17 out, 18 clashes, 19 i, 20 hi, 21 usesA, 22 usesB, 23 k, 24 x, 25 y, 26 same, 27 k] -/
def ref_Merged_c : SCode :=
  (.seq (.ops [⟨(some 3), .box 0 (.t 0), none, false, []⟩,
    ⟨(some 6), .mov (.c .nils), none, false, []⟩,
    ⟨(some 7), .mov (.c (.int .i64 0)), none, false, []⟩,
    ⟨(some 8), .mov (.c (.int .i64 0)), none, false, []⟩] none [1, 2, 3])
  (.seq (.seq (.ops [⟨(some 28), .load 1 false (.t 3), none, false, []⟩,
    ⟨(some 29), .mov (.t 1), none, false, []⟩,
    ⟨(some 30), .mov (.t 2), none, false, []⟩,
    ⟨(some 31), .bslice true 3 1 [.nils, .nils, .nils] [(0, 1, (.t 28)), (1, 1, (.t 29)), (2, 1, (.t 30))], none, false, []⟩,
    ⟨(some 32), .call f_ref_LinesFault [(.t 31)], none, false, []⟩,
    ⟨(some 9), .mov (.t 32), none, false, []⟩] none [1, 2, 3, 9])
  (.seq (.ops [⟨(some 33), .mov (.t 9), none, false, []⟩,
    ⟨(some 34), .bin .none .neq (.t 33) (.c (.int .i64 0)), none, false, []⟩] none [1, 2, 3, 9, 34])
  (.cond (.t 34)
    (.seq (.ops [⟨(some 35), .mov (.t 9), none, false, []⟩,
      ⟨(some 6), .mov (.c .nils), none, false, []⟩,
      ⟨(some 7), .mov (.c (.int .i64 0)), none, false, []⟩,
      ⟨(some 8), .mov (.t 35), none, false, []⟩] none [6, 7, 8])
    .ret)
    .skip)))
  (.seq (.ops [⟨(some 37), .load 1 false (.t 3), none, false, []⟩,
    ⟨(some 38), .mov (.t 1), none, false, []⟩,
    ⟨(some 39), .call f_ref_touched [(.t 37), (.t 38)], none, false, []⟩,
    ⟨(some 36), .mov (.t 39), none, false, []⟩,
    ⟨(some 40), .extract (.t 36) 0, none, false, []⟩,
    ⟨(some 41), .extract (.t 36) 1, none, false, []⟩,
    ⟨(some 42), .extract (.t 36) 2, none, false, []⟩,
    ⟨(some 10), .mov (.t 40), none, false, []⟩,
    ⟨(some 11), .mov (.t 41), none, false, []⟩,
    ⟨(some 12), .mov (.t 42), none, false, []⟩] none [2, 3, 10, 11, 12])
  (.seq (.ops [⟨(some 44), .load 1 false (.t 3), none, false, []⟩,
    ⟨(some 45), .mov (.t 2), none, false, []⟩,
    ⟨(some 46), .call f_ref_touched [(.t 44), (.t 45)], none, false, []⟩,
    ⟨(some 43), .mov (.t 46), none, false, []⟩,
    ⟨(some 47), .extract (.t 43) 0, none, false, []⟩,
    ⟨(some 48), .extract (.t 43) 1, none, false, []⟩,
    ⟨(some 49), .extract (.t 43) 2, none, false, []⟩,
    ⟨(some 13), .mov (.t 47), none, false, []⟩,
    ⟨(some 14), .mov (.t 48), none, false, []⟩,
    ⟨(some 15), .mov (.t 49), none, false, []⟩] none [3, 10, 11, 12, 13, 14, 15])
  (.seq (.ops [⟨(some 50), .mkfunc (.func f_ref_Merged_1) [] [(.t 3)], none, false, []⟩,
    ⟨(some 16), .mov (.t 50), none, false, []⟩] none [3, 10, 11, 12, 13, 14, 15, 16])
  (.seq (.ops [⟨(some 17), .newnil 1, none, false, []⟩] none [3, 10, 11, 12, 13, 14, 15, 16, 17])
  (.seq (.ops [⟨(some 18), .mov (.c (.int .i64 0)), none, false, []⟩] none [3, 10, 11, 12, 13, 14, 15, 16, 17, 18])
  (.seq (.seq (.ops [⟨(some 19), .mov (.c (.int .i64 0)), none, false, []⟩] none [3, 10, 11, 12, 13, 14, 15, 16, 17, 18, 19])
  (.block 0 (.loop [3, 10, 11, 12, 13, 14, 15, 16] [17, 18, 19] 2
    (.seq (.seq (.ops [⟨(some 51), .mov (.t 19), none, false, []⟩,
      ⟨(some 52), .load 1 false (.t 3), none, false, []⟩,
      ⟨(some 53), .len false (.t 52), none, false, []⟩,
      ⟨(some 54), .bin .none .leq (.t 51) (.t 53), none, false, []⟩] none [3, 10, 11, 12, 13, 14, 15, 16, 17, 18, 19, 54])
    (.cond (.t 54)
      .skip
      (.exit 0)))
    (.join [3, 10, 11, 12, 13, 14, 15, 16] [17, 18, 19] 2 (.block 1 (.seq (.seq (.ops [⟨(some 57), .mov (.t 10), none, false, []⟩,
        ⟨(some 58), .mov (.t 19), none, false, []⟩,
        ⟨(some 59), .iaddr 1 none (.t 57) (.t 58), none, false, []⟩,
        ⟨(some 60), .load 1 false (.t 59), none, false, []⟩,
        ⟨(some 61), .not (.t 60), none, false, []⟩,
        ⟨(some 62), .mov (.t 61), none, true, []⟩,
        ⟨(some 63), .mov (.t 13), (some (62, true)), false, []⟩,
        ⟨(some 64), .mov (.t 19), (some (62, true)), false, []⟩,
        ⟨(some 65), .iaddr 1 none (.t 63) (.t 64), (some (62, true)), false, []⟩,
        ⟨(some 66), .load 1 false (.t 65), (some (62, true)), false, []⟩,
        ⟨(some 67), .not (.t 66), (some (62, true)), false, []⟩,
        ⟨(some 68), .pick (.t 62) (.t 67) (.c (.bool false)), none, false, []⟩] none [3, 10, 11, 12, 13, 14, 15, 16, 17, 18, 19, 68])
      (.cond (.t 68)
        (.join [3, 10, 11, 12, 13, 14, 15, 16, 18, 19] [17] 2 (.seq (.ops [⟨(some 69), .mov (.t 19), none, false, []⟩,
            ⟨(some 70), .load 1 false (.t 3), none, false, []⟩,
            ⟨(some 71), .len false (.t 70), none, false, []⟩,
            ⟨(some 72), .bin .none .lss (.t 69) (.t 71), none, false, []⟩] none [3, 10, 11, 12, 13, 14, 15, 16, 17, 18, 19, 72])
          (.cond (.t 72)
            (.ops [⟨(some 73), .mov (.t 17), none, false, []⟩,
              ⟨(some 74), .load 1 false (.t 3), none, false, []⟩,
              ⟨(some 75), .mov (.t 19), none, false, []⟩,
              ⟨(some 76), .iaddr 1 none (.t 74) (.t 75), none, false, []⟩,
              ⟨(some 77), .load 1 false (.t 76), none, false, []⟩,
              ⟨(some 78), .bslice true 1 1 [(.str [])] [(0, 1, (.t 77))], none, false, []⟩,
              ⟨(some 79), .append 1 16 (.t 73) (.t 78), none, false, []⟩,
              ⟨(some 17), .mov (.t 79), none, false, []⟩] none [3, 10, 11, 12, 13, 14, 15, 16, 17, 18, 19])
            .skip))
        (.exit 1))
        .skip))
      (.seq (.ops [⟨(some 80), .mov (.t 19), none, false, []⟩,
        ⟨(some 20), .mov (.t 80), none, false, []⟩] none [3, 10, 11, 12, 13, 14, 15, 16, 17, 18, 19, 20])
      (.seq (.block 2 (.loop [3, 10, 11, 12, 13, 14, 15, 16, 17, 18, 19] [20] 2
        (.seq (.seq (.ops [⟨(some 81), .mov (.t 20), none, false, []⟩,
          ⟨(some 82), .load 1 false (.t 3), none, false, []⟩,
          ⟨(some 83), .len false (.t 82), none, false, []⟩,
          ⟨(some 84), .bin .none .lss (.t 81) (.t 83), none, false, []⟩,
          ⟨(some 85), .mov (.t 84), none, true, []⟩,
          ⟨(some 86), .mov (.t 11), (some (85, true)), false, []⟩,
          ⟨(some 87), .mov (.t 20), (some (85, true)), false, []⟩,
          ⟨(some 88), .iaddr 1 none (.t 86) (.t 87), (some (85, true)), false, []⟩,
          ⟨(some 89), .load 1 false (.t 88), (some (85, true)), false, []⟩,
          ⟨(some 90), .mov (.t 89), (some (85, true)), true, []⟩,
          ⟨(some 91), .mov (.t 14), (some (90, false)), false, []⟩,
          ⟨(some 92), .mov (.t 20), (some (90, false)), false, []⟩,
          ⟨(some 93), .iaddr 1 none (.t 91) (.t 92), (some (90, false)), false, []⟩,
          ⟨(some 94), .load 1 false (.t 93), (some (90, false)), false, []⟩,
          ⟨(some 95), .pick (.t 90) (.c (.bool true)) (.t 94), (some (85, true)), false, []⟩,
          ⟨(some 96), .pick (.t 85) (.t 95) (.c (.bool false)), none, false, []⟩] none [3, 10, 11, 12, 13, 14, 15, 16, 17, 18, 19, 20, 96])
        (.cond (.t 96)
          .skip
          (.exit 2)))
        (.block 3 (.ops [⟨(some 97), .mov (.t 20), none, false, []⟩,
          ⟨(some 98), .bin .none .add (.t 97) (.c (.int .i64 1)), none, false, []⟩,
          ⟨(some 20), .mov (.t 98), none, false, []⟩] none [3, 10, 11, 12, 13, 14, 15, 16, 17, 18, 19, 20])))))
      (.seq (.ops [⟨(some 21), .mov (.c (.bool false)), none, false, []⟩] none [3, 10, 11, 12, 13, 14, 15, 16, 17, 18, 19, 20, 21])
      (.seq (.ops [⟨(some 22), .mov (.c (.bool false)), none, false, []⟩] none [3, 10, 11, 12, 13, 14, 15, 16, 17, 18, 19, 20, 21, 22])
      (.seq (.seq (.ops [⟨(some 99), .mov (.t 19), none, false, []⟩,
        ⟨(some 23), .mov (.t 99), none, false, []⟩] none [3, 10, 11, 12, 13, 14, 15, 16, 17, 18, 19, 20, 21, 22, 23])
      (.block 4 (.loop [3, 10, 11, 12, 13, 14, 15, 16, 17, 18, 19, 20] [21, 22, 23] 2
        (.seq (.seq (.ops [⟨(some 100), .mov (.t 23), none, false, []⟩,
          ⟨(some 101), .mov (.t 20), none, false, []⟩,
          ⟨(some 102), .bin .none .leq (.t 100) (.t 101), none, false, []⟩] none [3, 10, 11, 12, 13, 14, 15, 16, 17, 18, 19, 20, 21, 22, 23, 102])
        (.cond (.t 102)
          .skip
          (.exit 4)))
        (.seq (.block 5 (.seq (.ops [⟨(some 105), .mov (.t 21), none, false, []⟩,
          ⟨(some 106), .mov (.t 105), none, true, []⟩,
          ⟨(some 107), .mov (.t 10), (some (106, false)), false, []⟩,
          ⟨(some 108), .mov (.t 23), (some (106, false)), false, []⟩,
          ⟨(some 109), .iaddr 1 none (.t 107) (.t 108), (some (106, false)), false, []⟩,
          ⟨(some 110), .load 1 false (.t 109), (some (106, false)), false, []⟩,
          ⟨(some 111), .pick (.t 106) (.c (.bool true)) (.t 110), none, false, []⟩,
          ⟨(some 21), .mov (.t 111), none, false, []⟩] none [3, 10, 11, 12, 13, 14, 15, 16, 17, 18, 19, 20, 21, 22, 23])
        (.ops [⟨(some 112), .mov (.t 22), none, false, []⟩,
          ⟨(some 113), .mov (.t 112), none, true, []⟩,
          ⟨(some 114), .mov (.t 13), (some (113, false)), false, []⟩,
          ⟨(some 115), .mov (.t 23), (some (113, false)), false, []⟩,
          ⟨(some 116), .iaddr 1 none (.t 114) (.t 115), (some (113, false)), false, []⟩,
          ⟨(some 117), .load 1 false (.t 116), (some (113, false)), false, []⟩,
          ⟨(some 118), .pick (.t 113) (.c (.bool true)) (.t 117), none, false, []⟩,
          ⟨(some 22), .mov (.t 118), none, false, []⟩] none [3, 10, 11, 12, 13, 14, 15, 16, 17, 18, 19, 20, 21, 22, 23])))
        (.ops [⟨(some 103), .mov (.t 23), none, false, []⟩,
          ⟨(some 104), .bin .none .add (.t 103) (.c (.int .i64 1)), none, false, []⟩,
          ⟨(some 23), .mov (.t 104), none, false, []⟩] none [3, 10, 11, 12, 13, 14, 15, 16, 17, 18, 19, 20, 21, 22, 23]))))))
      (.seq (.ops [⟨(some 119), .mov (.t 16), none, false, []⟩,
        ⟨(some 120), .mov (.t 19), none, false, []⟩,
        ⟨(some 121), .mov (.t 20), none, false, []⟩,
        ⟨(some 122), .mov (.t 11), none, false, []⟩,
        ⟨(some 123), .mov (.t 12), none, false, []⟩,
        ⟨(some 124), .callv (.t 119) [(.t 120), (.t 121), (.t 122), (.t 123)], none, false, []⟩,
        ⟨(some 24), .mov (.t 124), none, false, []⟩] none [3, 10, 11, 12, 13, 14, 15, 16, 17, 18, 19, 20, 21, 22, 24])
      (.seq (.ops [⟨(some 125), .mov (.t 16), none, false, []⟩,
        ⟨(some 126), .mov (.t 19), none, false, []⟩,
        ⟨(some 127), .mov (.t 20), none, false, []⟩,
        ⟨(some 128), .mov (.t 14), none, false, []⟩,
        ⟨(some 129), .mov (.t 15), none, false, []⟩,
        ⟨(some 130), .callv (.t 125) [(.t 126), (.t 127), (.t 128), (.t 129)], none, false, []⟩,
        ⟨(some 25), .mov (.t 130), none, false, []⟩] none [3, 10, 11, 12, 13, 14, 15, 16, 17, 18, 20, 21, 22, 24, 25])
      (.seq (.ops [⟨(some 131), .mov (.t 24), none, false, []⟩,
        ⟨(some 132), .len false (.t 131), none, false, []⟩,
        ⟨(some 133), .mov (.t 25), none, false, []⟩,
        ⟨(some 134), .len false (.t 133), none, false, []⟩,
        ⟨(some 135), .bin .none .eql (.t 132) (.t 134), none, false, []⟩,
        ⟨(some 26), .mov (.t 135), none, false, []⟩] none [3, 10, 11, 12, 13, 14, 15, 16, 17, 18, 20, 21, 22, 24, 25, 26])
      (.seq (.seq (.ops [⟨(some 27), .mov (.c (.int .i64 0)), none, false, []⟩] none [3, 10, 11, 12, 13, 14, 15, 16, 17, 18, 20, 21, 22, 24, 25, 26, 27])
      (.block 6 (.loop [3, 10, 11, 12, 13, 14, 15, 16, 17, 18, 20, 21, 22, 24, 25] [26, 27] 2
        (.seq (.seq (.ops [⟨(some 136), .mov (.t 26), none, false, []⟩,
          ⟨(some 137), .mov (.t 136), none, true, []⟩,
          ⟨(some 138), .mov (.t 27), (some (137, true)), false, []⟩,
          ⟨(some 139), .mov (.t 24), (some (137, true)), false, []⟩,
          ⟨(some 140), .len false (.t 139), (some (137, true)), false, []⟩,
          ⟨(some 141), .bin .none .lss (.t 138) (.t 140), (some (137, true)), false, []⟩,
          ⟨(some 142), .pick (.t 137) (.t 141) (.c (.bool false)), none, false, []⟩] none [3, 10, 11, 12, 13, 14, 15, 16, 17, 18, 20, 21, 22, 24, 25, 26, 27, 142])
        (.cond (.t 142)
          .skip
          (.exit 6)))
        (.seq (.block 7 (.ops [⟨(some 145), .mov (.t 24), none, false, []⟩,
          ⟨(some 146), .mov (.t 27), none, false, []⟩,
          ⟨(some 147), .iaddr 1 none (.t 145) (.t 146), none, false, []⟩,
          ⟨(some 148), .load 1 false (.t 147), none, false, []⟩,
          ⟨(some 149), .mov (.t 25), none, false, []⟩,
          ⟨(some 150), .mov (.t 27), none, false, []⟩,
          ⟨(some 151), .iaddr 1 none (.t 149) (.t 150), none, false, []⟩,
          ⟨(some 152), .load 1 false (.t 151), none, false, []⟩,
          ⟨(some 153), .bin .none .eql (.t 148) (.t 152), none, false, []⟩,
          ⟨(some 26), .mov (.t 153), none, false, []⟩] (some (0, 0, [0, 1, 2, 3, 4, 5, 6, 7, 8, 9])) [3, 10, 11, 12, 13, 14, 15, 16, 17, 18, 20, 21, 22, 24, 25, 26, 27]))
        (.ops [⟨(some 143), .mov (.t 27), none, false, []⟩,
          ⟨(some 144), .bin .none .add (.t 143) (.c (.int .i64 1)), none, false, []⟩,
          ⟨(some 27), .mov (.t 144), none, false, []⟩] none [3, 10, 11, 12, 13, 14, 15, 16, 17, 18, 20, 21, 22, 24, 25, 26, 27]))))))
      (.join [3, 10, 11, 12, 13, 14, 15, 16, 20] [17, 18] 2 (.block 8 (.seq (.ops [⟨(some 172), .mov (.t 22), none, false, []⟩,
          ⟨(some 173), .not (.t 172), none, false, []⟩,
          ⟨(some 174), .mov (.t 173), none, true, []⟩,
          ⟨(some 175), .mov (.t 26), (some (174, false)), false, []⟩,
          ⟨(some 176), .pick (.t 174) (.c (.bool true)) (.t 175), none, false, []⟩,
          ⟨(some 171), .mov (.t 176), none, false, []⟩] none [3, 10, 11, 12, 13, 14, 15, 16, 17, 18, 20, 21, 24, 25, 171])
        (.cond (.t 171)
          (.ops [⟨(some 177), .mov (.t 17), none, false, []⟩,
            ⟨(some 178), .mov (.t 24), none, false, []⟩,
            ⟨(some 179), .append 1 16 (.t 177) (.t 178), none, false, []⟩,
            ⟨(some 17), .mov (.t 179), none, false, []⟩] none [3, 10, 11, 12, 13, 14, 15, 16, 17, 18, 20])
          (.seq (.ops [⟨(some 181), .mov (.t 21), none, false, []⟩,
            ⟨(some 182), .not (.t 181), none, false, []⟩,
            ⟨(some 180), .mov (.t 182), none, false, []⟩] none [3, 10, 11, 12, 13, 14, 15, 16, 17, 18, 20, 24, 25, 180])
          (.cond (.t 180)
            (.ops [⟨(some 183), .mov (.t 17), none, false, []⟩,
              ⟨(some 184), .mov (.t 25), none, false, []⟩,
              ⟨(some 185), .append 1 16 (.t 183) (.t 184), none, false, []⟩,
              ⟨(some 17), .mov (.t 185), none, false, []⟩] none [3, 10, 11, 12, 13, 14, 15, 16, 17, 18, 20])
            (.seq (.ops [⟨(some 154), .mov (.t 18), none, false, []⟩,
              ⟨(some 155), .bin .none .add (.t 154) (.c (.int .i64 1)), none, false, []⟩,
              ⟨(some 18), .mov (.t 155), none, false, []⟩] none [3, 10, 11, 12, 13, 14, 15, 16, 17, 18, 20, 24, 25])
            (.seq (.ops [⟨(some 156), .mov (.t 17), none, false, []⟩,
              ⟨(some 157), .bslice true 1 1 [(.str [])] [(0, 1, (.c (.str [60, 60, 60, 60, 60, 60, 60])))], none, false, []⟩,
              ⟨(some 158), .append 1 16 (.t 156) (.t 157), none, false, []⟩,
              ⟨(some 17), .mov (.t 158), none, false, []⟩] none [3, 10, 11, 12, 13, 14, 15, 16, 17, 18, 20, 24, 25])
            (.seq (.ops [⟨(some 159), .mov (.t 17), none, false, []⟩,
              ⟨(some 160), .mov (.t 24), none, false, []⟩,
              ⟨(some 161), .append 1 16 (.t 159) (.t 160), none, false, []⟩,
              ⟨(some 17), .mov (.t 161), none, false, []⟩] none [3, 10, 11, 12, 13, 14, 15, 16, 17, 18, 20, 25])
            (.seq (.ops [⟨(some 162), .mov (.t 17), none, false, []⟩,
              ⟨(some 163), .bslice true 1 1 [(.str [])] [(0, 1, (.c (.str [61, 61, 61, 61, 61, 61, 61])))], none, false, []⟩,
              ⟨(some 164), .append 1 16 (.t 162) (.t 163), none, false, []⟩,
              ⟨(some 17), .mov (.t 164), none, false, []⟩] none [3, 10, 11, 12, 13, 14, 15, 16, 17, 18, 20, 25])
            (.seq (.ops [⟨(some 165), .mov (.t 17), none, false, []⟩,
              ⟨(some 166), .mov (.t 25), none, false, []⟩,
              ⟨(some 167), .append 1 16 (.t 165) (.t 166), none, false, []⟩,
              ⟨(some 17), .mov (.t 167), none, false, []⟩] none [3, 10, 11, 12, 13, 14, 15, 16, 17, 18, 20])
            (.ops [⟨(some 168), .mov (.t 17), none, false, []⟩,
              ⟨(some 169), .bslice true 1 1 [(.str [])] [(0, 1, (.c (.str [62, 62, 62, 62, 62, 62, 62])))], none, false, []⟩,
              ⟨(some 170), .append 1 16 (.t 168) (.t 169), none, false, []⟩,
              ⟨(some 17), .mov (.t 170), none, false, []⟩] none [3, 10, 11, 12, 13, 14, 15, 16, 17, 18, 20])))))))))))
      (.join [3, 10, 11, 12, 13, 14, 15, 16, 18, 20] [17] 2 (.seq (.ops [⟨(some 186), .mov (.t 20), none, false, []⟩,
          ⟨(some 187), .load 1 false (.t 3), none, false, []⟩,
          ⟨(some 188), .len false (.t 187), none, false, []⟩,
          ⟨(some 189), .bin .none .lss (.t 186) (.t 188), none, false, []⟩] none [3, 10, 11, 12, 13, 14, 15, 16, 17, 18, 20, 189])
        (.cond (.t 189)
          (.ops [⟨(some 190), .mov (.t 17), none, false, []⟩,
            ⟨(some 191), .load 1 false (.t 3), none, false, []⟩,
            ⟨(some 192), .mov (.t 20), none, false, []⟩,
            ⟨(some 193), .iaddr 1 none (.t 191) (.t 192), none, false, []⟩,
            ⟨(some 194), .load 1 false (.t 193), none, false, []⟩,
            ⟨(some 195), .bslice true 1 1 [(.str [])] [(0, 1, (.t 194))], none, false, []⟩,
            ⟨(some 196), .append 1 16 (.t 190) (.t 195), none, false, []⟩,
            ⟨(some 17), .mov (.t 196), none, false, []⟩] none [3, 10, 11, 12, 13, 14, 15, 16, 17, 18, 20])
          .skip))
      (.ops [⟨(some 197), .mov (.t 20), none, false, []⟩,
        ⟨(some 19), .mov (.t 197), none, false, []⟩] none [3, 10, 11, 12, 13, 14, 15, 16, 17, 18, 19]))))))))))))))
    (.ops [⟨(some 55), .mov (.t 19), none, false, []⟩,
      ⟨(some 56), .bin .none .add (.t 55) (.c (.int .i64 1)), none, false, []⟩,
      ⟨(some 19), .mov (.t 56), none, false, []⟩] none [3, 10, 11, 12, 13, 14, 15, 16, 17, 18, 19]))))))
  (.seq (.ops [⟨(some 198), .mov (.t 17), none, false, []⟩,
    ⟨(some 199), .mov (.t 18), none, false, []⟩,
    ⟨(some 6), .mov (.t 198), none, false, []⟩,
    ⟨(some 7), .mov (.t 199), none, false, []⟩,
    ⟨(some 8), .mov (.c (.int .i64 0)), none, false, []⟩] none [6, 7, 8])
  .ret)))))))))
def ref_Merged_r : List RRes := [.tmp 6, .tmp 7, .tmp 8]
def ref_Merged_hi : Hi := ⟨[(31, (.sl .str)), (17, .str), (78, .str), (79, .str), (179, .str), (185, .str), (157, .str), (158, .str), (161, .str), (163, .str), (164, .str), (167, .str), (169, .str), (170, .str), (195, .str), (196, .str), (3, (.sl .str))], [(0, "base"), (1, "a"), (2, "b"), (3, "base"), (4, "a"), (5, "b"), (9, "e"), (10, "gapsA"), (11, "goneA"), (12, "putsA"), (13, "gapsB"), (14, "goneB"), (15, "putsB"), (16, "make1"), (17, "out"), (18, "clashes"), (19, "i"), (20, "hi"), (21, "usesA"), (22, "usesB"), (23, "k"), (24, "x"), (25, "y"), (26, "same"), (27, "k")]⟩
def ref_Merged_an : An := (.seq .d (.seq .d (.seq .d (.seq .d (.seq .d (.seq .d (.seq .d (.seq (.seq .d (.loop [17, 16, 11, 12, 14, 15] [] [] (.seq .d (.seq (.seq .d (.seq .d (.seq (.loop [] [] [] .d) (.seq .d (.seq .d (.seq (.seq .d (.loop [] [] [] .d)) (.seq .d (.seq .d (.seq .d (.seq (.seq .d (.loop [] [] [] .d)) .d)))))))))) .d)))) .d))))))))
def ref_Merged_fi : Fi := ⟨200, ref_Merged_c, ref_Merged_r, ref_Merged_an, ref_Merged_hi, none⟩
theorem ref_Merged_ok : FiOk Try.prog f_ref_Merged ref_Merged_fi :=
  ⟨fun _ => by kernel_rfl, fun _ h hlen => fun_sound (by kernel_rfl) (fn := Try.f6) (draw_sound _ _) Try.func6 rfl (by kernel_rfl : comp Try.prog 200 _ ref_Merged_c = some ref_Merged_c) (by kernel_rfl : cRes Try.prog Try.f6.results.toList = some ref_Merged_r) hlen h, fun _ h => nomatch h⟩

/-- fustian/fustianlaw.sameTexts: slots [0 a, 1 b, 2 a, 3 b, 5 i] -/
def law_sameTexts_c : SCode :=
  (.seq (.ops [⟨(some 4), .mov (.c (.bool false)), none, false, []⟩] none [0, 1])
  (.seq (.seq (.ops [⟨(some 6), .mov (.t 0), none, false, []⟩,
    ⟨(some 7), .len false (.t 6), none, false, []⟩,
    ⟨(some 8), .mov (.t 1), none, false, []⟩,
    ⟨(some 9), .len false (.t 8), none, false, []⟩,
    ⟨(some 10), .bin .none .neq (.t 7) (.t 9), none, false, []⟩] none [0, 1, 10])
  (.cond (.t 10)
    (.seq (.ops [⟨(some 4), .mov (.c (.bool false)), none, false, []⟩] none [4])
    .ret)
    .skip))
  (.seq (.seq (.ops [⟨(some 5), .mov (.c (.int .i64 0)), none, false, []⟩] none [0, 1, 5])
  (.block 0 (.loop [0, 1] [5] 0
    (.seq (.seq (.ops [⟨(some 11), .mov (.t 5), none, false, []⟩,
      ⟨(some 12), .mov (.t 0), none, false, []⟩,
      ⟨(some 13), .len false (.t 12), none, false, []⟩,
      ⟨(some 14), .bin .none .lss (.t 11) (.t 13), none, false, []⟩] none [0, 1, 5, 14])
    (.cond (.t 14)
      .skip
      (.exit 0)))
    (.seq (.block 1 (.seq (.ops [⟨(some 17), .mov (.t 0), none, false, []⟩,
      ⟨(some 18), .mov (.t 5), none, false, []⟩,
      ⟨(some 19), .iaddr 1 none (.t 17) (.t 18), none, false, []⟩,
      ⟨(some 20), .load 1 false (.t 19), none, false, []⟩,
      ⟨(some 21), .mov (.t 1), none, false, []⟩,
      ⟨(some 22), .mov (.t 5), none, false, []⟩,
      ⟨(some 23), .iaddr 1 none (.t 21) (.t 22), none, false, []⟩,
      ⟨(some 24), .load 1 false (.t 23), none, false, []⟩,
      ⟨(some 25), .bin .none .neq (.t 20) (.t 24), none, false, []⟩] (some (0, 0, [0, 1, 2, 3, 4, 5, 6, 7, 8])) [0, 1, 5, 25])
    (.cond (.t 25)
      (.seq (.ops [⟨(some 4), .mov (.c (.bool false)), none, false, []⟩] none [4])
      .ret)
      .skip)))
    (.ops [⟨(some 15), .mov (.t 5), none, false, []⟩,
      ⟨(some 16), .bin .none .add (.t 15) (.c (.int .i64 1)), none, false, []⟩,
      ⟨(some 5), .mov (.t 16), none, false, []⟩] none [0, 1, 5]))))))
  (.seq (.ops [⟨(some 4), .mov (.c (.bool true)), none, false, []⟩] none [4])
  .ret))))
def law_sameTexts_r : List RRes := [.tmp 4]
def law_sameTexts_hi : Hi := ⟨[], [(0, "a"), (1, "b"), (2, "a"), (3, "b"), (5, "i")]⟩
def law_sameTexts_an : An := (.seq .d (.seq .d (.seq (.seq .d (.loop [] [] [] .d)) .d)))
def law_sameTexts_fi : Fi := ⟨26, law_sameTexts_c, law_sameTexts_r, law_sameTexts_an, law_sameTexts_hi, none⟩
theorem law_sameTexts_ok : FiOk Try.prog f_law_sameTexts law_sameTexts_fi :=
  ⟨fun _ => by kernel_rfl, fun _ h hlen => fun_sound (by kernel_rfl) (fn := Try.f7) (draw_sound _ _) Try.func7 rfl (by kernel_rfl : comp Try.prog 26 _ law_sameTexts_c = some law_sameTexts_c) (by kernel_rfl : cRes Try.prog Try.f7.results.toList = some law_sameTexts_r) hlen h, fun _ h => nomatch h⟩

/-- fustian/fustianlaw.MergeMerges: slots [0 base, 1 a, 2 b, 3 base, 4 a, 5 b, 7 x, 8 m, 9 e, 10 y, 11 n, 12 f] -/
def law_MergeMerges_c : SCode :=
  (.seq (.ops [⟨(some 6), .mov (.c (.bool false)), none, false, []⟩] none [0, 1, 2])
  (.seq (.ops [⟨(some 14), .mov (.t 0), none, false, []⟩,
    ⟨(some 15), .mov (.t 1), none, false, []⟩,
    ⟨(some 16), .mov (.t 2), none, false, []⟩,
    ⟨(some 17), .call f_merge_Merge [(.t 14), (.t 15), (.t 16)], none, false, []⟩,
    ⟨(some 13), .mov (.t 17), none, false, []⟩,
    ⟨(some 18), .extract (.t 13) 0, none, false, []⟩,
    ⟨(some 19), .extract (.t 13) 1, none, false, []⟩,
    ⟨(some 20), .extract (.t 13) 2, none, false, []⟩,
    ⟨(some 7), .mov (.t 18), none, false, []⟩,
    ⟨(some 8), .mov (.t 19), none, false, []⟩,
    ⟨(some 9), .mov (.t 20), none, false, []⟩] none [0, 1, 2, 7, 8, 9])
  (.seq (.ops [⟨(some 22), .mov (.t 0), none, false, []⟩,
    ⟨(some 23), .mov (.t 1), none, false, []⟩,
    ⟨(some 24), .mov (.t 2), none, false, []⟩,
    ⟨(some 25), .call f_ref_Merged [(.t 22), (.t 23), (.t 24)], none, false, []⟩,
    ⟨(some 21), .mov (.t 25), none, false, []⟩,
    ⟨(some 26), .extract (.t 21) 0, none, false, []⟩,
    ⟨(some 27), .extract (.t 21) 1, none, false, []⟩,
    ⟨(some 28), .extract (.t 21) 2, none, false, []⟩,
    ⟨(some 10), .mov (.t 26), none, false, []⟩,
    ⟨(some 11), .mov (.t 27), none, false, []⟩,
    ⟨(some 12), .mov (.t 28), none, false, []⟩] none [7, 8, 9, 10, 11, 12])
  (.seq (.ops [⟨(some 29), .mov (.t 7), none, false, []⟩,
    ⟨(some 30), .mov (.t 10), none, false, []⟩,
    ⟨(some 31), .call f_law_sameTexts [(.t 29), (.t 30)], none, false, []⟩,
    ⟨(some 32), .mov (.t 31), none, true, []⟩,
    ⟨(some 33), .mov (.t 8), (some (32, true)), false, []⟩,
    ⟨(some 34), .mov (.t 11), (some (32, true)), false, []⟩,
    ⟨(some 35), .bin .none .eql (.t 33) (.t 34), (some (32, true)), false, []⟩,
    ⟨(some 36), .pick (.t 32) (.t 35) (.c (.bool false)), none, false, []⟩,
    ⟨(some 37), .mov (.t 36), none, true, []⟩,
    ⟨(some 38), .mov (.t 9), (some (37, true)), false, []⟩,
    ⟨(some 39), .mov (.t 12), (some (37, true)), false, []⟩,
    ⟨(some 40), .bin .none .eql (.t 38) (.t 39), (some (37, true)), false, []⟩,
    ⟨(some 41), .pick (.t 37) (.t 40) (.c (.bool false)), none, false, []⟩,
    ⟨(some 6), .mov (.t 41), none, false, []⟩] none [6])
  .ret))))
def law_MergeMerges_r : List RRes := [.tmp 6]
def law_MergeMerges_hi : Hi := ⟨[], [(0, "base"), (1, "a"), (2, "b"), (3, "base"), (4, "a"), (5, "b"), (7, "x"), (8, "m"), (9, "e"), (10, "y"), (11, "n"), (12, "f")]⟩
def law_MergeMerges_an : An := .d
def law_MergeMerges_fi : Fi := ⟨42, law_MergeMerges_c, law_MergeMerges_r, law_MergeMerges_an, law_MergeMerges_hi, none⟩
theorem law_MergeMerges_ok : FiOk Try.prog f_law_MergeMerges law_MergeMerges_fi :=
  ⟨fun _ => by kernel_rfl, fun _ h hlen => fun_sound (by kernel_rfl) (fn := Try.f3) (draw_sound _ _) Try.func3 rfl (by kernel_rfl : comp Try.prog 42 _ law_MergeMerges_c = some law_MergeMerges_c) (by kernel_rfl : cRes Try.prog Try.f3.results.toList = some law_MergeMerges_r) hlen h, fun _ h => nomatch h⟩

/-- fustian/diff.costs: slots [0 a, 1 b, 2 a, 3 b, 5 out, 6 i, 7 k] -/
def diff_costs_c : SCode :=
  (.seq (.ops [⟨(some 4), .mov (.c .nils), none, false, []⟩] none [0, 1])
  (.seq (.ops [⟨(some 8), .mov (.t 0), none, false, []⟩,
    ⟨(some 9), .len false (.t 8), none, false, []⟩,
    ⟨(some 10), .bin .none .add (.t 9) (.c (.int .i64 1)), none, false, []⟩,
    ⟨(some 11), .mkslice 1 24 [.nils] (.t 10) (.t 10), none, false, []⟩,
    ⟨(some 5), .mov (.t 11), none, false, []⟩] none [0, 1, 5])
  (.seq (.seq (.ops [⟨(some 12), .mov (.t 0), none, false, []⟩,
    ⟨(some 13), .len false (.t 12), none, false, []⟩,
    ⟨(some 6), .mov (.t 13), none, false, []⟩] none [0, 1, 5, 6])
  (.block 0 (.loop [0, 1, 5] [6] 1
    (.seq (.seq (.ops [⟨(some 14), .mov (.t 6), none, false, []⟩,
      ⟨(some 15), .bin .none .geq (.t 14) (.c (.int .i64 0)), none, false, []⟩] none [0, 1, 5, 6, 15])
    (.cond (.t 15)
      .skip
      (.exit 0)))
    (.seq (.block 1 (.seq (.ops [⟨(some 18), .mov (.t 5), none, false, []⟩,
      ⟨(some 19), .mov (.t 6), none, false, []⟩,
      ⟨(some 20), .mov (.t 1), none, false, []⟩,
      ⟨(some 21), .len false (.t 20), none, false, []⟩,
      ⟨(some 22), .bin .none .add (.t 21) (.c (.int .i64 1)), none, false, []⟩,
      ⟨(some 23), .mkslice 1 8 [(.int .i64 0)] (.t 22) (.t 22), none, false, []⟩,
      ⟨(some 24), .iaddr 1 none (.t 18) (.t 19), none, false, []⟩,
      ⟨none, .store 1 (.t 24) (.t 23), none, false, []⟩] none [0, 1, 5, 6])
    (.seq (.ops [⟨(some 25), .mov (.t 1), none, false, []⟩,
      ⟨(some 26), .len false (.t 25), none, false, []⟩,
      ⟨(some 7), .mov (.t 26), none, false, []⟩] none [0, 1, 5, 6, 7])
    (.block 2 (.loop [0, 1, 5, 6] [7] 2
      (.seq (.seq (.ops [⟨(some 27), .mov (.t 7), none, false, []⟩,
        ⟨(some 28), .bin .none .geq (.t 27) (.c (.int .i64 0)), none, false, []⟩] none [0, 1, 5, 6, 7, 28])
      (.cond (.t 28)
        .skip
        (.exit 2)))
      (.join [0, 1, 5, 6, 7] [] 2 (.block 3 (.block 4 (.seq (.ops [⟨(some 56), .mov (.t 6), none, false, []⟩,
          ⟨(some 57), .mov (.t 0), none, false, []⟩,
          ⟨(some 58), .len false (.t 57), none, false, []⟩,
          ⟨(some 59), .bin .none .eql (.t 56) (.t 58), none, false, []⟩,
          ⟨(some 55), .mov (.t 59), none, false, []⟩] none [0, 1, 5, 6, 7, 55])
        (.cond (.t 55)
          (.ops [⟨(some 60), .mov (.t 5), none, false, []⟩,
            ⟨(some 61), .mov (.t 6), none, false, []⟩,
            ⟨(some 62), .iaddr 1 none (.t 60) (.t 61), none, false, []⟩,
            ⟨(some 63), .load 1 false (.t 62), none, false, []⟩,
            ⟨(some 64), .mov (.t 7), none, false, []⟩,
            ⟨(some 65), .mov (.t 1), none, false, []⟩,
            ⟨(some 66), .len false (.t 65), none, false, []⟩,
            ⟨(some 67), .mov (.t 7), none, false, []⟩,
            ⟨(some 68), .bin .none .sub (.t 66) (.t 67), none, false, []⟩,
            ⟨(some 69), .iaddr 1 none (.t 63) (.t 64), none, false, []⟩,
            ⟨none, .store 1 (.t 69) (.t 68), none, false, []⟩] none [0, 1, 5, 6, 7])
          (.seq (.ops [⟨(some 71), .mov (.t 7), none, false, []⟩,
            ⟨(some 72), .mov (.t 1), none, false, []⟩,
            ⟨(some 73), .len false (.t 72), none, false, []⟩,
            ⟨(some 74), .bin .none .eql (.t 71) (.t 73), none, false, []⟩,
            ⟨(some 70), .mov (.t 74), none, false, []⟩] none [0, 1, 5, 6, 7, 70])
          (.cond (.t 70)
            (.ops [⟨(some 75), .mov (.t 5), none, false, []⟩,
              ⟨(some 76), .mov (.t 6), none, false, []⟩,
              ⟨(some 77), .iaddr 1 none (.t 75) (.t 76), none, false, []⟩,
              ⟨(some 78), .load 1 false (.t 77), none, false, []⟩,
              ⟨(some 79), .mov (.t 7), none, false, []⟩,
              ⟨(some 80), .mov (.t 0), none, false, []⟩,
              ⟨(some 81), .len false (.t 80), none, false, []⟩,
              ⟨(some 82), .mov (.t 6), none, false, []⟩,
              ⟨(some 83), .bin .none .sub (.t 81) (.t 82), none, false, []⟩,
              ⟨(some 84), .iaddr 1 none (.t 78) (.t 79), none, false, []⟩,
              ⟨none, .store 1 (.t 84) (.t 83), none, false, []⟩] none [0, 1, 5, 6, 7])
            (.seq (.ops [⟨(some 86), .mov (.t 0), none, false, []⟩,
              ⟨(some 87), .mov (.t 6), none, false, []⟩,
              ⟨(some 88), .iaddr 1 none (.t 86) (.t 87), none, false, []⟩,
              ⟨(some 89), .load 1 false (.t 88), none, false, []⟩,
              ⟨(some 90), .mov (.t 1), none, false, []⟩,
              ⟨(some 91), .mov (.t 7), none, false, []⟩,
              ⟨(some 92), .iaddr 1 none (.t 90) (.t 91), none, false, []⟩,
              ⟨(some 93), .load 1 false (.t 92), none, false, []⟩,
              ⟨(some 94), .bin .none .eql (.t 89) (.t 93), none, false, []⟩,
              ⟨(some 85), .mov (.t 94), none, false, []⟩] (some (0, 0, [0, 1, 2, 3, 4, 5, 6, 7, 8, 9])) [0, 1, 5, 6, 7, 85])
            (.cond (.t 85)
              (.ops [⟨(some 95), .mov (.t 5), none, false, []⟩,
                ⟨(some 96), .mov (.t 6), none, false, []⟩,
                ⟨(some 97), .iaddr 1 none (.t 95) (.t 96), none, false, []⟩,
                ⟨(some 98), .load 1 false (.t 97), none, false, []⟩,
                ⟨(some 99), .mov (.t 7), none, false, []⟩,
                ⟨(some 100), .mov (.t 5), none, false, []⟩,
                ⟨(some 101), .mov (.t 6), none, false, []⟩,
                ⟨(some 102), .bin .none .add (.t 101) (.c (.int .i64 1)), none, false, []⟩,
                ⟨(some 103), .iaddr 1 none (.t 100) (.t 102), none, false, []⟩,
                ⟨(some 104), .load 1 false (.t 103), none, false, []⟩,
                ⟨(some 105), .mov (.t 7), none, false, []⟩,
                ⟨(some 106), .bin .none .add (.t 105) (.c (.int .i64 1)), none, false, []⟩,
                ⟨(some 107), .iaddr 1 none (.t 104) (.t 106), none, false, []⟩,
                ⟨(some 108), .load 1 false (.t 107), none, false, []⟩,
                ⟨(some 109), .iaddr 1 none (.t 98) (.t 99), none, false, []⟩,
                ⟨none, .store 1 (.t 109) (.t 108), none, false, []⟩] (some (0, 0, [0, 1, 2, 3, 4, 5, 6, 7, 8, 9, 10, 11, 12, 13, 14, 15])) [0, 1, 5, 6, 7])
              (.ops [⟨(some 31), .mov (.t 5), none, false, []⟩,
                ⟨(some 32), .mov (.t 6), none, false, []⟩,
                ⟨(some 33), .iaddr 1 none (.t 31) (.t 32), none, false, []⟩,
                ⟨(some 34), .load 1 false (.t 33), none, false, []⟩,
                ⟨(some 35), .mov (.t 7), none, false, []⟩,
                ⟨(some 36), .mov (.t 5), none, false, []⟩,
                ⟨(some 37), .mov (.t 6), none, false, []⟩,
                ⟨(some 38), .bin .none .add (.t 37) (.c (.int .i64 1)), none, false, []⟩,
                ⟨(some 39), .iaddr 1 none (.t 36) (.t 38), none, false, []⟩,
                ⟨(some 40), .load 1 false (.t 39), none, false, []⟩,
                ⟨(some 41), .mov (.t 7), none, false, []⟩,
                ⟨(some 42), .iaddr 1 none (.t 40) (.t 41), none, false, []⟩,
                ⟨(some 43), .load 1 false (.t 42), none, false, []⟩,
                ⟨(some 44), .mov (.t 5), none, false, []⟩,
                ⟨(some 45), .mov (.t 6), none, false, []⟩,
                ⟨(some 46), .iaddr 1 none (.t 44) (.t 45), none, false, []⟩,
                ⟨(some 47), .load 1 false (.t 46), none, false, []⟩,
                ⟨(some 48), .mov (.t 7), none, false, []⟩,
                ⟨(some 49), .bin .none .add (.t 48) (.c (.int .i64 1)), none, false, []⟩,
                ⟨(some 50), .iaddr 1 none (.t 47) (.t 49), none, false, []⟩,
                ⟨(some 51), .load 1 false (.t 50), none, false, []⟩,
                ⟨(some 52), .min [(.t 43), (.t 51)], none, false, []⟩,
                ⟨(some 53), .bin .none .add (.c (.int .i64 1)) (.t 52), none, false, []⟩,
                ⟨(some 54), .iaddr 1 none (.t 34) (.t 35), none, false, []⟩,
                ⟨none, .store 1 (.t 54) (.t 53), none, false, []⟩] (some (0, 0, [0, 1, 2, 3, 4, 5, 6, 7, 8, 9, 10, 11, 12, 13, 14, 15, 16, 17, 18, 19, 20, 21, 22, 23, 24])) [0, 1, 5, 6, 7])))))))))
      (.ops [⟨(some 29), .mov (.t 7), none, false, []⟩,
        ⟨(some 30), .bin .none .sub (.t 29) (.c (.int .i64 1)), none, false, []⟩,
        ⟨(some 7), .mov (.t 30), none, false, []⟩] none [0, 1, 5, 6, 7]))))))))
    (.ops [⟨(some 16), .mov (.t 6), none, false, []⟩,
      ⟨(some 17), .bin .none .sub (.t 16) (.c (.int .i64 1)), none, false, []⟩,
      ⟨(some 6), .mov (.t 17), none, false, []⟩] none [0, 1, 5, 6]))))))
  (.seq (.ops [⟨(some 110), .mov (.t 5), none, false, []⟩,
    ⟨(some 4), .mov (.t 110), none, false, []⟩] none [4])
  .ret))))
def diff_costs_r : List RRes := [.tmp 4]
def diff_costs_hi : Hi := ⟨[(11, (.sl (.int .i64))), (23, (.int .i64))], [(0, "a"), (1, "b"), (2, "a"), (3, "b"), (5, "out"), (6, "i"), (7, "k")]⟩
def diff_costs_an : An := (.seq .d (.seq .d (.seq (.seq .d (.loop [5] [] [] (.seq .d (.seq (.seq .d (.seq .d (.loop [5] [] [] .d))) .d)))) .d)))
def diff_costs_fi : Fi := ⟨111, diff_costs_c, diff_costs_r, diff_costs_an, diff_costs_hi, none⟩
theorem diff_costs_ok : FiOk Try.prog f_diff_costs diff_costs_fi :=
  ⟨fun _ => by kernel_rfl, fun _ h hlen => fun_sound (by kernel_rfl) (fn := Try.f26) (draw_sound _ _) Try.func26 rfl (by kernel_rfl : comp Try.prog 111 _ diff_costs_c = some diff_costs_c) (by kernel_rfl : cRes Try.prog Try.f26.results.toList = some diff_costs_r) hlen h, fun _ h => nomatch h⟩

/-- fustian/diff.add: slots [0 l, 1 kind, 2 l, 3 kind, 5 n] -/
def diff_add_c : SCode :=
  (.seq (.ops [⟨(some 4), .mov (.c .nils), none, false, []⟩] none [0, 1])
  (.seq (.seq (.ops [⟨(some 6), .mov (.t 0), none, false, []⟩,
    ⟨(some 7), .len false (.t 6), none, false, []⟩,
    ⟨(some 5), .mov (.t 7), none, false, []⟩] none [0, 1, 5])
  (.seq (.ops [⟨(some 8), .mov (.t 5), none, false, []⟩,
    ⟨(some 9), .bin .none .gtr (.t 8) (.c (.int .i64 0)), none, false, []⟩,
    ⟨(some 10), .mov (.t 9), none, true, []⟩,
    ⟨(some 11), .mov (.t 0), (some (10, true)), false, []⟩,
    ⟨(some 12), .mov (.t 5), (some (10, true)), false, []⟩,
    ⟨(some 13), .bin .none .sub (.t 12) (.c (.int .i64 1)), (some (10, true)), false, []⟩,
    ⟨(some 14), .iaddr 2 none (.t 11) (.t 13), (some (10, true)), false, []⟩,
    ⟨(some 15), .faddr 0 (.t 14), (some (10, true)), false, []⟩,
    ⟨(some 16), .load 1 false (.t 15), (some (10, true)), false, []⟩,
    ⟨(some 17), .mov (.t 1), (some (10, true)), false, []⟩,
    ⟨(some 18), .bin .none .eql (.t 16) (.t 17), (some (10, true)), false, []⟩,
    ⟨(some 19), .pick (.t 10) (.t 18) (.c (.bool false)), none, false, []⟩] none [0, 1, 5, 19])
  (.cond (.t 19)
    (.seq (.ops [⟨(some 20), .mov (.t 0), none, false, []⟩,
      ⟨(some 21), .mov (.t 5), none, false, []⟩,
      ⟨(some 22), .bin .none .sub (.t 21) (.c (.int .i64 1)), none, false, []⟩,
      ⟨(some 23), .iaddr 2 none (.t 20) (.t 22), none, false, []⟩,
      ⟨(some 24), .faddr 1 (.t 23), none, false, []⟩,
      ⟨(some 25), .load 1 false (.t 24), none, false, []⟩,
      ⟨(some 26), .bin .none .add (.t 25) (.c (.int .i64 1)), none, false, []⟩,
      ⟨(some 27), .iaddr 2 none (.t 20) (.t 22), none, false, []⟩,
      ⟨(some 28), .faddr 1 (.t 27), none, false, []⟩,
      ⟨none, .store 1 (.t 28) (.t 26), none, false, []⟩] none [0])
    (.seq (.ops [⟨(some 29), .mov (.t 0), none, false, []⟩,
      ⟨(some 4), .mov (.t 29), none, false, []⟩] none [4])
    .ret))
    .skip)))
  (.seq (.ops [⟨(some 30), .mov (.t 0), none, false, []⟩,
    ⟨(some 31), .mov (.t 1), none, false, []⟩,
    ⟨(some 32), .build [(.int .i64 0), (.int .i64 0)] [(0, 1, (.t 31)), (1, 1, (.c (.int .i64 1)))], none, false, []⟩,
    ⟨(some 33), .bslice true 1 2 [(.int .i64 0), (.int .i64 0)] [(0, 2, (.t 32))], none, false, []⟩,
    ⟨(some 34), .append 2 16 (.t 30) (.t 33), none, false, []⟩,
    ⟨(some 4), .mov (.t 34), none, false, []⟩] none [4])
  .ret)))
def diff_add_r : List RRes := [.tmp 4]
def diff_add_hi : Hi := ⟨[(33, (.st (.cons (.int .i64) (.cons (.int .i64) .nil)))), (34, (.st (.cons (.int .i64) (.cons (.int .i64) .nil))))], [(0, "l"), (1, "kind"), (2, "l"), (3, "kind"), (5, "n")]⟩
def diff_add_an : An := .d
def diff_add_fi : Fi := ⟨35, diff_add_c, diff_add_r, diff_add_an, diff_add_hi, none⟩
theorem diff_add_ok : FiOk Try.prog f_diff_add diff_add_fi :=
  ⟨fun _ => by kernel_rfl, fun _ h hlen => fun_sound (by kernel_rfl) (fn := Try.f35) (draw_sound _ _) Try.func35 rfl (by kernel_rfl : comp Try.prog 35 _ diff_add_c = some diff_add_c) (by kernel_rfl : cRes Try.prog Try.f35.results.toList = some diff_add_r) hlen h, fun _ h => nomatch h⟩

/-- fustian/fustianref.Merged$1: slots [0 lo, 1 hi, 2 gone, 3 puts, 5 lo, 6 hi, 7 gone, 8 puts, 10 out, 11 i] -/
def ref_Merged_1_c : SCode :=
  (.seq (.ops [⟨(some 9), .mov (.c .nils), none, false, []⟩] none [0, 1, 2, 3, 4])
  (.seq (.ops [⟨(some 10), .newnil 1, none, false, []⟩] none [0, 1, 2, 3, 4, 10])
  (.seq (.seq (.ops [⟨(some 12), .mov (.t 0), none, false, []⟩,
    ⟨(some 11), .mov (.t 12), none, false, []⟩] none [1, 2, 3, 4, 10, 11])
  (.block 0 (.loop [1, 2, 3, 4] [10, 11] 1
    (.seq (.seq (.ops [⟨(some 13), .mov (.t 11), none, false, []⟩,
      ⟨(some 14), .mov (.t 1), none, false, []⟩,
      ⟨(some 15), .bin .none .leq (.t 13) (.t 14), none, false, []⟩] none [1, 2, 3, 4, 10, 11, 15])
    (.cond (.t 15)
      .skip
      (.exit 0)))
    (.join [1, 2, 3, 4, 11] [10] 1 (.block 1 (.seq (.ops [⟨(some 18), .mov (.t 10), none, false, []⟩,
        ⟨(some 19), .mov (.t 3), none, false, []⟩,
        ⟨(some 20), .mov (.t 11), none, false, []⟩,
        ⟨(some 21), .iaddr 1 none (.t 19) (.t 20), none, false, []⟩,
        ⟨(some 22), .load 1 false (.t 21), none, false, []⟩,
        ⟨(some 23), .append 1 16 (.t 18) (.t 22), none, false, []⟩,
        ⟨(some 10), .mov (.t 23), none, false, []⟩] none [1, 2, 3, 4, 10, 11])
      (.seq (.ops [⟨(some 24), .mov (.t 11), none, false, []⟩,
        ⟨(some 25), .mov (.t 1), none, false, []⟩,
        ⟨(some 26), .bin .none .lss (.t 24) (.t 25), none, false, []⟩,
        ⟨(some 27), .mov (.t 26), none, true, []⟩,
        ⟨(some 28), .mov (.t 2), (some (27, true)), false, []⟩,
        ⟨(some 29), .mov (.t 11), (some (27, true)), false, []⟩,
        ⟨(some 30), .iaddr 1 none (.t 28) (.t 29), (some (27, true)), false, []⟩,
        ⟨(some 31), .load 1 false (.t 30), (some (27, true)), false, []⟩,
        ⟨(some 32), .not (.t 31), (some (27, true)), false, []⟩,
        ⟨(some 33), .pick (.t 27) (.t 32) (.c (.bool false)), none, false, []⟩] none [1, 2, 3, 4, 10, 11, 33])
      (.cond (.t 33)
        (.ops [⟨(some 34), .mov (.t 10), none, false, []⟩,
          ⟨(some 35), .load 1 false (.t 4), none, false, []⟩,
          ⟨(some 36), .mov (.t 11), none, false, []⟩,
          ⟨(some 37), .iaddr 1 none (.t 35) (.t 36), none, false, []⟩,
          ⟨(some 38), .load 1 false (.t 37), none, false, []⟩,
          ⟨(some 39), .bslice true 1 1 [(.str [])] [(0, 1, (.t 38))], none, false, []⟩,
          ⟨(some 40), .append 1 16 (.t 34) (.t 39), none, false, []⟩,
          ⟨(some 10), .mov (.t 40), none, false, []⟩] none [1, 2, 3, 4, 10, 11])
        .skip))))
    (.ops [⟨(some 16), .mov (.t 11), none, false, []⟩,
      ⟨(some 17), .bin .none .add (.t 16) (.c (.int .i64 1)), none, false, []⟩,
      ⟨(some 11), .mov (.t 17), none, false, []⟩] none [1, 2, 3, 4, 10, 11]))))))
  (.seq (.ops [⟨(some 41), .mov (.t 10), none, false, []⟩,
    ⟨(some 9), .mov (.t 41), none, false, []⟩] none [9])
  .ret))))
def ref_Merged_1_r : List RRes := [.tmp 9]
def ref_Merged_1_hi : Hi := ⟨[(10, .str), (23, .str), (39, .str), (40, .str)], [(0, "lo"), (1, "hi"), (2, "gone"), (3, "puts"), (5, "lo"), (6, "hi"), (7, "gone"), (8, "puts"), (10, "out"), (11, "i")]⟩
def ref_Merged_1_an : An := (.seq .d (.seq .d (.seq (.seq .d (.loop [10] [] [] .d)) .d)))
def ref_Merged_1_fi : Fi := ⟨42, ref_Merged_1_c, ref_Merged_1_r, ref_Merged_1_an, ref_Merged_1_hi, none⟩
theorem ref_Merged_1_ok : FiOk Try.prog f_ref_Merged_1 ref_Merged_1_fi :=
  ⟨fun _ => by kernel_rfl, fun _ h hlen => fun_sound (by kernel_rfl) (fn := Try.f23) (draw_sound _ _) Try.func23 rfl (by kernel_rfl : comp Try.prog 42 _ ref_Merged_1_c = some ref_Merged_1_c) (by kernel_rfl : cRes Try.prog Try.f23.results.toList = some ref_Merged_1_r) hlen h, fun _ h => nomatch h⟩

end Go.Proofs.Ytdbgppfoenoijaa
