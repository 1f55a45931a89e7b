/- The functions' simplified code, printed by a program of the claim's author; each is checked against the program's own code. Conditions: none. -/
import Derived.Test.YtdbgppfoenoijaaProg
import Derived.Test.YtdbgppfoenoijaaVyM
set_option linter.unusedVariables false
set_option maxRecDepth 100000
namespace Go.Proofs.Ytdbgppfoenoijaa.R
open Go.Vc
abbrev f_gosem_cut_init : Nat := 2
abbrev f_law_MergeMerges : Nat := 3
abbrev f_top_TopMerge : Nat := 4
abbrev f_merge_Merge : Nat := 5
abbrev f_ref_Merged : Nat := 6
abbrev f_law_sameTexts : Nat := 7
abbrev f_keep_TextOf : Nat := 8
abbrev f_keep_Picked : Nat := 9
abbrev f_edit_Apply : Nat := 10
abbrev f_keep_Few : Nat := 11
abbrev f_top_cutText : Nat := 12
abbrev f_diff_Cost : Nat := 13
abbrev f_top_sameTexts : Nat := 14
abbrev f_merge_Merge_1 : Nat := 15
abbrev f_slices_ContainsFunc___string_string_ : Nat := 16
abbrev f_merge_hunks : Nat := 17
abbrev f_merge_part : Nat := 18
abbrev f_merge_made : Nat := 19
abbrev f_slices_Equal___string_string_ : Nat := 20
abbrev f_ref_LinesFault : Nat := 21
abbrev f_ref_touched : Nat := 22
abbrev f_ref_Merged_1 : Nat := 23
abbrev f_edit_run : Nat := 24
abbrev f_diff_fault : Nat := 25
abbrev f_diff_costs : Nat := 26
abbrev f_slices_IndexFunc___string_string_ : Nat := 27
abbrev f_diff_Way : Nat := 28
abbrev f___merge_side__upTo : Nat := 29
abbrev f_ref_DiffSteps : Nat := 30
abbrev f_edit_Check : Nat := 31
abbrev f_edit_Undo : Nat := 32
abbrev f_edit_Made : Nat := 33
abbrev f_diff_fault_1 : Nat := 34
abbrev f_diff_add : Nat := 35
abbrev f_ref_common : Nat := 36

/-- fustian/fustianref.touched: slots [0 base, 1 other, 2 base, 3 other, 7 gaps, 8 gone, 9 puts, 10 steps, 11 _, 12 at, 13 to, 14 _, 15 s, 16 n] -/
def ref_touched_c : SCode :=
  (.seq (.ops [⟨(some 4), .mov (.c .nils), none, false, []⟩,
    ⟨(some 5), .mov (.c .nils), none, false, []⟩,
    ⟨(some 6), .mov (.c .nils), none, false, []⟩] none [0, 1])
  (.seq (.ops [⟨(some 17), .mov (.t 0), none, false, []⟩,
    ⟨(some 18), .len false (.t 17), none, false, []⟩,
    ⟨(some 19), .bin .none .add (.t 18) (.c (.int .i64 1)), none, false, []⟩,
    ⟨(some 20), .mkslice 1 1 [(.bool false)] (.t 19) (.t 19), none, false, []⟩,
    ⟨(some 7), .mov (.t 20), none, false, []⟩] none [0, 1, 7])
  (.seq (.ops [⟨(some 21), .mov (.t 0), none, false, []⟩,
    ⟨(some 22), .len false (.t 21), none, false, []⟩,
    ⟨(some 23), .mkslice 1 1 [(.bool false)] (.t 22) (.t 22), none, false, []⟩,
    ⟨(some 8), .mov (.t 23), none, false, []⟩] none [0, 1, 7, 8])
  (.seq (.ops [⟨(some 24), .mov (.t 0), none, false, []⟩,
    ⟨(some 25), .len false (.t 24), none, false, []⟩,
    ⟨(some 26), .bin .none .add (.t 25) (.c (.int .i64 1)), none, false, []⟩,
    ⟨(some 27), .mkslice 1 24 [.nils] (.t 26) (.t 26), none, false, []⟩,
    ⟨(some 9), .mov (.t 27), none, false, []⟩] none [0, 1, 7, 8, 9])
  (.seq (.ops [⟨(some 29), .mov (.t 0), none, false, []⟩,
    ⟨(some 30), .mov (.t 1), none, false, []⟩,
    ⟨(some 31), .call f_ref_DiffSteps [(.t 29), (.t 30)], none, false, []⟩,
    ⟨(some 28), .mov (.t 31), none, false, []⟩,
    ⟨(some 32), .extract (.t 28) 0, none, false, []⟩,
    ⟨(some 33), .extract (.t 28) 1, none, false, []⟩,
    ⟨(some 10), .mov (.t 32), none, false, []⟩,
    ⟨(some 11), .mov (.t 33), none, false, []⟩] none [1, 7, 8, 9, 10])
  (.seq (.ops [⟨(some 12), .mov (.c (.int .i64 0)), none, false, []⟩] none [1, 7, 8, 9, 10, 12])
  (.seq (.ops [⟨(some 13), .mov (.c (.int .i64 0)), none, false, []⟩] none [1, 7, 8, 9, 10, 12, 13])
  (.seq (.seq (.ops [⟨(some 34), .mov (.t 10), none, false, []⟩,
    ⟨(some 35), .len false (.t 34), none, false, []⟩,
    ⟨(some 36), .mov (.c (.int .i64 0)), none, false, []⟩] none [1, 7, 8, 9, 12, 13, 34, 35, 36])
  (.block 0 (.loop [1, 7, 8, 9, 34, 35] [12, 13, 36] 3
    (.seq (.ops [⟨(some 37), .bin .none .lss (.t 36) (.t 35), none, false, []⟩] none [1, 7, 8, 9, 12, 13, 34, 35, 36, 37])
    (.seq (.cond (.t 37)
      .skip
      (.exit 0))
    (.seq (.block 1 (.seq (.ops [⟨(some 38), .iaddr 2 none (.t 34) (.t 36), none, false, []⟩,
      ⟨(some 39), .load 2 true (.t 38), none, false, []⟩,
      ⟨(some 15), .alloc 0 [(.int .i64 0), (.int .i64 0)], none, false, []⟩,
      ⟨none, .store 2 (.t 15) (.t 39), none, false, []⟩] none [1, 7, 8, 9, 12, 13, 15, 34, 35, 36])
    (.seq (.ops [⟨(some 16), .mov (.c (.int .i64 0)), none, false, []⟩] none [1, 7, 8, 9, 12, 13, 15, 16, 34, 35, 36])
    (.block 2 (.loop [1, 7, 8, 9, 15, 34, 35, 36] [12, 13, 16] 4
      (.seq (.seq (.ops [⟨(some 40), .mov (.t 16), none, false, []⟩,
        ⟨(some 41), .faddr 1 (.t 15), none, false, []⟩,
        ⟨(some 42), .load 1 false (.t 41), none, false, []⟩,
        ⟨(some 43), .bin .none .lss (.t 40) (.t 42), none, false, []⟩] none [1, 7, 8, 9, 12, 13, 15, 16, 34, 35, 36, 43])
      (.cond (.t 43)
        .skip
        (.exit 2)))
      (.join [1, 7, 8, 9, 15, 16, 34, 35, 36] [12, 13] 4 (.block 3 (.seq (.ops [⟨(some 46), .faddr 0 (.t 15), none, false, []⟩,
          ⟨(some 47), .load 1 false (.t 46), none, false, []⟩] none [1, 7, 8, 9, 12, 13, 15, 16, 34, 35, 36, 47])
        (.block 4 (.seq (.ops [⟨(some 49), .bin .none .eql (.t 47) (.c (.int .i64 1)), none, false, []⟩,
          ⟨(some 48), .mov (.t 49), none, false, []⟩] none [1, 7, 8, 9, 12, 13, 15, 16, 34, 35, 36, 47, 48])
        (.cond (.t 48)
          (.seq (.ops [⟨(some 50), .mov (.t 12), none, false, []⟩,
            ⟨(some 51), .bin .none .add (.t 50) (.c (.int .i64 1)), none, false, []⟩,
            ⟨(some 12), .mov (.t 51), none, false, []⟩] none [1, 7, 8, 9, 12, 13, 15, 16, 34, 35, 36])
          (.ops [⟨(some 52), .mov (.t 13), none, false, []⟩,
            ⟨(some 53), .bin .none .add (.t 52) (.c (.int .i64 1)), none, false, []⟩,
            ⟨(some 13), .mov (.t 53), none, false, []⟩] none [1, 7, 8, 9, 12, 13, 15, 16, 34, 35, 36]))
          (.seq (.ops [⟨(some 55), .bin .none .eql (.t 47) (.c (.int .i64 2)), none, false, []⟩,
            ⟨(some 54), .mov (.t 55), none, false, []⟩] none [1, 7, 8, 9, 12, 13, 15, 16, 34, 35, 36, 47, 54])
          (.cond (.t 54)
            (.seq (.ops [⟨(some 56), .mov (.t 8), none, false, []⟩,
              ⟨(some 57), .mov (.t 12), none, false, []⟩,
              ⟨(some 58), .iaddr 1 none (.t 56) (.t 57), none, false, []⟩,
              ⟨none, .store 1 (.t 58) (.c (.bool true)), none, false, []⟩] none [1, 7, 8, 9, 12, 13, 15, 16, 34, 35, 36])
            (.seq (.ops [⟨(some 59), .mov (.t 7), none, false, []⟩,
              ⟨(some 60), .mov (.t 12), none, false, []⟩,
              ⟨(some 61), .iaddr 1 none (.t 59) (.t 60), none, false, []⟩,
              ⟨none, .store 1 (.t 61) (.c (.bool true)), none, false, []⟩] none [1, 7, 8, 9, 12, 13, 15, 16, 34, 35, 36])
            (.seq (.ops [⟨(some 62), .mov (.t 7), none, false, []⟩,
              ⟨(some 63), .mov (.t 12), none, false, []⟩,
              ⟨(some 64), .bin .none .add (.t 63) (.c (.int .i64 1)), none, false, []⟩,
              ⟨(some 65), .iaddr 1 none (.t 62) (.t 64), none, false, []⟩,
              ⟨none, .store 1 (.t 65) (.c (.bool true)), none, false, []⟩] none [1, 7, 8, 9, 12, 13, 15, 16, 34, 35, 36])
            (.ops [⟨(some 66), .mov (.t 12), none, false, []⟩,
              ⟨(some 67), .bin .none .add (.t 66) (.c (.int .i64 1)), none, false, []⟩,
              ⟨(some 12), .mov (.t 67), none, false, []⟩] none [1, 7, 8, 9, 12, 13, 15, 16, 34, 35, 36]))))
            (.seq (.ops [⟨(some 69), .bin .none .eql (.t 47) (.c (.int .i64 3)), none, false, []⟩,
              ⟨(some 68), .mov (.t 69), none, false, []⟩] none [1, 7, 8, 9, 12, 13, 15, 16, 34, 35, 36, 68])
            (.cond (.t 68)
              (.seq (.ops [⟨(some 70), .mov (.t 7), none, false, []⟩,
                ⟨(some 71), .mov (.t 12), none, false, []⟩,
                ⟨(some 72), .iaddr 1 none (.t 70) (.t 71), none, false, []⟩,
                ⟨none, .store 1 (.t 72) (.c (.bool true)), none, false, []⟩] none [1, 7, 8, 9, 12, 13, 15, 16, 34, 35, 36])
              (.seq (.ops [⟨(some 73), .mov (.t 9), none, false, []⟩,
                ⟨(some 74), .mov (.t 12), none, false, []⟩,
                ⟨(some 75), .mov (.t 9), none, false, []⟩,
                ⟨(some 76), .mov (.t 12), none, false, []⟩,
                ⟨(some 77), .iaddr 1 none (.t 75) (.t 76), none, false, []⟩,
                ⟨(some 78), .load 1 false (.t 77), none, false, []⟩,
                ⟨(some 79), .mov (.t 1), none, false, []⟩,
                ⟨(some 80), .mov (.t 13), none, false, []⟩,
                ⟨(some 81), .iaddr 1 none (.t 79) (.t 80), none, false, []⟩,
                ⟨(some 82), .load 1 false (.t 81), none, false, []⟩,
                ⟨(some 83), .bslice true 1 1 [(.str [])] [(0, 1, (.t 82))], none, false, []⟩,
                ⟨(some 84), .append 1 16 (.t 78) (.t 83), none, false, []⟩,
                ⟨(some 85), .iaddr 1 none (.t 73) (.t 74), none, false, []⟩,
                ⟨none, .store 1 (.t 85) (.t 84), none, false, []⟩] (some (0, 0, [0, 1, 2, 3, 4, 5, 6, 7, 8, 9, 10, 11, 12, 13])) [1, 7, 8, 9, 12, 13, 15, 16, 34, 35, 36])
              (.ops [⟨(some 86), .mov (.t 13), none, false, []⟩,
                ⟨(some 87), .bin .none .add (.t 86) (.c (.int .i64 1)), none, false, []⟩,
                ⟨(some 13), .mov (.t 87), none, false, []⟩] none [1, 7, 8, 9, 12, 13, 15, 16, 34, 35, 36])))
              .skip)))))))))
      (.ops [⟨(some 44), .mov (.t 16), none, false, []⟩,
        ⟨(some 45), .bin .none .add (.t 44) (.c (.int .i64 1)), none, false, []⟩,
        ⟨(some 16), .mov (.t 45), none, false, []⟩] none [1, 7, 8, 9, 12, 13, 15, 16, 34, 35, 36]))))))))
    (.ops [⟨(some 88), .bin .none .add (.t 36) (.c (.int .i64 1)), none, false, []⟩,
      ⟨(some 36), .mov (.t 88), none, false, []⟩] none [1, 7, 8, 9, 12, 13, 34, 35, 36])))))))
  (.seq (.ops [⟨(some 89), .mov (.t 7), none, false, []⟩,
    ⟨(some 90), .mov (.t 8), none, false, []⟩,
    ⟨(some 91), .mov (.t 9), none, false, []⟩,
    ⟨(some 4), .mov (.t 89), none, false, []⟩,
    ⟨(some 5), .mov (.t 90), none, false, []⟩,
    ⟨(some 6), .mov (.t 91), none, false, []⟩] none [4, 5, 6])
  .ret)))))))))
def ref_touched_r : List RRes := [.tmp 4, .tmp 5, .tmp 6]
def ref_touched_hi : Hi := ⟨[(20, .bool), (23, .bool), (27, (.sl .str)), (83, .str), (84, .str), (15, (.st (.cons (.int .i64) (.cons (.int .i64) .nil))))], [(0, "base"), (1, "other"), (2, "base"), (3, "other"), (7, "gaps"), (8, "gone"), (9, "puts"), (10, "steps"), (12, "at"), (13, "to"), (15, "s"), (16, "n")]⟩
def ref_touched_an : An := (.seq .d (.seq .d (.seq .d (.seq .d (.seq .d (.seq .d (.seq .d (.seq (.seq .d (.loop [8, 7, 9] [] [] (.seq .d (.seq .d (.seq (.seq .d (.seq .d (.loop [8, 7, 9] [] [] .d))) .d))))) .d))))))))
def ref_touched_fi : Fi := ⟨92, ref_touched_c, ref_touched_r, ref_touched_an, ref_touched_hi, none⟩
theorem ref_touched_ok : FiOk Try.prog f_ref_touched ref_touched_fi :=
  ⟨fun _ => by kernel_rfl, fun _ h hlen => fun_sound (by kernel_rfl) (fn := Try.f22) (draw_sound _ _) Try.func22 rfl (by kernel_rfl : comp Try.prog 92 _ ref_touched_c = some ref_touched_c) (by kernel_rfl : cRes Try.prog Try.f22.results.toList = some ref_touched_r) hlen h, fun _ h => nomatch h⟩

/-- fustian/fustianref.Merged$1: slots [0 lo, 1 hi, 2 gone, 3 puts, 5 lo, 6 hi, 7 gone, 8 puts, 10 out, 11 i] -/
def ref_Merged_1_c : SCode :=
  (.seq (.ops [⟨(some 9), .mov (.c .nils), none, false, []⟩] none [0, 1, 2, 3, 4])
  (.seq (.ops [⟨(some 10), .newnil 1, none, false, []⟩] none [0, 1, 2, 3, 4, 10])
  (.seq (.seq (.ops [⟨(some 12), .mov (.t 0), none, false, []⟩,
    ⟨(some 11), .mov (.t 12), none, false, []⟩] none [1, 2, 3, 4, 10, 11])
  (.block 0 (.loop [1, 2, 3, 4] [10, 11] 1
    (.seq (.seq (.ops [⟨(some 13), .mov (.t 11), none, false, []⟩,
      ⟨(some 14), .mov (.t 1), none, false, []⟩,
      ⟨(some 15), .bin .none .leq (.t 13) (.t 14), none, false, []⟩] none [1, 2, 3, 4, 10, 11, 15])
    (.cond (.t 15)
      .skip
      (.exit 0)))
    (.join [1, 2, 3, 4, 11] [10] 1 (.block 1 (.seq (.ops [⟨(some 18), .mov (.t 10), none, false, []⟩,
        ⟨(some 19), .mov (.t 3), none, false, []⟩,
        ⟨(some 20), .mov (.t 11), none, false, []⟩,
        ⟨(some 21), .iaddr 1 none (.t 19) (.t 20), none, false, []⟩,
        ⟨(some 22), .load 1 false (.t 21), none, false, []⟩,
        ⟨(some 23), .append 1 16 (.t 18) (.t 22), none, false, []⟩,
        ⟨(some 10), .mov (.t 23), none, false, []⟩] none [1, 2, 3, 4, 10, 11])
      (.seq (.ops [⟨(some 24), .mov (.t 11), none, false, []⟩,
        ⟨(some 25), .mov (.t 1), none, false, []⟩,
        ⟨(some 26), .bin .none .lss (.t 24) (.t 25), none, false, []⟩,
        ⟨(some 27), .mov (.t 26), none, true, []⟩,
        ⟨(some 28), .mov (.t 2), (some (27, true)), false, []⟩,
        ⟨(some 29), .mov (.t 11), (some (27, true)), false, []⟩,
        ⟨(some 30), .iaddr 1 none (.t 28) (.t 29), (some (27, true)), false, []⟩,
        ⟨(some 31), .load 1 false (.t 30), (some (27, true)), false, []⟩,
        ⟨(some 32), .not (.t 31), (some (27, true)), false, []⟩,
        ⟨(some 33), .pick (.t 27) (.t 32) (.c (.bool false)), none, false, []⟩] none [1, 2, 3, 4, 10, 11, 33])
      (.cond (.t 33)
        (.ops [⟨(some 34), .mov (.t 10), none, false, []⟩,
          ⟨(some 35), .load 1 false (.t 4), none, false, []⟩,
          ⟨(some 36), .mov (.t 11), none, false, []⟩,
          ⟨(some 37), .iaddr 1 none (.t 35) (.t 36), none, false, []⟩,
          ⟨(some 38), .load 1 false (.t 37), none, false, []⟩,
          ⟨(some 39), .bslice true 1 1 [(.str [])] [(0, 1, (.t 38))], none, false, []⟩,
          ⟨(some 40), .append 1 16 (.t 34) (.t 39), none, false, []⟩,
          ⟨(some 10), .mov (.t 40), none, false, []⟩] none [1, 2, 3, 4, 10, 11])
        .skip))))
    (.ops [⟨(some 16), .mov (.t 11), none, false, []⟩,
      ⟨(some 17), .bin .none .add (.t 16) (.c (.int .i64 1)), none, false, []⟩,
      ⟨(some 11), .mov (.t 17), none, false, []⟩] none [1, 2, 3, 4, 10, 11]))))))
  (.seq (.ops [⟨(some 41), .mov (.t 10), none, false, []⟩,
    ⟨(some 9), .mov (.t 41), none, false, []⟩] none [9])
  .ret))))
def ref_Merged_1_r : List RRes := [.tmp 9]
def ref_Merged_1_hi : Hi := ⟨[(10, .str), (23, .str), (39, .str), (40, .str)], [(0, "lo"), (1, "hi"), (2, "gone"), (3, "puts"), (5, "lo"), (6, "hi"), (7, "gone"), (8, "puts"), (10, "out"), (11, "i")]⟩
def ref_Merged_1_an : An := (.seq .d (.seq .d (.seq (.seq .d (.loop [10] [] [] .d)) .d)))
def ref_Merged_1_fi : Fi := ⟨42, ref_Merged_1_c, ref_Merged_1_r, ref_Merged_1_an, ref_Merged_1_hi, none⟩
theorem ref_Merged_1_ok : FiOk Try.prog f_ref_Merged_1 ref_Merged_1_fi :=
  ⟨fun _ => by kernel_rfl, fun _ h hlen => fun_sound (by kernel_rfl) (fn := Try.f23) (draw_sound _ _) Try.func23 rfl (by kernel_rfl : comp Try.prog 42 _ ref_Merged_1_c = some ref_Merged_1_c) (by kernel_rfl : cRes Try.prog Try.f23.results.toList = some ref_Merged_1_r) hlen h, fun _ h => nomatch h⟩

/-- fustian/fustianref.Merged: slots [0 base, 1 a, 2 b, 3 base, 4 a, 5 b, 9 e, 10 gapsA, 11 goneA, 12 putsA, 13 gapsB, 14 goneB, 15 putsB, 16 make1, 17 out, 18 clashes, 19 i, 20 hi, 21 usesA, 22 usesB, 23 k, 24 x, 25 y, 26 same, 27 k] -/
def ref_Merged_c : SCode :=
  (.seq (.ops [⟨(some 3), .box 0 (.t 0), none, false, []⟩,
    ⟨(some 6), .mov (.c .nils), none, false, []⟩,
    ⟨(some 7), .mov (.c (.int .i64 0)), none, false, []⟩,
    ⟨(some 8), .mov (.c (.int .i64 0)), none, false, []⟩] none [1, 2, 3])
  (.seq (.seq (.ops [⟨(some 28), .load 1 false (.t 3), none, false, []⟩,
    ⟨(some 29), .mov (.t 1), none, false, []⟩,
    ⟨(some 30), .mov (.t 2), none, false, []⟩,
    ⟨(some 31), .bslice true 3 1 [.nils, .nils, .nils] [(0, 1, (.t 28)), (1, 1, (.t 29)), (2, 1, (.t 30))], none, false, []⟩,
    ⟨(some 32), .call f_ref_LinesFault [(.t 31)], none, false, []⟩,
    ⟨(some 9), .mov (.t 32), none, false, []⟩] none [1, 2, 3, 9])
  (.seq (.ops [⟨(some 33), .mov (.t 9), none, false, []⟩,
    ⟨(some 34), .bin .none .neq (.t 33) (.c (.int .i64 0)), none, false, []⟩] none [1, 2, 3, 9, 34])
  (.cond (.t 34)
    (.seq (.ops [⟨(some 35), .mov (.t 9), none, false, []⟩,
      ⟨(some 6), .mov (.c .nils), none, false, []⟩,
      ⟨(some 7), .mov (.c (.int .i64 0)), none, false, []⟩,
      ⟨(some 8), .mov (.t 35), none, false, []⟩] none [6, 7, 8])
    .ret)
    .skip)))
  (.seq (.ops [⟨(some 37), .load 1 false (.t 3), none, false, []⟩,
    ⟨(some 38), .mov (.t 1), none, false, []⟩,
    ⟨(some 39), .call f_ref_touched [(.t 37), (.t 38)], none, false, []⟩,
    ⟨(some 36), .mov (.t 39), none, false, []⟩,
    ⟨(some 40), .extract (.t 36) 0, none, false, []⟩,
    ⟨(some 41), .extract (.t 36) 1, none, false, []⟩,
    ⟨(some 42), .extract (.t 36) 2, none, false, []⟩,
    ⟨(some 10), .mov (.t 40), none, false, []⟩,
    ⟨(some 11), .mov (.t 41), none, false, []⟩,
    ⟨(some 12), .mov (.t 42), none, false, []⟩] none [2, 3, 10, 11, 12])
  (.seq (.ops [⟨(some 44), .load 1 false (.t 3), none, false, []⟩,
    ⟨(some 45), .mov (.t 2), none, false, []⟩,
    ⟨(some 46), .call f_ref_touched [(.t 44), (.t 45)], none, false, []⟩,
    ⟨(some 43), .mov (.t 46), none, false, []⟩,
    ⟨(some 47), .extract (.t 43) 0, none, false, []⟩,
    ⟨(some 48), .extract (.t 43) 1, none, false, []⟩,
    ⟨(some 49), .extract (.t 43) 2, none, false, []⟩,
    ⟨(some 13), .mov (.t 47), none, false, []⟩,
    ⟨(some 14), .mov (.t 48), none, false, []⟩,
    ⟨(some 15), .mov (.t 49), none, false, []⟩] none [3, 10, 11, 12, 13, 14, 15])
  (.seq (.ops [⟨(some 50), .mkfunc (.func f_ref_Merged_1) [] [(.t 3)], none, false, []⟩,
    ⟨(some 16), .mov (.t 50), none, false, []⟩] none [3, 10, 11, 12, 13, 14, 15, 16])
  (.seq (.ops [⟨(some 17), .newnil 1, none, false, []⟩] none [3, 10, 11, 12, 13, 14, 15, 16, 17])
  (.seq (.ops [⟨(some 18), .mov (.c (.int .i64 0)), none, false, []⟩] none [3, 10, 11, 12, 13, 14, 15, 16, 17, 18])
  (.seq (.seq (.ops [⟨(some 19), .mov (.c (.int .i64 0)), none, false, []⟩] none [3, 10, 11, 12, 13, 14, 15, 16, 17, 18, 19])
  (.block 0 (.loop [3, 10, 11, 12, 13, 14, 15, 16] [17, 18, 19] 2
    (.seq (.seq (.ops [⟨(some 51), .mov (.t 19), none, false, []⟩,
      ⟨(some 52), .load 1 false (.t 3), none, false, []⟩,
      ⟨(some 53), .len false (.t 52), none, false, []⟩,
      ⟨(some 54), .bin .none .leq (.t 51) (.t 53), none, false, []⟩] none [3, 10, 11, 12, 13, 14, 15, 16, 17, 18, 19, 54])
    (.cond (.t 54)
      .skip
      (.exit 0)))
    (.join [3, 10, 11, 12, 13, 14, 15, 16] [17, 18, 19] 2 (.block 1 (.seq (.seq (.ops [⟨(some 57), .mov (.t 10), none, false, []⟩,
        ⟨(some 58), .mov (.t 19), none, false, []⟩,
        ⟨(some 59), .iaddr 1 none (.t 57) (.t 58), none, false, []⟩,
        ⟨(some 60), .load 1 false (.t 59), none, false, []⟩,
        ⟨(some 61), .not (.t 60), none, false, []⟩,
        ⟨(some 62), .mov (.t 61), none, true, []⟩,
        ⟨(some 63), .mov (.t 13), (some (62, true)), false, []⟩,
        ⟨(some 64), .mov (.t 19), (some (62, true)), false, []⟩,
        ⟨(some 65), .iaddr 1 none (.t 63) (.t 64), (some (62, true)), false, []⟩,
        ⟨(some 66), .load 1 false (.t 65), (some (62, true)), false, []⟩,
        ⟨(some 67), .not (.t 66), (some (62, true)), false, []⟩,
        ⟨(some 68), .pick (.t 62) (.t 67) (.c (.bool false)), none, false, []⟩] none [3, 10, 11, 12, 13, 14, 15, 16, 17, 18, 19, 68])
      (.cond (.t 68)
        (.join [3, 10, 11, 12, 13, 14, 15, 16, 18, 19] [17] 2 (.seq (.ops [⟨(some 69), .mov (.t 19), none, false, []⟩,
            ⟨(some 70), .load 1 false (.t 3), none, false, []⟩,
            ⟨(some 71), .len false (.t 70), none, false, []⟩,
            ⟨(some 72), .bin .none .lss (.t 69) (.t 71), none, false, []⟩] none [3, 10, 11, 12, 13, 14, 15, 16, 17, 18, 19, 72])
          (.cond (.t 72)
            (.ops [⟨(some 73), .mov (.t 17), none, false, []⟩,
              ⟨(some 74), .load 1 false (.t 3), none, false, []⟩,
              ⟨(some 75), .mov (.t 19), none, false, []⟩,
              ⟨(some 76), .iaddr 1 none (.t 74) (.t 75), none, false, []⟩,
              ⟨(some 77), .load 1 false (.t 76), none, false, []⟩,
              ⟨(some 78), .bslice true 1 1 [(.str [])] [(0, 1, (.t 77))], none, false, []⟩,
              ⟨(some 79), .append 1 16 (.t 73) (.t 78), none, false, []⟩,
              ⟨(some 17), .mov (.t 79), none, false, []⟩] none [3, 10, 11, 12, 13, 14, 15, 16, 17, 18, 19])
            .skip))
        (.exit 1))
        .skip))
      (.seq (.ops [⟨(some 80), .mov (.t 19), none, false, []⟩,
        ⟨(some 20), .mov (.t 80), none, false, []⟩] none [3, 10, 11, 12, 13, 14, 15, 16, 17, 18, 19, 20])
      (.seq (.block 2 (.loop [3, 10, 11, 12, 13, 14, 15, 16, 17, 18, 19] [20] 2
        (.seq (.seq (.ops [⟨(some 81), .mov (.t 20), none, false, []⟩,
          ⟨(some 82), .load 1 false (.t 3), none, false, []⟩,
          ⟨(some 83), .len false (.t 82), none, false, []⟩,
          ⟨(some 84), .bin .none .lss (.t 81) (.t 83), none, false, []⟩,
          ⟨(some 85), .mov (.t 84), none, true, []⟩,
          ⟨(some 86), .mov (.t 11), (some (85, true)), false, []⟩,
          ⟨(some 87), .mov (.t 20), (some (85, true)), false, []⟩,
          ⟨(some 88), .iaddr 1 none (.t 86) (.t 87), (some (85, true)), false, []⟩,
          ⟨(some 89), .load 1 false (.t 88), (some (85, true)), false, []⟩,
          ⟨(some 90), .mov (.t 89), (some (85, true)), true, []⟩,
          ⟨(some 91), .mov (.t 14), (some (90, false)), false, []⟩,
          ⟨(some 92), .mov (.t 20), (some (90, false)), false, []⟩,
          ⟨(some 93), .iaddr 1 none (.t 91) (.t 92), (some (90, false)), false, []⟩,
          ⟨(some 94), .load 1 false (.t 93), (some (90, false)), false, []⟩,
          ⟨(some 95), .pick (.t 90) (.c (.bool true)) (.t 94), (some (85, true)), false, []⟩,
          ⟨(some 96), .pick (.t 85) (.t 95) (.c (.bool false)), none, false, []⟩] none [3, 10, 11, 12, 13, 14, 15, 16, 17, 18, 19, 20, 96])
        (.cond (.t 96)
          .skip
          (.exit 2)))
        (.block 3 (.ops [⟨(some 97), .mov (.t 20), none, false, []⟩,
          ⟨(some 98), .bin .none .add (.t 97) (.c (.int .i64 1)), none, false, []⟩,
          ⟨(some 20), .mov (.t 98), none, false, []⟩] none [3, 10, 11, 12, 13, 14, 15, 16, 17, 18, 19, 20])))))
      (.seq (.ops [⟨(some 21), .mov (.c (.bool false)), none, false, []⟩] none [3, 10, 11, 12, 13, 14, 15, 16, 17, 18, 19, 20, 21])
      (.seq (.ops [⟨(some 22), .mov (.c (.bool false)), none, false, []⟩] none [3, 10, 11, 12, 13, 14, 15, 16, 17, 18, 19, 20, 21, 22])
      (.seq (.seq (.ops [⟨(some 99), .mov (.t 19), none, false, []⟩,
        ⟨(some 23), .mov (.t 99), none, false, []⟩] none [3, 10, 11, 12, 13, 14, 15, 16, 17, 18, 19, 20, 21, 22, 23])
      (.block 4 (.loop [3, 10, 11, 12, 13, 14, 15, 16, 17, 18, 19, 20] [21, 22, 23] 2
        (.seq (.seq (.ops [⟨(some 100), .mov (.t 23), none, false, []⟩,
          ⟨(some 101), .mov (.t 20), none, false, []⟩,
          ⟨(some 102), .bin .none .leq (.t 100) (.t 101), none, false, []⟩] none [3, 10, 11, 12, 13, 14, 15, 16, 17, 18, 19, 20, 21, 22, 23, 102])
        (.cond (.t 102)
          .skip
          (.exit 4)))
        (.seq (.block 5 (.seq (.ops [⟨(some 105), .mov (.t 21), none, false, []⟩,
          ⟨(some 106), .mov (.t 105), none, true, []⟩,
          ⟨(some 107), .mov (.t 10), (some (106, false)), false, []⟩,
          ⟨(some 108), .mov (.t 23), (some (106, false)), false, []⟩,
          ⟨(some 109), .iaddr 1 none (.t 107) (.t 108), (some (106, false)), false, []⟩,
          ⟨(some 110), .load 1 false (.t 109), (some (106, false)), false, []⟩,
          ⟨(some 111), .pick (.t 106) (.c (.bool true)) (.t 110), none, false, []⟩,
          ⟨(some 21), .mov (.t 111), none, false, []⟩] none [3, 10, 11, 12, 13, 14, 15, 16, 17, 18, 19, 20, 21, 22, 23])
        (.ops [⟨(some 112), .mov (.t 22), none, false, []⟩,
          ⟨(some 113), .mov (.t 112), none, true, []⟩,
          ⟨(some 114), .mov (.t 13), (some (113, false)), false, []⟩,
          ⟨(some 115), .mov (.t 23), (some (113, false)), false, []⟩,
          ⟨(some 116), .iaddr 1 none (.t 114) (.t 115), (some (113, false)), false, []⟩,
          ⟨(some 117), .load 1 false (.t 116), (some (113, false)), false, []⟩,
          ⟨(some 118), .pick (.t 113) (.c (.bool true)) (.t 117), none, false, []⟩,
          ⟨(some 22), .mov (.t 118), none, false, []⟩] none [3, 10, 11, 12, 13, 14, 15, 16, 17, 18, 19, 20, 21, 22, 23])))
        (.ops [⟨(some 103), .mov (.t 23), none, false, []⟩,
          ⟨(some 104), .bin .none .add (.t 103) (.c (.int .i64 1)), none, false, []⟩,
          ⟨(some 23), .mov (.t 104), none, false, []⟩] none [3, 10, 11, 12, 13, 14, 15, 16, 17, 18, 19, 20, 21, 22, 23]))))))
      (.seq (.ops [⟨(some 119), .mov (.t 16), none, false, []⟩,
        ⟨(some 120), .mov (.t 19), none, false, []⟩,
        ⟨(some 121), .mov (.t 20), none, false, []⟩,
        ⟨(some 122), .mov (.t 11), none, false, []⟩,
        ⟨(some 123), .mov (.t 12), none, false, []⟩,
        ⟨(some 124), .callv (.t 119) [(.t 120), (.t 121), (.t 122), (.t 123)], none, false, []⟩,
        ⟨(some 24), .mov (.t 124), none, false, []⟩] none [3, 10, 11, 12, 13, 14, 15, 16, 17, 18, 19, 20, 21, 22, 24])
      (.seq (.ops [⟨(some 125), .mov (.t 16), none, false, []⟩,
        ⟨(some 126), .mov (.t 19), none, false, []⟩,
        ⟨(some 127), .mov (.t 20), none, false, []⟩,
        ⟨(some 128), .mov (.t 14), none, false, []⟩,
        ⟨(some 129), .mov (.t 15), none, false, []⟩,
        ⟨(some 130), .callv (.t 125) [(.t 126), (.t 127), (.t 128), (.t 129)], none, false, []⟩,
        ⟨(some 25), .mov (.t 130), none, false, []⟩] none [3, 10, 11, 12, 13, 14, 15, 16, 17, 18, 20, 21, 22, 24, 25])
      (.seq (.ops [⟨(some 131), .mov (.t 24), none, false, []⟩,
        ⟨(some 132), .len false (.t 131), none, false, []⟩,
        ⟨(some 133), .mov (.t 25), none, false, []⟩,
        ⟨(some 134), .len false (.t 133), none, false, []⟩,
        ⟨(some 135), .bin .none .eql (.t 132) (.t 134), none, false, []⟩,
        ⟨(some 26), .mov (.t 135), none, false, []⟩] none [3, 10, 11, 12, 13, 14, 15, 16, 17, 18, 20, 21, 22, 24, 25, 26])
      (.seq (.seq (.ops [⟨(some 27), .mov (.c (.int .i64 0)), none, false, []⟩] none [3, 10, 11, 12, 13, 14, 15, 16, 17, 18, 20, 21, 22, 24, 25, 26, 27])
      (.block 6 (.loop [3, 10, 11, 12, 13, 14, 15, 16, 17, 18, 20, 21, 22, 24, 25] [26, 27] 2
        (.seq (.seq (.ops [⟨(some 136), .mov (.t 26), none, false, []⟩,
          ⟨(some 137), .mov (.t 136), none, true, []⟩,
          ⟨(some 138), .mov (.t 27), (some (137, true)), false, []⟩,
          ⟨(some 139), .mov (.t 24), (some (137, true)), false, []⟩,
          ⟨(some 140), .len false (.t 139), (some (137, true)), false, []⟩,
          ⟨(some 141), .bin .none .lss (.t 138) (.t 140), (some (137, true)), false, []⟩,
          ⟨(some 142), .pick (.t 137) (.t 141) (.c (.bool false)), none, false, []⟩] none [3, 10, 11, 12, 13, 14, 15, 16, 17, 18, 20, 21, 22, 24, 25, 26, 27, 142])
        (.cond (.t 142)
          .skip
          (.exit 6)))
        (.seq (.block 7 (.ops [⟨(some 145), .mov (.t 24), none, false, []⟩,
          ⟨(some 146), .mov (.t 27), none, false, []⟩,
          ⟨(some 147), .iaddr 1 none (.t 145) (.t 146), none, false, []⟩,
          ⟨(some 148), .load 1 false (.t 147), none, false, []⟩,
          ⟨(some 149), .mov (.t 25), none, false, []⟩,
          ⟨(some 150), .mov (.t 27), none, false, []⟩,
          ⟨(some 151), .iaddr 1 none (.t 149) (.t 150), none, false, []⟩,
          ⟨(some 152), .load 1 false (.t 151), none, false, []⟩,
          ⟨(some 153), .bin .none .eql (.t 148) (.t 152), none, false, []⟩,
          ⟨(some 26), .mov (.t 153), none, false, []⟩] (some (0, 0, [0, 1, 2, 3, 4, 5, 6, 7, 8, 9])) [3, 10, 11, 12, 13, 14, 15, 16, 17, 18, 20, 21, 22, 24, 25, 26, 27]))
        (.ops [⟨(some 143), .mov (.t 27), none, false, []⟩,
          ⟨(some 144), .bin .none .add (.t 143) (.c (.int .i64 1)), none, false, []⟩,
          ⟨(some 27), .mov (.t 144), none, false, []⟩] none [3, 10, 11, 12, 13, 14, 15, 16, 17, 18, 20, 21, 22, 24, 25, 26, 27]))))))
      (.join [3, 10, 11, 12, 13, 14, 15, 16, 20] [17, 18] 2 (.block 8 (.seq (.ops [⟨(some 172), .mov (.t 22), none, false, []⟩,
          ⟨(some 173), .not (.t 172), none, false, []⟩,
          ⟨(some 174), .mov (.t 173), none, true, []⟩,
          ⟨(some 175), .mov (.t 26), (some (174, false)), false, []⟩,
          ⟨(some 176), .pick (.t 174) (.c (.bool true)) (.t 175), none, false, []⟩,
          ⟨(some 171), .mov (.t 176), none, false, []⟩] none [3, 10, 11, 12, 13, 14, 15, 16, 17, 18, 20, 21, 24, 25, 171])
        (.cond (.t 171)
          (.ops [⟨(some 177), .mov (.t 17), none, false, []⟩,
            ⟨(some 178), .mov (.t 24), none, false, []⟩,
            ⟨(some 179), .append 1 16 (.t 177) (.t 178), none, false, []⟩,
            ⟨(some 17), .mov (.t 179), none, false, []⟩] none [3, 10, 11, 12, 13, 14, 15, 16, 17, 18, 20])
          (.seq (.ops [⟨(some 181), .mov (.t 21), none, false, []⟩,
            ⟨(some 182), .not (.t 181), none, false, []⟩,
            ⟨(some 180), .mov (.t 182), none, false, []⟩] none [3, 10, 11, 12, 13, 14, 15, 16, 17, 18, 20, 24, 25, 180])
          (.cond (.t 180)
            (.ops [⟨(some 183), .mov (.t 17), none, false, []⟩,
              ⟨(some 184), .mov (.t 25), none, false, []⟩,
              ⟨(some 185), .append 1 16 (.t 183) (.t 184), none, false, []⟩,
              ⟨(some 17), .mov (.t 185), none, false, []⟩] none [3, 10, 11, 12, 13, 14, 15, 16, 17, 18, 20])
            (.seq (.ops [⟨(some 154), .mov (.t 18), none, false, []⟩,
              ⟨(some 155), .bin .none .add (.t 154) (.c (.int .i64 1)), none, false, []⟩,
              ⟨(some 18), .mov (.t 155), none, false, []⟩] none [3, 10, 11, 12, 13, 14, 15, 16, 17, 18, 20, 24, 25])
            (.seq (.ops [⟨(some 156), .mov (.t 17), none, false, []⟩,
              ⟨(some 157), .bslice true 1 1 [(.str [])] [(0, 1, (.c (.str [60, 60, 60, 60, 60, 60, 60])))], none, false, []⟩,
              ⟨(some 158), .append 1 16 (.t 156) (.t 157), none, false, []⟩,
              ⟨(some 17), .mov (.t 158), none, false, []⟩] none [3, 10, 11, 12, 13, 14, 15, 16, 17, 18, 20, 24, 25])
            (.seq (.ops [⟨(some 159), .mov (.t 17), none, false, []⟩,
              ⟨(some 160), .mov (.t 24), none, false, []⟩,
              ⟨(some 161), .append 1 16 (.t 159) (.t 160), none, false, []⟩,
              ⟨(some 17), .mov (.t 161), none, false, []⟩] none [3, 10, 11, 12, 13, 14, 15, 16, 17, 18, 20, 25])
            (.seq (.ops [⟨(some 162), .mov (.t 17), none, false, []⟩,
              ⟨(some 163), .bslice true 1 1 [(.str [])] [(0, 1, (.c (.str [61, 61, 61, 61, 61, 61, 61])))], none, false, []⟩,
              ⟨(some 164), .append 1 16 (.t 162) (.t 163), none, false, []⟩,
              ⟨(some 17), .mov (.t 164), none, false, []⟩] none [3, 10, 11, 12, 13, 14, 15, 16, 17, 18, 20, 25])
            (.seq (.ops [⟨(some 165), .mov (.t 17), none, false, []⟩,
              ⟨(some 166), .mov (.t 25), none, false, []⟩,
              ⟨(some 167), .append 1 16 (.t 165) (.t 166), none, false, []⟩,
              ⟨(some 17), .mov (.t 167), none, false, []⟩] none [3, 10, 11, 12, 13, 14, 15, 16, 17, 18, 20])
            (.ops [⟨(some 168), .mov (.t 17), none, false, []⟩,
              ⟨(some 169), .bslice true 1 1 [(.str [])] [(0, 1, (.c (.str [62, 62, 62, 62, 62, 62, 62])))], none, false, []⟩,
              ⟨(some 170), .append 1 16 (.t 168) (.t 169), none, false, []⟩,
              ⟨(some 17), .mov (.t 170), none, false, []⟩] none [3, 10, 11, 12, 13, 14, 15, 16, 17, 18, 20])))))))))))
      (.join [3, 10, 11, 12, 13, 14, 15, 16, 18, 20] [17] 2 (.seq (.ops [⟨(some 186), .mov (.t 20), none, false, []⟩,
          ⟨(some 187), .load 1 false (.t 3), none, false, []⟩,
          ⟨(some 188), .len false (.t 187), none, false, []⟩,
          ⟨(some 189), .bin .none .lss (.t 186) (.t 188), none, false, []⟩] none [3, 10, 11, 12, 13, 14, 15, 16, 17, 18, 20, 189])
        (.cond (.t 189)
          (.ops [⟨(some 190), .mov (.t 17), none, false, []⟩,
            ⟨(some 191), .load 1 false (.t 3), none, false, []⟩,
            ⟨(some 192), .mov (.t 20), none, false, []⟩,
            ⟨(some 193), .iaddr 1 none (.t 191) (.t 192), none, false, []⟩,
            ⟨(some 194), .load 1 false (.t 193), none, false, []⟩,
            ⟨(some 195), .bslice true 1 1 [(.str [])] [(0, 1, (.t 194))], none, false, []⟩,
            ⟨(some 196), .append 1 16 (.t 190) (.t 195), none, false, []⟩,
            ⟨(some 17), .mov (.t 196), none, false, []⟩] none [3, 10, 11, 12, 13, 14, 15, 16, 17, 18, 20])
          .skip))
      (.ops [⟨(some 197), .mov (.t 20), none, false, []⟩,
        ⟨(some 19), .mov (.t 197), none, false, []⟩] none [3, 10, 11, 12, 13, 14, 15, 16, 17, 18, 19]))))))))))))))
    (.ops [⟨(some 55), .mov (.t 19), none, false, []⟩,
      ⟨(some 56), .bin .none .add (.t 55) (.c (.int .i64 1)), none, false, []⟩,
      ⟨(some 19), .mov (.t 56), none, false, []⟩] none [3, 10, 11, 12, 13, 14, 15, 16, 17, 18, 19]))))))
  (.seq (.ops [⟨(some 198), .mov (.t 17), none, false, []⟩,
    ⟨(some 199), .mov (.t 18), none, false, []⟩,
    ⟨(some 6), .mov (.t 198), none, false, []⟩,
    ⟨(some 7), .mov (.t 199), none, false, []⟩,
    ⟨(some 8), .mov (.c (.int .i64 0)), none, false, []⟩] none [6, 7, 8])
  .ret)))))))))
def ref_Merged_r : List RRes := [.tmp 6, .tmp 7, .tmp 8]
def ref_Merged_hi : Hi := ⟨[(31, (.sl .str)), (17, .str), (78, .str), (79, .str), (179, .str), (185, .str), (157, .str), (158, .str), (161, .str), (163, .str), (164, .str), (167, .str), (169, .str), (170, .str), (195, .str), (196, .str), (3, (.sl .str))], [(0, "base"), (1, "a"), (2, "b"), (3, "base"), (4, "a"), (5, "b"), (9, "e"), (10, "gapsA"), (11, "goneA"), (12, "putsA"), (13, "gapsB"), (14, "goneB"), (15, "putsB"), (16, "make1"), (17, "out"), (18, "clashes"), (19, "i"), (20, "hi"), (21, "usesA"), (22, "usesB"), (23, "k"), (24, "x"), (25, "y"), (26, "same"), (27, "k")]⟩
def ref_Merged_an : An := (.seq .d (.seq .d (.seq .d (.seq .d (.seq .d (.seq .d (.seq .d (.seq (.seq .d (.loop [17, 16, 11, 12, 14, 15] [] [] (.seq .d (.seq (.seq .d (.seq .d (.seq (.loop [] [] [] .d) (.seq .d (.seq .d (.seq (.seq .d (.loop [] [] [] .d)) (.seq .d (.seq .d (.seq .d (.seq (.seq .d (.loop [] [] [] .d)) .d)))))))))) .d)))) .d))))))))
def ref_Merged_fi : Fi := ⟨200, ref_Merged_c, ref_Merged_r, ref_Merged_an, ref_Merged_hi, none⟩
theorem ref_Merged_ok : FiOk Try.prog f_ref_Merged ref_Merged_fi :=
  ⟨fun _ => by kernel_rfl, fun _ h hlen => fun_sound (by kernel_rfl) (fn := Try.f6) (draw_sound _ _) Try.func6 rfl (by kernel_rfl : comp Try.prog 200 _ ref_Merged_c = some ref_Merged_c) (by kernel_rfl : cRes Try.prog Try.f6.results.toList = some ref_Merged_r) hlen h, fun _ h => nomatch h⟩

end Go.Proofs.Ytdbgppfoenoijaa.R
