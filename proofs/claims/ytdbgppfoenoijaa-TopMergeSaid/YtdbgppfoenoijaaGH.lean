/- The functions' simplified code, printed by a program of the claim's author; each is checked against the program's own code. Conditions: none. -/
import Derived.Test.YtdbgppfoenoijaaProg
import Derived.Test.YtdbgppfoenoijaaVyM
set_option linter.unusedVariables false
set_option maxRecDepth 100000
namespace Go.Proofs.Ytdbgppfoenoijaa.H
open Go.Vc
abbrev f_gosem_cut_init : Nat := 2
abbrev f_law_MergeMerges : Nat := 3
abbrev f_top_TopMerge : Nat := 4
abbrev f_merge_Merge : Nat := 5
abbrev f_ref_Merged : Nat := 6
abbrev f_law_sameTexts : Nat := 7
abbrev f_keep_TextOf : Nat := 8
abbrev f_keep_Picked : Nat := 9
abbrev f_edit_Apply : Nat := 10
abbrev f_keep_Few : Nat := 11
abbrev f_top_cutText : Nat := 12
abbrev f_diff_Cost : Nat := 13
abbrev f_top_sameTexts : Nat := 14
abbrev f_merge_Merge_1 : Nat := 15
abbrev f_slices_ContainsFunc___string_string_ : Nat := 16
abbrev f_merge_hunks : Nat := 17
abbrev f_merge_part : Nat := 18
abbrev f_merge_made : Nat := 19
abbrev f_slices_Equal___string_string_ : Nat := 20
abbrev f_ref_LinesFault : Nat := 21
abbrev f_ref_touched : Nat := 22
abbrev f_ref_Merged_1 : Nat := 23
abbrev f_edit_run : Nat := 24
abbrev f_diff_fault : Nat := 25
abbrev f_diff_costs : Nat := 26
abbrev f_slices_IndexFunc___string_string_ : Nat := 27
abbrev f_diff_Way : Nat := 28
abbrev f___merge_side__upTo : Nat := 29
abbrev f_ref_DiffSteps : Nat := 30
abbrev f_edit_Check : Nat := 31
abbrev f_edit_Undo : Nat := 32
abbrev f_edit_Made : Nat := 33
abbrev f_diff_fault_1 : Nat := 34
abbrev f_diff_add : Nat := 35
abbrev f_ref_common : Nat := 36

/-- fustian/merge.hunks: slots [0 base, 1 other, 2 base, 3 other, 5 out, 6 at, 7 to, 8 kept, 9 _, 10 s, 11 h] -/
def merge_hunks_c : SCode :=
  (.seq (.ops [⟨(some 4), .mov (.c .nils), none, false, []⟩] none [0, 1])
  (.seq (.ops [⟨(some 5), .newnil 3, none, false, []⟩] none [0, 1, 5])
  (.seq (.ops [⟨(some 6), .mov (.c (.int .i64 0)), none, false, []⟩,
    ⟨(some 7), .mov (.c (.int .i64 0)), none, false, []⟩] none [0, 1, 5, 6, 7])
  (.seq (.ops [⟨(some 8), .mov (.c (.bool true)), none, false, []⟩] none [0, 1, 5, 6, 7, 8])
  (.seq (.seq (.ops [⟨(some 12), .mov (.t 0), none, false, []⟩,
    ⟨(some 13), .mov (.t 1), none, false, []⟩,
    ⟨(some 14), .call f_diff_Way [(.t 12), (.t 13)], none, false, []⟩,
    ⟨(some 15), .len false (.t 14), none, false, []⟩,
    ⟨(some 16), .mov (.c (.int .i64 0)), none, false, []⟩] none [1, 5, 6, 7, 8, 14, 15, 16])
  (.block 0 (.loop [1, 14, 15] [5, 6, 7, 8, 16] 1
    (.seq (.ops [⟨(some 17), .bin .none .lss (.t 16) (.t 15), none, false, []⟩] none [1, 5, 6, 7, 8, 14, 15, 16, 17])
    (.seq (.cond (.t 17)
      .skip
      (.exit 0))
    (.join [1, 14, 15, 16] [5, 6, 7, 8] 2 (.block 1 (.seq (.ops [⟨(some 18), .iaddr 2 none (.t 14) (.t 16), none, false, []⟩,
        ⟨(some 19), .load 2 true (.t 18), none, false, []⟩,
        ⟨(some 10), .alloc 0 [(.int .i64 0), (.int .i64 0)], none, false, []⟩,
        ⟨none, .store 2 (.t 10) (.t 19), none, false, []⟩] none [1, 5, 6, 7, 8, 10, 14, 15, 16])
      (.seq (.seq (.ops [⟨(some 20), .faddr 0 (.t 10), none, false, []⟩,
        ⟨(some 21), .load 1 false (.t 20), none, false, []⟩,
        ⟨(some 22), .bin .none .eql (.t 21) (.c (.int .i64 1)), none, false, []⟩] none [1, 5, 6, 7, 8, 10, 14, 15, 16, 22])
      (.cond (.t 22)
        (.seq (.ops [⟨(some 23), .mov (.t 6), none, false, []⟩,
          ⟨(some 24), .faddr 1 (.t 10), none, false, []⟩,
          ⟨(some 25), .load 1 false (.t 24), none, false, []⟩,
          ⟨(some 26), .bin .none .add (.t 23) (.t 25), none, false, []⟩,
          ⟨(some 27), .mov (.t 7), none, false, []⟩,
          ⟨(some 28), .faddr 1 (.t 10), none, false, []⟩,
          ⟨(some 29), .load 1 false (.t 28), none, false, []⟩,
          ⟨(some 30), .bin .none .add (.t 27) (.t 29), none, false, []⟩,
          ⟨(some 6), .mov (.t 26), none, false, []⟩,
          ⟨(some 7), .mov (.t 30), none, false, []⟩,
          ⟨(some 8), .mov (.c (.bool true)), none, false, []⟩] (some (0, 0, [0, 1, 2, 3, 4, 5, 6, 7, 8, 9, 10])) [1, 5, 6, 7, 8, 14, 15, 16])
        (.exit 1))
        .skip))
      (.join [1, 6, 7, 10, 14, 15, 16] [5, 8] 2 (.seq (.ops [⟨(some 31), .mov (.t 8), none, false, []⟩] none [1, 5, 6, 7, 8, 10, 14, 15, 16, 31])
        (.cond (.t 31)
          (.seq (.ops [⟨(some 32), .mov (.t 5), none, false, []⟩,
            ⟨(some 33), .mov (.t 6), none, false, []⟩,
            ⟨(some 34), .mov (.t 6), none, false, []⟩,
            ⟨(some 35), .build [(.int .i64 0), (.int .i64 0), .nils] [(0, 1, (.t 33)), (1, 1, (.t 34))], none, false, []⟩,
            ⟨(some 36), .bslice true 1 3 [(.int .i64 0), (.int .i64 0), .nils] [(0, 3, (.t 35))], none, false, []⟩,
            ⟨(some 37), .append 3 40 (.t 32) (.t 36), none, false, []⟩,
            ⟨(some 5), .mov (.t 37), none, false, []⟩] none [1, 5, 6, 7, 10, 14, 15, 16])
          (.ops [⟨(some 8), .mov (.c (.bool false)), none, false, []⟩] none [1, 5, 6, 7, 8, 10, 14, 15, 16]))
          .skip))
      (.seq (.ops [⟨(some 38), .mov (.t 5), none, false, []⟩,
        ⟨(some 39), .mov (.t 5), none, false, []⟩,
        ⟨(some 40), .len false (.t 39), none, false, []⟩,
        ⟨(some 41), .bin .none .sub (.t 40) (.c (.int .i64 1)), none, false, []⟩,
        ⟨(some 42), .iaddr 3 none (.t 38) (.t 41), none, false, []⟩,
        ⟨(some 11), .mov (.t 42), none, false, []⟩] none [1, 5, 6, 7, 8, 10, 11, 14, 15, 16])
      (.seq (.ops [⟨(some 43), .faddr 0 (.t 10), none, false, []⟩,
        ⟨(some 44), .load 1 false (.t 43), none, false, []⟩,
        ⟨(some 45), .bin .none .eql (.t 44) (.c (.int .i64 2)), none, false, []⟩] none [1, 5, 6, 7, 8, 10, 11, 14, 15, 16, 45])
      (.cond (.t 45)
        (.seq (.ops [⟨(some 46), .mov (.t 6), none, false, []⟩,
          ⟨(some 47), .faddr 1 (.t 10), none, false, []⟩,
          ⟨(some 48), .load 1 false (.t 47), none, false, []⟩,
          ⟨(some 49), .bin .none .add (.t 46) (.t 48), none, false, []⟩,
          ⟨(some 6), .mov (.t 49), none, false, []⟩] none [1, 5, 6, 7, 8, 11, 14, 15, 16])
        (.ops [⟨(some 50), .mov (.t 11), none, false, []⟩,
          ⟨(some 51), .mov (.t 6), none, false, []⟩,
          ⟨(some 52), .nilchk (.t 50), none, false, []⟩,
          ⟨(some 53), .faddr 1 (.t 52), none, false, []⟩,
          ⟨none, .store 1 (.t 53) (.t 51), none, false, []⟩] none [1, 5, 6, 7, 8, 14, 15, 16]))
        (.seq (.ops [⟨(some 54), .mov (.t 11), none, false, []⟩,
          ⟨(some 55), .mov (.t 11), none, false, []⟩,
          ⟨(some 56), .nilchk (.t 55), none, false, []⟩,
          ⟨(some 57), .faddr 2 (.t 56), none, false, []⟩,
          ⟨(some 58), .load 1 false (.t 57), none, false, []⟩,
          ⟨(some 59), .mov (.t 1), none, false, []⟩,
          ⟨(some 60), .mov (.t 7), none, false, []⟩,
          ⟨(some 61), .mov (.t 7), none, false, []⟩,
          ⟨(some 62), .faddr 1 (.t 10), none, false, []⟩,
          ⟨(some 63), .load 1 false (.t 62), none, false, []⟩,
          ⟨(some 64), .bin .none .add (.t 61) (.t 63), none, false, []⟩,
          ⟨(some 65), .slice 1 (.t 59) (some (.t 60)) (some (.t 64)), none, false, []⟩,
          ⟨(some 66), .append 1 16 (.t 58) (.t 65), none, false, []⟩,
          ⟨(some 67), .nilchk (.t 54), none, false, []⟩,
          ⟨(some 68), .faddr 2 (.t 67), none, false, []⟩,
          ⟨none, .store 1 (.t 68) (.t 66), none, false, []⟩] (some (0, 0, [0, 1, 2, 3, 4, 5, 6, 7, 8, 9, 10, 11, 12, 13, 14, 15])) [1, 5, 6, 7, 8, 10, 14, 15, 16])
        (.ops [⟨(some 69), .mov (.t 7), none, false, []⟩,
          ⟨(some 70), .faddr 1 (.t 10), none, false, []⟩,
          ⟨(some 71), .load 1 false (.t 70), none, false, []⟩,
          ⟨(some 72), .bin .none .add (.t 69) (.t 71), none, false, []⟩,
          ⟨(some 7), .mov (.t 72), none, false, []⟩] none [1, 5, 6, 7, 8, 14, 15, 16])))))))))
    (.ops [⟨(some 73), .bin .none .add (.t 16) (.c (.int .i64 1)), none, false, []⟩,
      ⟨(some 16), .mov (.t 73), none, false, []⟩] none [1, 5, 6, 7, 8, 14, 15, 16])))))))
  (.seq (.ops [⟨(some 74), .mov (.t 5), none, false, []⟩,
    ⟨(some 4), .mov (.t 74), none, false, []⟩] none [4])
  .ret))))))
def merge_hunks_r : List RRes := [.tmp 4]
def merge_hunks_hi : Hi := ⟨[(5, (.st (.cons (.int .i64) (.cons (.int .i64) (.cons (.sl .str) .nil))))), (36, (.st (.cons (.int .i64) (.cons (.int .i64) (.cons (.sl .str) .nil))))), (37, (.st (.cons (.int .i64) (.cons (.int .i64) (.cons (.sl .str) .nil))))), (66, .str), (10, (.st (.cons (.int .i64) (.cons (.int .i64) .nil)))), (11, (.st (.cons (.int .i64) (.cons (.int .i64) (.cons (.sl .str) .nil))))), (50, (.st (.cons (.int .i64) (.cons (.int .i64) (.cons (.sl .str) .nil))))), (54, (.st (.cons (.int .i64) (.cons (.int .i64) (.cons (.sl .str) .nil))))), (55, (.st (.cons (.int .i64) (.cons (.int .i64) (.cons (.sl .str) .nil)))))], [(0, "base"), (1, "other"), (2, "base"), (3, "other"), (5, "out"), (6, "at"), (7, "to"), (8, "kept"), (10, "s"), (11, "h")]⟩
def merge_hunks_an : An := (.seq .d (.seq .d (.seq .d (.seq .d (.seq (.seq .d (.loop [5] [] [] .d)) .d)))))
def merge_hunks_fi : Fi := ⟨75, merge_hunks_c, merge_hunks_r, merge_hunks_an, merge_hunks_hi, none⟩
theorem merge_hunks_ok : FiOk Try.prog f_merge_hunks merge_hunks_fi :=
  ⟨fun _ => by kernel_rfl, fun _ h hlen => fun_sound (by kernel_rfl) (fn := Try.f17) (draw_sound _ _) Try.func17 rfl (by kernel_rfl : comp Try.prog 75 _ merge_hunks_c = some merge_hunks_c) (by kernel_rfl : cRes Try.prog Try.f17.results.toList = some merge_hunks_r) hlen h, fun _ h => nomatch h⟩

/-- (*fustian/merge.side).upTo: slots [0 s, 1 hi, 2 s, 3 hi, 6 n, 7 out] -/
def __merge_side__upTo_c : SCode :=
  (.seq (.ops [⟨(some 4), .mov (.c .nils), none, false, []⟩,
    ⟨(some 5), .mov (.c (.int .i64 0)), none, false, []⟩] none [0, 1])
  (.seq (.ops [⟨(some 6), .mov (.c (.int .i64 0)), none, false, []⟩] none [0, 1, 6])
  (.seq (.block 0 (.loop [0] [1, 6] 0
    (.seq (.seq (.ops [⟨(some 8), .mov (.t 6), none, false, []⟩,
      ⟨(some 9), .mov (.t 0), none, false, []⟩,
      ⟨(some 10), .nilchk (.t 9), none, false, []⟩,
      ⟨(some 11), .faddr 0 (.t 10), none, false, []⟩,
      ⟨(some 12), .load 1 false (.t 11), none, false, []⟩,
      ⟨(some 13), .len false (.t 12), none, false, []⟩,
      ⟨(some 14), .bin .none .lss (.t 8) (.t 13), none, false, []⟩,
      ⟨(some 15), .mov (.t 14), none, true, []⟩,
      ⟨(some 16), .mov (.t 0), (some (15, true)), false, []⟩,
      ⟨(some 17), .nilchk (.t 16), (some (15, true)), false, []⟩,
      ⟨(some 18), .faddr 0 (.t 17), (some (15, true)), false, []⟩,
      ⟨(some 19), .load 1 false (.t 18), (some (15, true)), false, []⟩,
      ⟨(some 20), .mov (.t 6), (some (15, true)), false, []⟩,
      ⟨(some 21), .iaddr 3 none (.t 19) (.t 20), (some (15, true)), false, []⟩,
      ⟨(some 22), .faddr 0 (.t 21), (some (15, true)), false, []⟩,
      ⟨(some 23), .load 1 false (.t 22), (some (15, true)), false, []⟩,
      ⟨(some 24), .mov (.t 1), (some (15, true)), false, []⟩,
      ⟨(some 25), .bin .none .leq (.t 23) (.t 24), (some (15, true)), false, []⟩,
      ⟨(some 26), .pick (.t 15) (.t 25) (.c (.bool false)), none, false, []⟩] none [0, 1, 6, 26])
    (.cond (.t 26)
      .skip
      (.exit 0)))
    (.block 1 (.seq (.ops [⟨(some 27), .mov (.t 1), none, false, []⟩,
      ⟨(some 28), .mov (.t 0), none, false, []⟩,
      ⟨(some 29), .nilchk (.t 28), none, false, []⟩,
      ⟨(some 30), .faddr 0 (.t 29), none, false, []⟩,
      ⟨(some 31), .load 1 false (.t 30), none, false, []⟩,
      ⟨(some 32), .mov (.t 6), none, false, []⟩,
      ⟨(some 33), .iaddr 3 none (.t 31) (.t 32), none, false, []⟩,
      ⟨(some 34), .faddr 1 (.t 33), none, false, []⟩,
      ⟨(some 35), .load 1 false (.t 34), none, false, []⟩,
      ⟨(some 36), .max [(.t 27), (.t 35)], none, false, []⟩,
      ⟨(some 1), .mov (.t 36), none, false, []⟩] none [0, 1, 6])
    (.ops [⟨(some 37), .mov (.t 6), none, false, []⟩,
      ⟨(some 38), .bin .none .add (.t 37) (.c (.int .i64 1)), none, false, []⟩,
      ⟨(some 6), .mov (.t 38), none, false, []⟩] none [0, 1, 6]))))))
  (.seq (.ops [⟨(some 39), .mov (.t 0), none, false, []⟩,
    ⟨(some 40), .nilchk (.t 39), none, false, []⟩,
    ⟨(some 41), .faddr 0 (.t 40), none, false, []⟩,
    ⟨(some 42), .load 1 false (.t 41), none, false, []⟩,
    ⟨(some 43), .mov (.t 6), none, false, []⟩,
    ⟨(some 44), .slice 3 (.t 42) none (some (.t 43)), none, false, []⟩,
    ⟨(some 7), .mov (.t 44), none, false, []⟩] none [0, 1, 6, 7])
  (.seq (.ops [⟨(some 45), .mov (.t 0), none, false, []⟩,
    ⟨(some 46), .mov (.t 0), none, false, []⟩,
    ⟨(some 47), .nilchk (.t 46), none, false, []⟩,
    ⟨(some 48), .faddr 0 (.t 47), none, false, []⟩,
    ⟨(some 49), .load 1 false (.t 48), none, false, []⟩,
    ⟨(some 50), .mov (.t 6), none, false, []⟩,
    ⟨(some 51), .slice 3 (.t 49) (some (.t 50)) none, none, false, []⟩,
    ⟨(some 52), .nilchk (.t 45), none, false, []⟩,
    ⟨(some 53), .faddr 0 (.t 52), none, false, []⟩,
    ⟨none, .store 1 (.t 53) (.t 51), none, false, []⟩] none [1, 7])
  (.seq (.ops [⟨(some 54), .mov (.t 7), none, false, []⟩,
    ⟨(some 55), .mov (.t 1), none, false, []⟩,
    ⟨(some 4), .mov (.t 54), none, false, []⟩,
    ⟨(some 5), .mov (.t 55), none, false, []⟩] none [4, 5])
  .ret))))))
def __merge_side__upTo_r : List RRes := [.tmp 4, .tmp 5]
def __merge_side__upTo_hi : Hi := ⟨[(9, (.st (.cons (.sl (.st (.cons (.int .i64) (.cons (.int .i64) (.cons (.sl .str) .nil))))) .nil))), (16, (.st (.cons (.sl (.st (.cons (.int .i64) (.cons (.int .i64) (.cons (.sl .str) .nil))))) .nil))), (28, (.st (.cons (.sl (.st (.cons (.int .i64) (.cons (.int .i64) (.cons (.sl .str) .nil))))) .nil))), (39, (.st (.cons (.sl (.st (.cons (.int .i64) (.cons (.int .i64) (.cons (.sl .str) .nil))))) .nil))), (45, (.st (.cons (.sl (.st (.cons (.int .i64) (.cons (.int .i64) (.cons (.sl .str) .nil))))) .nil))), (46, (.st (.cons (.sl (.st (.cons (.int .i64) (.cons (.int .i64) (.cons (.sl .str) .nil))))) .nil))), (0, (.st (.cons (.sl (.st (.cons (.int .i64) (.cons (.int .i64) (.cons (.sl .str) .nil))))) .nil)))], [(0, "s"), (1, "hi"), (2, "s"), (3, "hi"), (6, "n"), (7, "out")]⟩
def __merge_side__upTo_an : An := (.seq .d (.seq .d (.seq (.loop [] [] [] .d) .d)))
def __merge_side__upTo_fi : Fi := ⟨56, __merge_side__upTo_c, __merge_side__upTo_r, __merge_side__upTo_an, __merge_side__upTo_hi, none⟩
theorem __merge_side__upTo_ok : FiOk Try.prog f___merge_side__upTo __merge_side__upTo_fi :=
  ⟨fun _ => by kernel_rfl, fun _ h hlen => fun_sound (by kernel_rfl) (fn := Try.f29) (draw_sound _ _) Try.func29 rfl (by kernel_rfl : comp Try.prog 56 _ __merge_side__upTo_c = some __merge_side__upTo_c) (by kernel_rfl : cRes Try.prog Try.f29.results.toList = some __merge_side__upTo_r) hlen h, fun _ h => nomatch h⟩

/-- fustian/merge.made: slots [0 base, 1 lo, 2 hi, 3 l, 4 base, 5 lo, 6 hi, 7 l, 9 out, 10 _, 11 h] -/
def merge_made_c : SCode :=
  (.seq (.ops [⟨(some 8), .mov (.c .nils), none, false, []⟩] none [0, 1, 2, 3])
  (.seq (.ops [⟨(some 9), .newnil 1, none, false, []⟩] none [0, 1, 2, 3, 9])
  (.seq (.seq (.ops [⟨(some 12), .mov (.t 3), none, false, []⟩,
    ⟨(some 13), .len false (.t 12), none, false, []⟩,
    ⟨(some 14), .mov (.c (.int .i64 0)), none, false, []⟩] none [0, 1, 2, 9, 12, 13, 14])
  (.block 0 (.loop [0, 2, 12, 13] [1, 9, 14] 1
    (.seq (.ops [⟨(some 15), .bin .none .lss (.t 14) (.t 13), none, false, []⟩] none [0, 1, 2, 9, 12, 13, 14, 15])
    (.seq (.cond (.t 15)
      .skip
      (.exit 0))
    (.seq (.block 1 (.seq (.ops [⟨(some 16), .iaddr 3 none (.t 12) (.t 14), none, false, []⟩,
      ⟨(some 17), .load 3 true (.t 16), none, false, []⟩,
      ⟨(some 11), .alloc 0 [(.int .i64 0), (.int .i64 0), .nils], none, false, []⟩,
      ⟨none, .store 3 (.t 11) (.t 17), none, false, []⟩] none [0, 1, 2, 9, 11, 12, 13, 14])
    (.seq (.ops [⟨(some 18), .mov (.t 9), none, false, []⟩,
      ⟨(some 19), .mov (.t 0), none, false, []⟩,
      ⟨(some 20), .mov (.t 1), none, false, []⟩,
      ⟨(some 21), .faddr 0 (.t 11), none, false, []⟩,
      ⟨(some 22), .load 1 false (.t 21), none, false, []⟩,
      ⟨(some 23), .slice 1 (.t 19) (some (.t 20)) (some (.t 22)), none, false, []⟩,
      ⟨(some 25), .faddr 2 (.t 11), none, false, []⟩,
      ⟨(some 26), .load 1 false (.t 25), none, false, []⟩,
      ⟨(some 24), .append 1 16 (.t 18) (.t 23), none, false, [(26, 1, false, (.t 25))]⟩,
      ⟨none, .again 26 1 false (.t 25), none, false, []⟩,
      ⟨(some 27), .append 1 16 (.t 24) (.t 26), none, false, []⟩,
      ⟨(some 9), .mov (.t 27), none, false, []⟩] (some (0, 0, [0, 1, 2, 3, 4, 5, 7, 8, 6, 9, 10])) [0, 2, 9, 11, 12, 13, 14])
    (.ops [⟨(some 28), .faddr 1 (.t 11), none, false, []⟩,
      ⟨(some 29), .load 1 false (.t 28), none, false, []⟩,
      ⟨(some 1), .mov (.t 29), none, false, []⟩] none [0, 1, 2, 9, 12, 13, 14]))))
    (.ops [⟨(some 30), .bin .none .add (.t 14) (.c (.int .i64 1)), none, false, []⟩,
      ⟨(some 14), .mov (.t 30), none, false, []⟩] none [0, 1, 2, 9, 12, 13, 14])))))))
  (.seq (.ops [⟨(some 31), .mov (.t 9), none, false, []⟩,
    ⟨(some 32), .mov (.t 0), none, false, []⟩,
    ⟨(some 33), .mov (.t 1), none, false, []⟩,
    ⟨(some 34), .mov (.t 2), none, false, []⟩,
    ⟨(some 35), .slice 1 (.t 32) (some (.t 33)) (some (.t 34)), none, false, []⟩,
    ⟨(some 36), .append 1 16 (.t 31) (.t 35), none, false, []⟩,
    ⟨(some 8), .mov (.t 36), none, false, []⟩] none [8])
  .ret))))
def merge_made_r : List RRes := [.tmp 8]
def merge_made_hi : Hi := ⟨[(9, .str), (24, .str), (27, .str), (36, .str), (11, (.st (.cons (.int .i64) (.cons (.int .i64) (.cons (.sl .str) .nil)))))], [(0, "base"), (1, "lo"), (2, "hi"), (3, "l"), (4, "base"), (5, "lo"), (6, "hi"), (7, "l"), (9, "out"), (11, "h")]⟩
def merge_made_an : An := (.seq .d (.seq .d (.seq (.seq .d (.loop [9] [] [] .d)) .d)))
def merge_made_fi : Fi := ⟨37, merge_made_c, merge_made_r, merge_made_an, merge_made_hi, none⟩
theorem merge_made_ok : FiOk Try.prog f_merge_made merge_made_fi :=
  ⟨fun _ => by kernel_rfl, fun _ h hlen => fun_sound (by kernel_rfl) (fn := Try.f19) (draw_sound _ _) Try.func19 rfl (by kernel_rfl : comp Try.prog 37 _ merge_made_c = some merge_made_c) (by kernel_rfl : cRes Try.prog Try.f19.results.toList = some merge_made_r) hlen h, fun _ h => nomatch h⟩

/-- fustian/merge.part: slots [0 a, 1 b, 2 a, 3 b, 4 lo, 5 hi, 6 x, 7 y, 8 _, 9 s, 10 p, 11 to, 12 q, 13 end] -/
def merge_part_c : SCode :=
  (.seq (.ops [⟨(some 4), .mov (.c (.int .i64 0)), none, false, []⟩,
    ⟨(some 5), .mov (.c (.int .i64 0)), none, false, []⟩,
    ⟨(some 6), .newnil 3, none, false, []⟩,
    ⟨(some 7), .newnil 3, none, false, []⟩] none [0, 1, 6, 7])
  (.seq (.ops [⟨(some 4), .mov (.c (.int .i64 1099511627776)), none, false, []⟩] none [0, 1, 4, 6, 7])
  (.seq (.seq (.ops [⟨(some 14), .mov (.t 0), none, false, []⟩,
    ⟨(some 15), .mov (.t 1), none, false, []⟩,
    ⟨(some 16), .build [.nilp, .nilp] [(0, 1, (.t 14)), (1, 1, (.t 15))], none, false, []⟩,
    ⟨(some 17), .mov (.c (.int .i64 0)), none, false, []⟩] none [0, 1, 4, 6, 7, 16, 17])
  (.block 0 (.loop [0, 1, 6, 7, 16] [4, 17] 2
    (.seq (.ops [⟨(some 18), .bin .none .lss (.t 17) (.c (.int .i64 2)), none, false, []⟩] none [0, 1, 4, 6, 7, 16, 17, 18])
    (.seq (.cond (.t 18)
      .skip
      (.exit 0))
    (.join [0, 1, 6, 7, 16, 17] [4] 2 (.block 1 (.seq (.ops [⟨(some 19), .index 1 (some 2) false (.t 16) (.t 17), none, false, []⟩,
        ⟨(some 9), .mov (.t 19), none, false, []⟩] none [0, 1, 4, 6, 7, 9, 16, 17])
      (.seq (.ops [⟨(some 20), .mov (.t 9), none, false, []⟩,
        ⟨(some 21), .nilchk (.t 20), none, false, []⟩,
        ⟨(some 22), .faddr 0 (.t 21), none, false, []⟩,
        ⟨(some 23), .load 1 false (.t 22), none, false, []⟩,
        ⟨(some 24), .len false (.t 23), none, false, []⟩,
        ⟨(some 25), .bin .none .gtr (.t 24) (.c (.int .i64 0)), none, false, []⟩] none [0, 1, 4, 6, 7, 9, 16, 17, 25])
      (.cond (.t 25)
        (.ops [⟨(some 26), .mov (.t 4), none, false, []⟩,
          ⟨(some 27), .mov (.t 9), none, false, []⟩,
          ⟨(some 28), .nilchk (.t 27), none, false, []⟩,
          ⟨(some 29), .faddr 0 (.t 28), none, false, []⟩,
          ⟨(some 30), .load 1 false (.t 29), none, false, []⟩,
          ⟨(some 31), .iaddr 3 none (.t 30) (.c (.int .i64 0)), none, false, []⟩,
          ⟨(some 32), .faddr 0 (.t 31), none, false, []⟩,
          ⟨(some 33), .load 1 false (.t 32), none, false, []⟩,
          ⟨(some 34), .min [(.t 26), (.t 33)], none, false, []⟩,
          ⟨(some 4), .mov (.t 34), none, false, []⟩] none [0, 1, 4, 6, 7, 16, 17])
        .skip))))
    (.ops [⟨(some 35), .bin .none .add (.t 17) (.c (.int .i64 1)), none, false, []⟩,
      ⟨(some 17), .mov (.t 35), none, false, []⟩] none [0, 1, 4, 6, 7, 16, 17])))))))
  (.seq (.ops [⟨(some 36), .mov (.t 4), none, false, []⟩,
    ⟨(some 5), .mov (.t 36), none, false, []⟩] none [0, 1, 4, 5, 6, 7])
  (.block 2 (.loop [0, 1] [4, 5, 6, 7] 2
    (.block 3 (.seq (.ops [⟨(some 38), .mov (.t 0), none, false, []⟩,
      ⟨(some 39), .mov (.t 5), none, false, []⟩,
      ⟨(some 40), .call f___merge_side__upTo [(.t 38), (.t 39)], none, false, []⟩,
      ⟨(some 37), .mov (.t 40), none, false, []⟩,
      ⟨(some 41), .extract (.t 37) 0, none, false, []⟩,
      ⟨(some 42), .extract (.t 37) 1, none, false, []⟩,
      ⟨(some 10), .mov (.t 41), none, false, []⟩,
      ⟨(some 11), .mov (.t 42), none, false, []⟩] none [0, 1, 4, 5, 6, 7, 10, 11])
    (.seq (.ops [⟨(some 44), .mov (.t 1), none, false, []⟩,
      ⟨(some 45), .mov (.t 11), none, false, []⟩,
      ⟨(some 46), .call f___merge_side__upTo [(.t 44), (.t 45)], none, false, []⟩,
      ⟨(some 43), .mov (.t 46), none, false, []⟩,
      ⟨(some 47), .extract (.t 43) 0, none, false, []⟩,
      ⟨(some 48), .extract (.t 43) 1, none, false, []⟩,
      ⟨(some 12), .mov (.t 47), none, false, []⟩,
      ⟨(some 13), .mov (.t 48), none, false, []⟩] none [0, 1, 4, 5, 6, 7, 10, 12, 13])
    (.seq (.ops [⟨(some 49), .mov (.t 6), none, false, []⟩,
      ⟨(some 50), .mov (.t 10), none, false, []⟩,
      ⟨(some 51), .append 3 40 (.t 49) (.t 50), none, false, []⟩,
      ⟨(some 52), .mov (.t 7), none, false, []⟩,
      ⟨(some 53), .mov (.t 12), none, false, []⟩,
      ⟨(some 54), .append 3 40 (.t 52) (.t 53), none, false, []⟩,
      ⟨(some 6), .mov (.t 51), none, false, []⟩,
      ⟨(some 7), .mov (.t 54), none, false, []⟩] none [0, 1, 4, 5, 6, 7, 10, 12, 13])
    (.seq (.seq (.ops [⟨(some 55), .mov (.t 10), none, false, []⟩,
      ⟨(some 56), .len false (.t 55), none, false, []⟩,
      ⟨(some 57), .mov (.t 12), none, false, []⟩,
      ⟨(some 58), .len false (.t 57), none, false, []⟩,
      ⟨(some 59), .bin .none .add (.t 56) (.t 58), none, false, []⟩,
      ⟨(some 60), .bin .none .eql (.t 59) (.c (.int .i64 0)), none, false, []⟩] none [0, 1, 4, 5, 6, 7, 13, 60])
    (.cond (.t 60)
      (.seq (.ops [⟨(some 61), .mov (.t 4), none, false, []⟩,
        ⟨(some 62), .mov (.t 5), none, false, []⟩,
        ⟨(some 63), .mov (.t 6), none, false, []⟩,
        ⟨(some 64), .mov (.t 7), none, false, []⟩,
        ⟨(some 4), .mov (.t 61), none, false, []⟩,
        ⟨(some 5), .mov (.t 62), none, false, []⟩,
        ⟨(some 6), .mov (.t 63), none, false, []⟩,
        ⟨(some 7), .mov (.t 64), none, false, []⟩] none [4, 5, 6, 7])
      .ret)
      .skip))
    (.ops [⟨(some 65), .mov (.t 13), none, false, []⟩,
      ⟨(some 5), .mov (.t 65), none, false, []⟩] none [0, 1, 4, 5, 6, 7]))))))))))))
def merge_part_r : List RRes := [.tmp 4, .tmp 5, .tmp 6, .tmp 7]
def merge_part_hi : Hi := ⟨[(6, (.st (.cons (.int .i64) (.cons (.int .i64) (.cons (.sl .str) .nil))))), (7, (.st (.cons (.int .i64) (.cons (.int .i64) (.cons (.sl .str) .nil))))), (51, (.st (.cons (.int .i64) (.cons (.int .i64) (.cons (.sl .str) .nil))))), (54, (.st (.cons (.int .i64) (.cons (.int .i64) (.cons (.sl .str) .nil))))), (14, (.st (.cons (.sl (.st (.cons (.int .i64) (.cons (.int .i64) (.cons (.sl .str) .nil))))) .nil))), (15, (.st (.cons (.sl (.st (.cons (.int .i64) (.cons (.int .i64) (.cons (.sl .str) .nil))))) .nil))), (19, (.st (.cons (.sl (.st (.cons (.int .i64) (.cons (.int .i64) (.cons (.sl .str) .nil))))) .nil))), (9, (.st (.cons (.sl (.st (.cons (.int .i64) (.cons (.int .i64) (.cons (.sl .str) .nil))))) .nil))), (20, (.st (.cons (.sl (.st (.cons (.int .i64) (.cons (.int .i64) (.cons (.sl .str) .nil))))) .nil))), (27, (.st (.cons (.sl (.st (.cons (.int .i64) (.cons (.int .i64) (.cons (.sl .str) .nil))))) .nil))), (38, (.st (.cons (.sl (.st (.cons (.int .i64) (.cons (.int .i64) (.cons (.sl .str) .nil))))) .nil))), (44, (.st (.cons (.sl (.st (.cons (.int .i64) (.cons (.int .i64) (.cons (.sl .str) .nil))))) .nil))), (0, (.st (.cons (.sl (.st (.cons (.int .i64) (.cons (.int .i64) (.cons (.sl .str) .nil))))) .nil))), (1, (.st (.cons (.sl (.st (.cons (.int .i64) (.cons (.int .i64) (.cons (.sl .str) .nil))))) .nil)))], [(0, "a"), (1, "b"), (2, "a"), (3, "b"), (4, "lo"), (5, "hi"), (6, "x"), (7, "y"), (9, "s"), (10, "p"), (11, "to"), (12, "q"), (13, "end")]⟩
def merge_part_an : An := (.seq .d (.seq .d (.seq (.seq .d (.loop [] [] [] .d)) (.seq .d (.loop [0, 1, 6, 7] [] [] .d)))))
def merge_part_fi : Fi := ⟨66, merge_part_c, merge_part_r, merge_part_an, merge_part_hi, none⟩
theorem merge_part_ok : FiOk Try.prog f_merge_part merge_part_fi :=
  ⟨fun _ => by kernel_rfl, fun _ h hlen => fun_sound (by kernel_rfl) (fn := Try.f18) (draw_sound _ _) Try.func18 rfl (by kernel_rfl : comp Try.prog 66 _ merge_part_c = some merge_part_c) (by kernel_rfl : cRes Try.prog Try.f18.results.toList = some merge_part_r) hlen h, fun _ h => nomatch h⟩

/-- fustian/merge.Merge: slots [0 base, 1 a, 2 b, 3 base, 4 a, 5 b, 6 lines, 7 clashes, 8 e, 9 long, 10 _, 11 l, 12 p, 13 q, 14 at, 15 lo, 16 hi, 17 x, 18 y, 19 u, 20 v] -/
def merge_Merge_c : SCode :=
  (.seq (.ops [⟨(some 6), .newnil 1, none, false, []⟩,
    ⟨(some 7), .mov (.c (.int .i64 0)), none, false, []⟩,
    ⟨(some 8), .mov (.c (.int .i64 0)), none, false, []⟩] none [0, 1, 2, 6, 7])
  (.seq (.ops [⟨(some 9), .mov (.c (.fn (.func f_merge_Merge_1) [] [])), none, false, []⟩] none [0, 1, 2, 6, 7, 9])
  (.seq (.seq (.ops [⟨(some 21), .mov (.t 0), none, false, []⟩,
    ⟨(some 22), .mov (.t 1), none, false, []⟩,
    ⟨(some 23), .mov (.t 2), none, false, []⟩,
    ⟨(some 24), .build [.nils, .nils, .nils] [(0, 1, (.t 21)), (1, 1, (.t 22)), (2, 1, (.t 23))], none, false, []⟩,
    ⟨(some 25), .mov (.c (.int .i64 0)), none, false, []⟩] none [0, 1, 2, 6, 7, 9, 24, 25])
  (.block 0 (.loop [0, 1, 2, 9, 24] [6, 7, 25] 1
    (.seq (.ops [⟨(some 26), .bin .none .lss (.t 25) (.c (.int .i64 3)), none, false, []⟩] none [0, 1, 2, 6, 7, 9, 24, 25, 26])
    (.seq (.cond (.t 26)
      .skip
      (.exit 0))
    (.seq (.block 1 (.seq (.ops [⟨(some 27), .index 1 (some 3) false (.t 24) (.t 25), none, false, []⟩,
      ⟨(some 11), .mov (.t 27), none, false, []⟩] none [0, 1, 2, 6, 7, 9, 11, 24, 25])
    (.seq (.ops [⟨(some 28), .mov (.t 11), none, false, []⟩,
      ⟨(some 29), .len false (.t 28), none, false, []⟩,
      ⟨(some 30), .bin .none .gtr (.t 29) (.c (.int .i64 80)), none, false, []⟩,
      ⟨(some 31), .mov (.t 30), none, true, []⟩,
      ⟨(some 32), .mov (.t 11), (some (31, false)), false, []⟩,
      ⟨(some 33), .mov (.t 9), (some (31, false)), false, []⟩,
      ⟨(some 34), .call f_slices_ContainsFunc___string_string_ [(.t 32), (.t 33)], (some (31, false)), false, []⟩,
      ⟨(some 35), .pick (.t 31) (.c (.bool true)) (.t 34), none, false, []⟩] none [0, 1, 2, 6, 7, 9, 24, 25, 35])
    (.cond (.t 35)
      (.seq (.ops [⟨(some 6), .newnil 1, none, false, []⟩,
        ⟨(some 7), .mov (.c (.int .i64 0)), none, false, []⟩,
        ⟨(some 8), .mov (.c (.int .i64 1)), none, false, []⟩] none [6, 7, 8])
      .ret)
      .skip))))
    (.ops [⟨(some 36), .bin .none .add (.t 25) (.c (.int .i64 1)), none, false, []⟩,
      ⟨(some 25), .mov (.t 36), none, false, []⟩] none [0, 1, 2, 6, 7, 9, 24, 25])))))))
  (.seq (.ops [⟨(some 37), .mov (.t 0), none, false, []⟩,
    ⟨(some 38), .mov (.t 1), none, false, []⟩,
    ⟨(some 39), .call f_merge_hunks [(.t 37), (.t 38)], none, false, []⟩,
    ⟨(some 40), .build [.nils] [(0, 1, (.t 39))], none, false, []⟩,
    ⟨(some 41), .box 0 (.t 40), none, false, []⟩,
    ⟨(some 42), .mov (.t 0), none, false, []⟩,
    ⟨(some 43), .mov (.t 2), none, false, []⟩,
    ⟨(some 44), .call f_merge_hunks [(.t 42), (.t 43)], none, false, []⟩,
    ⟨(some 45), .build [.nils] [(0, 1, (.t 44))], none, false, []⟩,
    ⟨(some 46), .box 0 (.t 45), none, false, []⟩,
    ⟨(some 12), .mov (.t 41), none, false, []⟩,
    ⟨(some 13), .mov (.t 46), none, false, []⟩] none [0, 6, 7, 12, 13])
  (.seq (.ops [⟨(some 14), .mov (.c (.int .i64 0)), none, false, []⟩] none [0, 6, 7, 12, 13, 14])
  (.seq (.block 2 (.loop [0, 12, 13] [6, 7, 14] 4
    (.seq (.seq (.ops [⟨(some 47), .mov (.t 12), none, false, []⟩,
      ⟨(some 48), .nilchk (.t 47), none, false, []⟩,
      ⟨(some 49), .faddr 0 (.t 48), none, false, []⟩,
      ⟨(some 50), .load 1 false (.t 49), none, false, []⟩,
      ⟨(some 51), .len false (.t 50), none, false, []⟩,
      ⟨(some 52), .mov (.t 13), none, false, []⟩,
      ⟨(some 53), .nilchk (.t 52), none, false, []⟩,
      ⟨(some 54), .faddr 0 (.t 53), none, false, []⟩,
      ⟨(some 55), .load 1 false (.t 54), none, false, []⟩,
      ⟨(some 56), .len false (.t 55), none, false, []⟩,
      ⟨(some 57), .bin .none .add (.t 51) (.t 56), none, false, []⟩,
      ⟨(some 58), .bin .none .gtr (.t 57) (.c (.int .i64 0)), none, false, []⟩] (some (0, 0, [0, 1, 2, 3, 4, 5, 6, 7, 8, 9, 10, 11])) [0, 6, 7, 12, 13, 14, 58])
    (.cond (.t 58)
      .skip
      (.exit 2)))
    (.block 3 (.seq (.ops [⟨(some 60), .mov (.t 12), none, false, []⟩,
      ⟨(some 61), .mov (.t 13), none, false, []⟩,
      ⟨(some 62), .call f_merge_part [(.t 60), (.t 61)], none, false, []⟩,
      ⟨(some 59), .mov (.t 62), none, false, []⟩,
      ⟨(some 63), .extract (.t 59) 0, none, false, []⟩,
      ⟨(some 64), .extract (.t 59) 1, none, false, []⟩,
      ⟨(some 65), .extract (.t 59) 2, none, false, []⟩,
      ⟨(some 66), .extract (.t 59) 3, none, false, []⟩,
      ⟨(some 15), .mov (.t 63), none, false, []⟩,
      ⟨(some 16), .mov (.t 64), none, false, []⟩,
      ⟨(some 17), .mov (.t 65), none, false, []⟩,
      ⟨(some 18), .mov (.t 66), none, false, []⟩] none [0, 6, 7, 12, 13, 14, 15, 16, 17, 18])
    (.seq (.ops [⟨(some 67), .mov (.t 6), none, false, []⟩,
      ⟨(some 68), .mov (.t 0), none, false, []⟩,
      ⟨(some 69), .mov (.t 14), none, false, []⟩,
      ⟨(some 70), .mov (.t 15), none, false, []⟩,
      ⟨(some 71), .slice 1 (.t 68) (some (.t 69)) (some (.t 70)), none, false, []⟩,
      ⟨(some 72), .append 1 16 (.t 67) (.t 71), none, false, []⟩,
      ⟨(some 6), .mov (.t 72), none, false, []⟩] none [0, 6, 7, 12, 13, 15, 16, 17, 18])
    (.seq (.ops [⟨(some 73), .mov (.t 16), none, false, []⟩,
      ⟨(some 14), .mov (.t 73), none, false, []⟩] none [0, 6, 7, 12, 13, 14, 15, 16, 17, 18])
    (.seq (.ops [⟨(some 74), .mov (.t 0), none, false, []⟩,
      ⟨(some 75), .mov (.t 15), none, false, []⟩,
      ⟨(some 76), .mov (.t 16), none, false, []⟩,
      ⟨(some 77), .mov (.t 17), none, false, []⟩,
      ⟨(some 78), .call f_merge_made [(.t 74), (.t 75), (.t 76), (.t 77)], none, false, []⟩,
      ⟨(some 79), .mov (.t 0), none, false, []⟩,
      ⟨(some 80), .mov (.t 15), none, false, []⟩,
      ⟨(some 81), .mov (.t 16), none, false, []⟩,
      ⟨(some 82), .mov (.t 18), none, false, []⟩,
      ⟨(some 83), .call f_merge_made [(.t 79), (.t 80), (.t 81), (.t 82)], none, false, []⟩,
      ⟨(some 19), .mov (.t 78), none, false, []⟩,
      ⟨(some 20), .mov (.t 83), none, false, []⟩] none [0, 6, 7, 12, 13, 14, 17, 18, 19, 20])
    (.block 4 (.seq (.ops [⟨(some 100), .mov (.t 18), none, false, []⟩,
      ⟨(some 101), .len false (.t 100), none, false, []⟩,
      ⟨(some 102), .bin .none .eql (.t 101) (.c (.int .i64 0)), none, false, []⟩,
      ⟨(some 103), .mov (.t 102), none, true, []⟩,
      ⟨(some 104), .mov (.t 19), (some (103, false)), false, []⟩,
      ⟨(some 105), .mov (.t 20), (some (103, false)), false, []⟩,
      ⟨(some 106), .call f_slices_Equal___string_string_ [(.t 104), (.t 105)], (some (103, false)), false, []⟩,
      ⟨(some 107), .pick (.t 103) (.c (.bool true)) (.t 106), none, false, []⟩,
      ⟨(some 99), .mov (.t 107), none, false, []⟩] none [0, 6, 7, 12, 13, 14, 17, 19, 20, 99])
    (.cond (.t 99)
      (.ops [⟨(some 108), .mov (.t 6), none, false, []⟩,
        ⟨(some 109), .mov (.t 19), none, false, []⟩,
        ⟨(some 110), .append 1 16 (.t 108) (.t 109), none, false, []⟩,
        ⟨(some 6), .mov (.t 110), none, false, []⟩] none [0, 6, 7, 12, 13, 14])
      (.seq (.ops [⟨(some 112), .mov (.t 17), none, false, []⟩,
        ⟨(some 113), .len false (.t 112), none, false, []⟩,
        ⟨(some 114), .bin .none .eql (.t 113) (.c (.int .i64 0)), none, false, []⟩,
        ⟨(some 111), .mov (.t 114), none, false, []⟩] none [0, 6, 7, 12, 13, 14, 19, 20, 111])
      (.cond (.t 111)
        (.ops [⟨(some 115), .mov (.t 6), none, false, []⟩,
          ⟨(some 116), .mov (.t 20), none, false, []⟩,
          ⟨(some 117), .append 1 16 (.t 115) (.t 116), none, false, []⟩,
          ⟨(some 6), .mov (.t 117), none, false, []⟩] none [0, 6, 7, 12, 13, 14])
        (.seq (.ops [⟨(some 84), .mov (.t 7), none, false, []⟩,
          ⟨(some 85), .bin .none .add (.t 84) (.c (.int .i64 1)), none, false, []⟩,
          ⟨(some 7), .mov (.t 85), none, false, []⟩] none [0, 6, 7, 12, 13, 14, 19, 20])
        (.seq (.ops [⟨(some 86), .mov (.t 6), none, false, []⟩,
          ⟨(some 87), .bslice true 1 1 [(.str [])] [(0, 1, (.c (.str [60, 60, 60, 60, 60, 60, 60])))], none, false, []⟩,
          ⟨(some 88), .append 1 16 (.t 86) (.t 87), none, false, []⟩,
          ⟨(some 89), .mov (.t 19), none, false, []⟩,
          ⟨(some 90), .append 1 16 (.t 88) (.t 89), none, false, []⟩,
          ⟨(some 6), .mov (.t 90), none, false, []⟩] none [0, 6, 7, 12, 13, 14, 20])
        (.seq (.ops [⟨(some 91), .mov (.t 6), none, false, []⟩,
          ⟨(some 92), .bslice true 1 1 [(.str [])] [(0, 1, (.c (.str [61, 61, 61, 61, 61, 61, 61])))], none, false, []⟩,
          ⟨(some 93), .append 1 16 (.t 91) (.t 92), none, false, []⟩,
          ⟨(some 94), .mov (.t 20), none, false, []⟩,
          ⟨(some 95), .append 1 16 (.t 93) (.t 94), none, false, []⟩,
          ⟨(some 6), .mov (.t 95), none, false, []⟩] none [0, 6, 7, 12, 13, 14])
        (.ops [⟨(some 96), .mov (.t 6), none, false, []⟩,
          ⟨(some 97), .bslice true 1 1 [(.str [])] [(0, 1, (.c (.str [62, 62, 62, 62, 62, 62, 62])))], none, false, []⟩,
          ⟨(some 98), .append 1 16 (.t 96) (.t 97), none, false, []⟩,
          ⟨(some 6), .mov (.t 98), none, false, []⟩] none [0, 6, 7, 12, 13, 14])))))))))))))))))
  (.seq (.ops [⟨(some 118), .mov (.t 6), none, false, []⟩,
    ⟨(some 119), .mov (.t 0), none, false, []⟩,
    ⟨(some 120), .mov (.t 14), none, false, []⟩,
    ⟨(some 121), .slice 1 (.t 119) (some (.t 120)) none, none, false, []⟩,
    ⟨(some 122), .append 1 16 (.t 118) (.t 121), none, false, []⟩,
    ⟨(some 123), .mov (.t 7), none, false, []⟩,
    ⟨(some 6), .mov (.t 122), none, false, []⟩,
    ⟨(some 7), .mov (.t 123), none, false, []⟩,
    ⟨(some 8), .mov (.c (.int .i64 0)), none, false, []⟩] none [6, 7, 8])
  .ret)))))))
def merge_Merge_r : List RRes := [.tmp 6, .tmp 7, .tmp 8]
def merge_Merge_hi : Hi := ⟨[(6, .str), (72, .str), (110, .str), (117, .str), (87, .str), (88, .str), (90, .str), (92, .str), (93, .str), (95, .str), (97, .str), (98, .str), (122, .str), (41, (.st (.cons (.sl (.st (.cons (.int .i64) (.cons (.int .i64) (.cons (.sl .str) .nil))))) .nil))), (46, (.st (.cons (.sl (.st (.cons (.int .i64) (.cons (.int .i64) (.cons (.sl .str) .nil))))) .nil))), (12, (.st (.cons (.sl (.st (.cons (.int .i64) (.cons (.int .i64) (.cons (.sl .str) .nil))))) .nil))), (13, (.st (.cons (.sl (.st (.cons (.int .i64) (.cons (.int .i64) (.cons (.sl .str) .nil))))) .nil))), (47, (.st (.cons (.sl (.st (.cons (.int .i64) (.cons (.int .i64) (.cons (.sl .str) .nil))))) .nil))), (52, (.st (.cons (.sl (.st (.cons (.int .i64) (.cons (.int .i64) (.cons (.sl .str) .nil))))) .nil))), (60, (.st (.cons (.sl (.st (.cons (.int .i64) (.cons (.int .i64) (.cons (.sl .str) .nil))))) .nil))), (61, (.st (.cons (.sl (.st (.cons (.int .i64) (.cons (.int .i64) (.cons (.sl .str) .nil))))) .nil)))], [(0, "base"), (1, "a"), (2, "b"), (3, "base"), (4, "a"), (5, "b"), (6, "lines"), (7, "clashes"), (8, "e"), (9, "long"), (11, "l"), (12, "p"), (13, "q"), (14, "at"), (15, "lo"), (16, "hi"), (17, "x"), (18, "y"), (19, "u"), (20, "v")]⟩
def merge_Merge_an : An := (.seq .d (.seq .d (.seq (.seq .d (.loop [9] [] [] .d)) (.seq .d (.seq .d (.seq (.loop [12, 13, 6, 0] [] [] .d) .d))))))
def merge_Merge_fi : Fi := ⟨124, merge_Merge_c, merge_Merge_r, merge_Merge_an, merge_Merge_hi, none⟩
theorem merge_Merge_ok : FiOk Try.prog f_merge_Merge merge_Merge_fi :=
  ⟨fun _ => by kernel_rfl, fun _ h hlen => fun_sound (by kernel_rfl) (fn := Try.f5) (draw_sound _ _) Try.func5 rfl (by kernel_rfl : comp Try.prog 124 _ merge_Merge_c = some merge_Merge_c) (by kernel_rfl : cRes Try.prog Try.f5.results.toList = some merge_Merge_r) hlen h, fun _ h => nomatch h⟩

/-- fustian/merge.Merge$1: slots [0 s, 1 s] -/
def merge_Merge_1_c : SCode :=
  (.seq (.ops [⟨(some 2), .mov (.c (.bool false)), none, false, []⟩] none [0])
  (.seq (.ops [⟨(some 3), .mov (.t 0), none, false, []⟩,
    ⟨(some 4), .len true (.t 3), none, false, []⟩,
    ⟨(some 5), .bin .none .gtr (.t 4) (.c (.int .i64 600)), none, false, []⟩,
    ⟨(some 2), .mov (.t 5), none, false, []⟩] none [2])
  .ret))
def merge_Merge_1_r : List RRes := [.tmp 2]
def merge_Merge_1_hi : Hi := ⟨[], [(0, "s"), (1, "s")]⟩
def merge_Merge_1_an : An := .d
def merge_Merge_1_fi : Fi := ⟨6, merge_Merge_1_c, merge_Merge_1_r, merge_Merge_1_an, merge_Merge_1_hi, none⟩
theorem merge_Merge_1_ok : FiOk Try.prog f_merge_Merge_1 merge_Merge_1_fi :=
  ⟨fun _ => by kernel_rfl, fun _ h hlen => fun_sound (by kernel_rfl) (fn := Try.f15) (draw_sound _ _) Try.func15 rfl (by kernel_rfl : comp Try.prog 6 _ merge_Merge_1_c = some merge_Merge_1_c) (by kernel_rfl : cRes Try.prog Try.f15.results.toList = some merge_Merge_1_r) hlen h, fun _ h => nomatch h⟩

/-- slices.ContainsFunc[[]string,string]: slots [0 s, 1 f, 2 s, 3 f] -/
def slices_ContainsFunc___string_string__c : SCode :=
  (.seq (.ops [⟨(some 4), .mov (.c (.bool false)), none, false, []⟩] none [0, 1])
  (.seq (.ops [⟨(some 5), .mov (.t 0), none, false, []⟩,
    ⟨(some 6), .mov (.t 1), none, false, []⟩,
    ⟨(some 7), .call f_slices_IndexFunc___string_string_ [(.t 5), (.t 6)], none, false, []⟩,
    ⟨(some 8), .bin .none .geq (.t 7) (.c (.int .i64 0)), none, false, []⟩,
    ⟨(some 4), .mov (.t 8), none, false, []⟩] none [4])
  .ret))
def slices_ContainsFunc___string_string__r : List RRes := [.tmp 4]
def slices_ContainsFunc___string_string__hi : Hi := ⟨[], [(0, "s"), (1, "f"), (2, "s"), (3, "f")]⟩
def slices_ContainsFunc___string_string__an : An := .d
def slices_ContainsFunc___string_string__fi : Fi := ⟨9, slices_ContainsFunc___string_string__c, slices_ContainsFunc___string_string__r, slices_ContainsFunc___string_string__an, slices_ContainsFunc___string_string__hi, none⟩
theorem slices_ContainsFunc___string_string__ok : FiOk Try.prog f_slices_ContainsFunc___string_string_ slices_ContainsFunc___string_string__fi :=
  ⟨fun _ => by kernel_rfl, fun _ h hlen => fun_sound (by kernel_rfl) (fn := Try.f16) (draw_sound _ _) Try.func16 rfl (by kernel_rfl : comp Try.prog 9 _ slices_ContainsFunc___string_string__c = some slices_ContainsFunc___string_string__c) (by kernel_rfl : cRes Try.prog Try.f16.results.toList = some slices_ContainsFunc___string_string__r) hlen h, fun _ h => nomatch h⟩

/-- slices.IndexFunc[[]string,string]: slots [0 s, 1 f, 2 s, 3 f, 5 i] -/
def slices_IndexFunc___string_string__c : SCode :=
  (.seq (.ops [⟨(some 4), .mov (.c (.int .i64 0)), none, false, []⟩] none [0, 1])
  (.seq (.seq (.ops [⟨(some 6), .mov (.t 0), none, false, []⟩,
    ⟨(some 7), .len false (.t 6), none, false, []⟩,
    ⟨(some 8), .mov (.c (.int .i64 0)), none, false, []⟩] none [0, 1, 7, 8])
  (.block 0 (.loop [0, 1, 7] [8] 0
    (.seq (.ops [⟨(some 9), .bin .none .lss (.t 8) (.t 7), none, false, []⟩] none [0, 1, 7, 8, 9])
    (.seq (.cond (.t 9)
      .skip
      (.exit 0))
    (.seq (.block 1 (.seq (.ops [⟨(some 10), .mov (.t 8), none, false, []⟩,
      ⟨(some 5), .mov (.t 10), none, false, []⟩] none [0, 1, 5, 7, 8])
    (.seq (.ops [⟨(some 11), .mov (.t 1), none, false, []⟩,
      ⟨(some 12), .mov (.t 0), none, false, []⟩,
      ⟨(some 13), .mov (.t 5), none, false, []⟩,
      ⟨(some 14), .iaddr 1 none (.t 12) (.t 13), none, false, []⟩,
      ⟨(some 15), .load 1 false (.t 14), none, false, []⟩,
      ⟨(some 16), .callv (.t 11) [(.t 15)], none, false, []⟩] none [0, 1, 5, 7, 8, 16])
    (.cond (.t 16)
      (.seq (.ops [⟨(some 17), .mov (.t 5), none, false, []⟩,
        ⟨(some 4), .mov (.t 17), none, false, []⟩] none [4])
      .ret)
      .skip))))
    (.ops [⟨(some 18), .bin .none .add (.t 8) (.c (.int .i64 1)), none, false, []⟩,
      ⟨(some 8), .mov (.t 18), none, false, []⟩] none [0, 1, 7, 8])))))))
  (.seq (.ops [⟨(some 4), .mov (.c (.int .i64 (-1))), none, false, []⟩] none [4])
  .ret)))
def slices_IndexFunc___string_string__r : List RRes := [.tmp 4]
def slices_IndexFunc___string_string__hi : Hi := ⟨[], [(0, "s"), (1, "f"), (2, "s"), (3, "f"), (5, "i")]⟩
def slices_IndexFunc___string_string__an : An := (.seq .d (.seq (.seq .d (.loop [1] [] [] .d)) .d))
def slices_IndexFunc___string_string__fi : Fi := ⟨19, slices_IndexFunc___string_string__c, slices_IndexFunc___string_string__r, slices_IndexFunc___string_string__an, slices_IndexFunc___string_string__hi, none⟩
theorem slices_IndexFunc___string_string__ok : FiOk Try.prog f_slices_IndexFunc___string_string_ slices_IndexFunc___string_string__fi :=
  ⟨fun _ => by kernel_rfl, fun _ h hlen => fun_sound (by kernel_rfl) (fn := Try.f27) (draw_sound _ _) Try.func27 rfl (by kernel_rfl : comp Try.prog 19 _ slices_IndexFunc___string_string__c = some slices_IndexFunc___string_string__c) (by kernel_rfl : cRes Try.prog Try.f27.results.toList = some slices_IndexFunc___string_string__r) hlen h, fun _ h => nomatch h⟩

/-- slices.Equal[[]string,string]: slots [0 s1, 1 s2, 2 s1, 3 s2, 5 i] -/
def slices_Equal___string_string__c : SCode :=
  (.seq (.ops [⟨(some 4), .mov (.c (.bool false)), none, false, []⟩] none [0, 1])
  (.seq (.seq (.ops [⟨(some 6), .mov (.t 0), none, false, []⟩,
    ⟨(some 7), .len false (.t 6), none, false, []⟩,
    ⟨(some 8), .mov (.t 1), none, false, []⟩,
    ⟨(some 9), .len false (.t 8), none, false, []⟩,
    ⟨(some 10), .bin .none .neq (.t 7) (.t 9), none, false, []⟩] none [0, 1, 10])
  (.cond (.t 10)
    (.seq (.ops [⟨(some 4), .mov (.c (.bool false)), none, false, []⟩] none [4])
    .ret)
    .skip))
  (.seq (.seq (.ops [⟨(some 11), .mov (.t 0), none, false, []⟩,
    ⟨(some 12), .len false (.t 11), none, false, []⟩,
    ⟨(some 13), .mov (.c (.int .i64 0)), none, false, []⟩] none [0, 1, 12, 13])
  (.block 0 (.loop [0, 1, 12] [13] 0
    (.seq (.ops [⟨(some 14), .bin .none .lss (.t 13) (.t 12), none, false, []⟩] none [0, 1, 12, 13, 14])
    (.seq (.cond (.t 14)
      .skip
      (.exit 0))
    (.seq (.block 1 (.seq (.ops [⟨(some 15), .mov (.t 13), none, false, []⟩,
      ⟨(some 5), .mov (.t 15), none, false, []⟩] none [0, 1, 5, 12, 13])
    (.seq (.ops [⟨(some 16), .mov (.t 0), none, false, []⟩,
      ⟨(some 17), .mov (.t 5), none, false, []⟩,
      ⟨(some 18), .iaddr 1 none (.t 16) (.t 17), none, false, []⟩,
      ⟨(some 19), .load 1 false (.t 18), none, false, []⟩,
      ⟨(some 20), .mov (.t 1), none, false, []⟩,
      ⟨(some 21), .mov (.t 5), none, false, []⟩,
      ⟨(some 22), .iaddr 1 none (.t 20) (.t 21), none, false, []⟩,
      ⟨(some 23), .load 1 false (.t 22), none, false, []⟩,
      ⟨(some 24), .bin .none .neq (.t 19) (.t 23), none, false, []⟩] (some (0, 0, [0, 1, 2, 3, 4, 5, 6, 7, 8])) [0, 1, 12, 13, 24])
    (.cond (.t 24)
      (.seq (.ops [⟨(some 4), .mov (.c (.bool false)), none, false, []⟩] none [4])
      .ret)
      .skip))))
    (.ops [⟨(some 25), .bin .none .add (.t 13) (.c (.int .i64 1)), none, false, []⟩,
      ⟨(some 13), .mov (.t 25), none, false, []⟩] none [0, 1, 12, 13])))))))
  (.seq (.ops [⟨(some 4), .mov (.c (.bool true)), none, false, []⟩] none [4])
  .ret))))
def slices_Equal___string_string__r : List RRes := [.tmp 4]
def slices_Equal___string_string__hi : Hi := ⟨[], [(0, "s1"), (1, "s2"), (2, "s1"), (3, "s2"), (5, "i")]⟩
def slices_Equal___string_string__an : An := (.seq .d (.seq .d (.seq (.seq .d (.loop [] [] [] .d)) .d)))
def slices_Equal___string_string__fi : Fi := ⟨26, slices_Equal___string_string__c, slices_Equal___string_string__r, slices_Equal___string_string__an, slices_Equal___string_string__hi, none⟩
theorem slices_Equal___string_string__ok : FiOk Try.prog f_slices_Equal___string_string_ slices_Equal___string_string__fi :=
  ⟨fun _ => by kernel_rfl, fun _ h hlen => fun_sound (by kernel_rfl) (fn := Try.f20) (draw_sound _ _) Try.func20 rfl (by kernel_rfl : comp Try.prog 26 _ slices_Equal___string_string__c = some slices_Equal___string_string__c) (by kernel_rfl : cRes Try.prog Try.f20.results.toList = some slices_Equal___string_string__r) hlen h, fun _ h => nomatch h⟩

end Go.Proofs.Ytdbgppfoenoijaa.H
