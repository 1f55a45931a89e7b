/- The functions' simplified code, printed by a program of the claim's author; each is checked against the program's own code. Conditions: none. -/
import Derived.Test.YteifemonokemgaaProg
import Derived.Test.YteifemonokemgaaVyM
set_option linter.unusedVariables false
set_option maxRecDepth 100000
namespace Go.Proofs.Yteifemonokemgaa.H
open Go.Vc
abbrev f_gosem_cut_init : Nat := 2
abbrev f_law_HistPlays : Nat := 3
abbrev f_law_HistCounts : Nat := 4
abbrev f_hist_Play : Nat := 5
abbrev f_ref_HistPlayed : Nat := 6
abbrev f_law_sameTexts : Nat := 7
abbrev f_law_sameCodes : Nat := 8
abbrev f_hist_Counts : Nat := 9
abbrev f_hist_play : Nat := 10
abbrev f_ref_EditFault : Nat := 11
abbrev f_ref_editMade : Nat := 12
abbrev f___hist_History__Counts : Nat := 13
abbrev f_hist_New : Nat := 14
abbrev f___hist_History__Deed : Nat := 15
abbrev f___hist_History__make : Nat := 16
abbrev f_hist_pop : Nat := 17
abbrev f___hist_History__change : Nat := 18
abbrev f_edit_Check : Nat := 19
abbrev f_edit_Undo : Nat := 20
abbrev f_edit_Made : Nat := 21

/-- (*fustian/hist.History).make: slots [0 h, 1 x, 2 h, 3 x, 5 e, 6 g] -/
def __hist_History__make_c : SCode :=
  (.seq (.ops [⟨(some 3), .box 0 (.t 1), none, false, []⟩,
    ⟨(some 4), .mov (.c (.int .i64 0)), none, false, []⟩] none [0, 3])
  (.seq (.seq (.ops [⟨(some 7), .mov (.t 0), none, false, []⟩,
    ⟨(some 8), .nilchk (.t 7), none, false, []⟩,
    ⟨(some 9), .faddr 0 (.t 8), none, false, []⟩,
    ⟨(some 10), .load 1 false (.t 9), none, false, []⟩,
    ⟨(some 11), .len true (.t 10), none, false, []⟩,
    ⟨(some 12), .load 3 true (.t 3), none, false, []⟩,
    ⟨(some 13), .call f_edit_Check [(.t 11), (.t 12)], none, false, []⟩,
    ⟨(some 5), .mov (.t 13), none, false, []⟩] (some (0, 0, [0, 1, 2, 3, 4, 5, 6, 7])) [0, 3, 5])
  (.seq (.ops [⟨(some 14), .mov (.t 5), none, false, []⟩,
    ⟨(some 15), .bin .none .neq (.t 14) (.c (.int .i64 0)), none, false, []⟩] none [0, 3, 5, 15])
  (.cond (.t 15)
    (.seq (.ops [⟨(some 16), .mov (.t 5), none, false, []⟩,
      ⟨(some 4), .mov (.t 16), none, false, []⟩] none [4])
    .ret)
    .skip)))
  (.join [0, 3] [] 1 (.seq (.ops [⟨(some 17), .mov (.t 0), none, false, []⟩,
      ⟨(some 18), .nilchk (.t 17), none, false, []⟩,
      ⟨(some 19), .faddr 3 (.t 18), none, false, []⟩,
      ⟨(some 20), .load 1 false (.t 19), none, false, []⟩,
      ⟨(some 21), .not (.t 20), none, false, []⟩] none [0, 3, 21])
    (.cond (.t 21)
      (.seq (.ops [⟨(some 22), .mov (.t 0), none, false, []⟩,
        ⟨(some 23), .mov (.t 0), none, false, []⟩,
        ⟨(some 24), .nilchk (.t 23), none, false, []⟩,
        ⟨(some 25), .faddr 1 (.t 24), none, false, []⟩,
        ⟨(some 26), .load 1 false (.t 25), none, false, []⟩,
        ⟨(some 27), .build [.nils, .nils] [], none, false, []⟩,
        ⟨(some 28), .bslice true 1 2 [.nils, .nils] [(0, 2, (.t 27))], none, false, []⟩,
        ⟨(some 29), .append 2 48 (.t 26) (.t 28), none, false, []⟩,
        ⟨(some 30), .nilchk (.t 22), none, false, []⟩,
        ⟨(some 31), .faddr 1 (.t 30), none, false, []⟩,
        ⟨none, .store 1 (.t 31) (.t 29), none, false, []⟩] none [0, 3])
      (.join [0, 3] [] 1 (.seq (.ops [⟨(some 32), .mov (.t 0), none, false, []⟩,
          ⟨(some 33), .nilchk (.t 32), none, false, []⟩,
          ⟨(some 34), .faddr 1 (.t 33), none, false, []⟩,
          ⟨(some 35), .load 1 false (.t 34), none, false, []⟩,
          ⟨(some 36), .len false (.t 35), none, false, []⟩,
          ⟨(some 37), .bin .none .gtr (.t 36) (.c (.int .i64 20)), none, false, []⟩] none [0, 3, 37])
        (.cond (.t 37)
          (.ops [⟨(some 38), .mov (.t 0), none, false, []⟩,
            ⟨(some 39), .mov (.t 0), none, false, []⟩,
            ⟨(some 40), .nilchk (.t 39), none, false, []⟩,
            ⟨(some 41), .faddr 1 (.t 40), none, false, []⟩,
            ⟨(some 42), .load 1 false (.t 41), none, false, []⟩,
            ⟨(some 43), .slice 2 (.t 42) (some (.c (.int .i64 1))) none, none, false, []⟩,
            ⟨(some 44), .nilchk (.t 38), none, false, []⟩,
            ⟨(some 45), .faddr 1 (.t 44), none, false, []⟩,
            ⟨none, .store 1 (.t 45) (.t 43), none, false, []⟩] none [0, 3])
          .skip))
      (.ops [⟨(some 46), .mov (.t 0), none, false, []⟩,
        ⟨(some 47), .nilchk (.t 46), none, false, []⟩,
        ⟨(some 48), .faddr 3 (.t 47), none, false, []⟩,
        ⟨none, .store 1 (.t 48) (.c (.bool true)), none, false, []⟩] none [0, 3])))
      .skip))
  (.seq (.ops [⟨(some 49), .mov (.t 0), none, false, []⟩,
    ⟨(some 50), .nilchk (.t 49), none, false, []⟩,
    ⟨(some 51), .faddr 1 (.t 50), none, false, []⟩,
    ⟨(some 52), .load 1 false (.t 51), none, false, []⟩,
    ⟨(some 53), .mov (.t 0), none, false, []⟩,
    ⟨(some 54), .nilchk (.t 53), none, false, []⟩,
    ⟨(some 55), .faddr 1 (.t 54), none, false, []⟩,
    ⟨(some 56), .load 1 false (.t 55), none, false, []⟩,
    ⟨(some 57), .len false (.t 56), none, false, []⟩,
    ⟨(some 58), .bin .none .sub (.t 57) (.c (.int .i64 1)), none, false, []⟩,
    ⟨(some 59), .iaddr 2 none (.t 52) (.t 58), none, false, []⟩,
    ⟨(some 6), .mov (.t 59), none, false, []⟩] (some (0, 0, [0, 1, 2, 3, 4, 5, 6, 7, 8, 9, 10, 11])) [0, 3, 6])
  (.seq (.ops [⟨(some 60), .mov (.t 6), none, false, []⟩,
    ⟨(some 61), .mov (.t 6), none, false, []⟩,
    ⟨(some 62), .nilchk (.t 61), none, false, []⟩,
    ⟨(some 63), .faddr 0 (.t 62), none, false, []⟩,
    ⟨(some 64), .load 1 false (.t 63), none, false, []⟩,
    ⟨(some 65), .load 3 true (.t 3), none, false, []⟩,
    ⟨(some 66), .bslice true 1 3 [(.int .i64 0), (.int .i64 0), (.str [])] [(0, 3, (.t 65))], none, false, []⟩,
    ⟨(some 67), .append 3 32 (.t 64) (.t 66), none, false, []⟩,
    ⟨(some 68), .nilchk (.t 60), none, false, []⟩,
    ⟨(some 69), .faddr 0 (.t 68), none, false, []⟩,
    ⟨none, .store 1 (.t 69) (.t 67), none, false, []⟩] (some (0, 0, [0, 1, 2, 3, 4, 5, 6, 7, 8, 9, 10])) [0, 3, 6])
  (.seq (.ops [⟨(some 70), .mov (.t 6), none, false, []⟩,
    ⟨(some 71), .mov (.t 6), none, false, []⟩,
    ⟨(some 72), .nilchk (.t 71), none, false, []⟩,
    ⟨(some 73), .faddr 1 (.t 72), none, false, []⟩,
    ⟨(some 74), .load 1 false (.t 73), none, false, []⟩,
    ⟨(some 75), .mov (.t 0), none, false, []⟩,
    ⟨(some 76), .nilchk (.t 75), none, false, []⟩,
    ⟨(some 77), .faddr 0 (.t 76), none, false, []⟩,
    ⟨(some 78), .load 1 false (.t 77), none, false, []⟩,
    ⟨(some 79), .load 3 true (.t 3), none, false, []⟩,
    ⟨(some 80), .call f_edit_Undo [(.t 78), (.t 79)], none, false, []⟩,
    ⟨(some 81), .bslice true 1 3 [(.int .i64 0), (.int .i64 0), (.str [])] [(0, 3, (.t 80))], none, false, []⟩,
    ⟨(some 82), .append 3 32 (.t 74) (.t 81), none, false, []⟩,
    ⟨(some 83), .nilchk (.t 70), none, false, []⟩,
    ⟨(some 84), .faddr 1 (.t 83), none, false, []⟩,
    ⟨none, .store 1 (.t 84) (.t 82), none, false, []⟩] (some (11, 0, [0, 1, 2, 3, 4, 5, 6, 7, 8, 9, 10, 11, 12, 13, 14, 15])) [0, 3])
  (.seq (.ops [⟨(some 85), .mov (.t 0), none, false, []⟩,
    ⟨(some 86), .mov (.t 0), none, false, []⟩,
    ⟨(some 87), .nilchk (.t 86), none, false, []⟩,
    ⟨(some 88), .faddr 0 (.t 87), none, false, []⟩,
    ⟨(some 89), .load 1 false (.t 88), none, false, []⟩,
    ⟨(some 90), .load 3 true (.t 3), none, false, []⟩,
    ⟨(some 91), .call f_edit_Made [(.t 89), (.t 90)], none, false, []⟩,
    ⟨(some 92), .nilchk (.t 85), none, false, []⟩,
    ⟨(some 93), .faddr 0 (.t 92), none, false, []⟩,
    ⟨none, .store 1 (.t 93) (.t 91), none, false, []⟩] (some (0, 0, [0, 1, 2, 3, 4, 5, 6, 7, 8, 9])) [0])
  (.seq (.ops [⟨(some 94), .mov (.t 0), none, false, []⟩,
    ⟨(some 95), .nilchk (.t 94), none, false, []⟩,
    ⟨(some 96), .faddr 2 (.t 95), none, false, []⟩,
    ⟨none, .store 1 (.t 96) (.c .nils), none, false, []⟩] none [])
  (.seq (.ops [⟨(some 4), .mov (.c (.int .i64 0)), none, false, []⟩] none [4])
  .ret)))))))))
def __hist_History__make_r : List RRes := [.tmp 4]
def __hist_History__make_hi : Hi := ⟨[(28, (.st (.cons (.sl (.st (.cons (.int .i64) (.cons (.int .i64) (.cons .str .nil))))) (.cons (.sl (.st (.cons (.int .i64) (.cons (.int .i64) (.cons .str .nil))))) .nil)))), (29, (.st (.cons (.sl (.st (.cons (.int .i64) (.cons (.int .i64) (.cons .str .nil))))) (.cons (.sl (.st (.cons (.int .i64) (.cons (.int .i64) (.cons .str .nil))))) .nil)))), (66, (.st (.cons (.int .i64) (.cons (.int .i64) (.cons .str .nil))))), (67, (.st (.cons (.int .i64) (.cons (.int .i64) (.cons .str .nil))))), (81, (.st (.cons (.int .i64) (.cons (.int .i64) (.cons .str .nil))))), (82, (.st (.cons (.int .i64) (.cons (.int .i64) (.cons .str .nil))))), (3, (.st (.cons (.int .i64) (.cons (.int .i64) (.cons .str .nil))))), (7, (.st (.cons .str (.cons (.sl (.st (.cons (.sl (.st (.cons (.int .i64) (.cons (.int .i64) (.cons .str .nil))))) (.cons (.sl (.st (.cons (.int .i64) (.cons (.int .i64) (.cons .str .nil))))) .nil)))) (.cons (.sl (.st (.cons (.sl (.st (.cons (.int .i64) (.cons (.int .i64) (.cons .str .nil))))) (.cons (.sl (.st (.cons (.int .i64) (.cons (.int .i64) (.cons .str .nil))))) .nil)))) (.cons .bool .nil)))))), (17, (.st (.cons .str (.cons (.sl (.st (.cons (.sl (.st (.cons (.int .i64) (.cons (.int .i64) (.cons .str .nil))))) (.cons (.sl (.st (.cons (.int .i64) (.cons (.int .i64) (.cons .str .nil))))) .nil)))) (.cons (.sl (.st (.cons (.sl (.st (.cons (.int .i64) (.cons (.int .i64) (.cons .str .nil))))) (.cons (.sl (.st (.cons (.int .i64) (.cons (.int .i64) (.cons .str .nil))))) .nil)))) (.cons .bool .nil)))))), (22, (.st (.cons .str (.cons (.sl (.st (.cons (.sl (.st (.cons (.int .i64) (.cons (.int .i64) (.cons .str .nil))))) (.cons (.sl (.st (.cons (.int .i64) (.cons (.int .i64) (.cons .str .nil))))) .nil)))) (.cons (.sl (.st (.cons (.sl (.st (.cons (.int .i64) (.cons (.int .i64) (.cons .str .nil))))) (.cons (.sl (.st (.cons (.int .i64) (.cons (.int .i64) (.cons .str .nil))))) .nil)))) (.cons .bool .nil)))))), (23, (.st (.cons .str (.cons (.sl (.st (.cons (.sl (.st (.cons (.int .i64) (.cons (.int .i64) (.cons .str .nil))))) (.cons (.sl (.st (.cons (.int .i64) (.cons (.int .i64) (.cons .str .nil))))) .nil)))) (.cons (.sl (.st (.cons (.sl (.st (.cons (.int .i64) (.cons (.int .i64) (.cons .str .nil))))) (.cons (.sl (.st (.cons (.int .i64) (.cons (.int .i64) (.cons .str .nil))))) .nil)))) (.cons .bool .nil)))))), (32, (.st (.cons .str (.cons (.sl (.st (.cons (.sl (.st (.cons (.int .i64) (.cons (.int .i64) (.cons .str .nil))))) (.cons (.sl (.st (.cons (.int .i64) (.cons (.int .i64) (.cons .str .nil))))) .nil)))) (.cons (.sl (.st (.cons (.sl (.st (.cons (.int .i64) (.cons (.int .i64) (.cons .str .nil))))) (.cons (.sl (.st (.cons (.int .i64) (.cons (.int .i64) (.cons .str .nil))))) .nil)))) (.cons .bool .nil)))))), (38, (.st (.cons .str (.cons (.sl (.st (.cons (.sl (.st (.cons (.int .i64) (.cons (.int .i64) (.cons .str .nil))))) (.cons (.sl (.st (.cons (.int .i64) (.cons (.int .i64) (.cons .str .nil))))) .nil)))) (.cons (.sl (.st (.cons (.sl (.st (.cons (.int .i64) (.cons (.int .i64) (.cons .str .nil))))) (.cons (.sl (.st (.cons (.int .i64) (.cons (.int .i64) (.cons .str .nil))))) .nil)))) (.cons .bool .nil)))))), (39, (.st (.cons .str (.cons (.sl (.st (.cons (.sl (.st (.cons (.int .i64) (.cons (.int .i64) (.cons .str .nil))))) (.cons (.sl (.st (.cons (.int .i64) (.cons (.int .i64) (.cons .str .nil))))) .nil)))) (.cons (.sl (.st (.cons (.sl (.st (.cons (.int .i64) (.cons (.int .i64) (.cons .str .nil))))) (.cons (.sl (.st (.cons (.int .i64) (.cons (.int .i64) (.cons .str .nil))))) .nil)))) (.cons .bool .nil)))))), (46, (.st (.cons .str (.cons (.sl (.st (.cons (.sl (.st (.cons (.int .i64) (.cons (.int .i64) (.cons .str .nil))))) (.cons (.sl (.st (.cons (.int .i64) (.cons (.int .i64) (.cons .str .nil))))) .nil)))) (.cons (.sl (.st (.cons (.sl (.st (.cons (.int .i64) (.cons (.int .i64) (.cons .str .nil))))) (.cons (.sl (.st (.cons (.int .i64) (.cons (.int .i64) (.cons .str .nil))))) .nil)))) (.cons .bool .nil)))))), (49, (.st (.cons .str (.cons (.sl (.st (.cons (.sl (.st (.cons (.int .i64) (.cons (.int .i64) (.cons .str .nil))))) (.cons (.sl (.st (.cons (.int .i64) (.cons (.int .i64) (.cons .str .nil))))) .nil)))) (.cons (.sl (.st (.cons (.sl (.st (.cons (.int .i64) (.cons (.int .i64) (.cons .str .nil))))) (.cons (.sl (.st (.cons (.int .i64) (.cons (.int .i64) (.cons .str .nil))))) .nil)))) (.cons .bool .nil)))))), (53, (.st (.cons .str (.cons (.sl (.st (.cons (.sl (.st (.cons (.int .i64) (.cons (.int .i64) (.cons .str .nil))))) (.cons (.sl (.st (.cons (.int .i64) (.cons (.int .i64) (.cons .str .nil))))) .nil)))) (.cons (.sl (.st (.cons (.sl (.st (.cons (.int .i64) (.cons (.int .i64) (.cons .str .nil))))) (.cons (.sl (.st (.cons (.int .i64) (.cons (.int .i64) (.cons .str .nil))))) .nil)))) (.cons .bool .nil)))))), (6, (.st (.cons (.sl (.st (.cons (.int .i64) (.cons (.int .i64) (.cons .str .nil))))) (.cons (.sl (.st (.cons (.int .i64) (.cons (.int .i64) (.cons .str .nil))))) .nil)))), (60, (.st (.cons (.sl (.st (.cons (.int .i64) (.cons (.int .i64) (.cons .str .nil))))) (.cons (.sl (.st (.cons (.int .i64) (.cons (.int .i64) (.cons .str .nil))))) .nil)))), (61, (.st (.cons (.sl (.st (.cons (.int .i64) (.cons (.int .i64) (.cons .str .nil))))) (.cons (.sl (.st (.cons (.int .i64) (.cons (.int .i64) (.cons .str .nil))))) .nil)))), (70, (.st (.cons (.sl (.st (.cons (.int .i64) (.cons (.int .i64) (.cons .str .nil))))) (.cons (.sl (.st (.cons (.int .i64) (.cons (.int .i64) (.cons .str .nil))))) .nil)))), (71, (.st (.cons (.sl (.st (.cons (.int .i64) (.cons (.int .i64) (.cons .str .nil))))) (.cons (.sl (.st (.cons (.int .i64) (.cons (.int .i64) (.cons .str .nil))))) .nil)))), (75, (.st (.cons .str (.cons (.sl (.st (.cons (.sl (.st (.cons (.int .i64) (.cons (.int .i64) (.cons .str .nil))))) (.cons (.sl (.st (.cons (.int .i64) (.cons (.int .i64) (.cons .str .nil))))) .nil)))) (.cons (.sl (.st (.cons (.sl (.st (.cons (.int .i64) (.cons (.int .i64) (.cons .str .nil))))) (.cons (.sl (.st (.cons (.int .i64) (.cons (.int .i64) (.cons .str .nil))))) .nil)))) (.cons .bool .nil)))))), (85, (.st (.cons .str (.cons (.sl (.st (.cons (.sl (.st (.cons (.int .i64) (.cons (.int .i64) (.cons .str .nil))))) (.cons (.sl (.st (.cons (.int .i64) (.cons (.int .i64) (.cons .str .nil))))) .nil)))) (.cons (.sl (.st (.cons (.sl (.st (.cons (.int .i64) (.cons (.int .i64) (.cons .str .nil))))) (.cons (.sl (.st (.cons (.int .i64) (.cons (.int .i64) (.cons .str .nil))))) .nil)))) (.cons .bool .nil)))))), (86, (.st (.cons .str (.cons (.sl (.st (.cons (.sl (.st (.cons (.int .i64) (.cons (.int .i64) (.cons .str .nil))))) (.cons (.sl (.st (.cons (.int .i64) (.cons (.int .i64) (.cons .str .nil))))) .nil)))) (.cons (.sl (.st (.cons (.sl (.st (.cons (.int .i64) (.cons (.int .i64) (.cons .str .nil))))) (.cons (.sl (.st (.cons (.int .i64) (.cons (.int .i64) (.cons .str .nil))))) .nil)))) (.cons .bool .nil)))))), (94, (.st (.cons .str (.cons (.sl (.st (.cons (.sl (.st (.cons (.int .i64) (.cons (.int .i64) (.cons .str .nil))))) (.cons (.sl (.st (.cons (.int .i64) (.cons (.int .i64) (.cons .str .nil))))) .nil)))) (.cons (.sl (.st (.cons (.sl (.st (.cons (.int .i64) (.cons (.int .i64) (.cons .str .nil))))) (.cons (.sl (.st (.cons (.int .i64) (.cons (.int .i64) (.cons .str .nil))))) .nil)))) (.cons .bool .nil)))))), (0, (.st (.cons .str (.cons (.sl (.st (.cons (.sl (.st (.cons (.int .i64) (.cons (.int .i64) (.cons .str .nil))))) (.cons (.sl (.st (.cons (.int .i64) (.cons (.int .i64) (.cons .str .nil))))) .nil)))) (.cons (.sl (.st (.cons (.sl (.st (.cons (.int .i64) (.cons (.int .i64) (.cons .str .nil))))) (.cons (.sl (.st (.cons (.int .i64) (.cons (.int .i64) (.cons .str .nil))))) .nil)))) (.cons .bool .nil))))))], [(0, "h"), (1, "x"), (2, "h"), (3, "x"), (5, "e"), (6, "g")]⟩
def __hist_History__make_an : An := .d
def __hist_History__make_fi : Fi := ⟨97, __hist_History__make_c, __hist_History__make_r, __hist_History__make_an, __hist_History__make_hi, none⟩
theorem __hist_History__make_ok : FiOk Try.prog f___hist_History__make __hist_History__make_fi :=
  ⟨fun _ => by kernel_rfl, fun _ h hlen => fun_sound (by kernel_rfl) (fn := Try.f16) (draw_sound _ _) Try.func16 rfl (by kernel_rfl : comp Try.prog 97 _ __hist_History__make_c = some __hist_History__make_c) (by kernel_rfl : cRes Try.prog Try.f16.results.toList = some __hist_History__make_r) hlen h, fun _ h => nomatch h⟩

/-- fustian/hist.pop: slots [0 l, 1 l, 4 n, 5 g] -/
def hist_pop_c : SCode :=
  (.seq (.ops [⟨(some 2), .alloc 0 [.nils, .nils], none, false, []⟩,
    ⟨(some 3), .mov (.c (.bool false)), none, false, []⟩] none [0, 2])
  (.seq (.ops [⟨(some 6), .mov (.t 0), none, false, []⟩,
    ⟨(some 7), .nilchk (.t 6), none, false, []⟩,
    ⟨(some 8), .load 1 false (.t 7), none, false, []⟩,
    ⟨(some 9), .len false (.t 8), none, false, []⟩,
    ⟨(some 10), .bin .none .sub (.t 9) (.c (.int .i64 1)), none, false, []⟩,
    ⟨(some 4), .mov (.t 10), none, false, []⟩] none [0, 2, 4])
  (.seq (.seq (.ops [⟨(some 11), .mov (.t 4), none, false, []⟩,
    ⟨(some 12), .bin .none .lss (.t 11) (.c (.int .i64 0)), none, false, []⟩] none [0, 2, 4, 12])
  (.cond (.t 12)
    (.seq (.ops [⟨(some 13), .build [.nils, .nils] [], none, false, []⟩,
      ⟨none, .store 2 (.t 2) (.t 13), none, false, []⟩,
      ⟨(some 3), .mov (.c (.bool false)), none, false, []⟩] none [2, 3])
    .ret)
    .skip))
  (.seq (.ops [⟨(some 14), .mov (.t 0), none, false, []⟩,
    ⟨(some 15), .nilchk (.t 14), none, false, []⟩,
    ⟨(some 16), .load 1 false (.t 15), none, false, []⟩,
    ⟨(some 17), .mov (.t 4), none, false, []⟩,
    ⟨(some 18), .iaddr 2 none (.t 16) (.t 17), none, false, []⟩,
    ⟨(some 19), .load 2 true (.t 18), none, false, []⟩,
    ⟨(some 5), .alloc 0 [.nils, .nils], none, false, []⟩,
    ⟨none, .store 2 (.t 5) (.t 19), none, false, []⟩] none [0, 2, 4, 5])
  (.seq (.ops [⟨(some 20), .mov (.t 0), none, false, []⟩,
    ⟨(some 21), .mov (.t 0), none, false, []⟩,
    ⟨(some 22), .nilchk (.t 21), none, false, []⟩,
    ⟨(some 23), .load 1 false (.t 22), none, false, []⟩,
    ⟨(some 24), .mov (.t 4), none, false, []⟩,
    ⟨(some 25), .slice 2 (.t 23) none (some (.t 24)), none, false, []⟩,
    ⟨(some 26), .nilchk (.t 20), none, false, []⟩,
    ⟨none, .store 1 (.t 26) (.t 25), none, false, []⟩] none [2, 5])
  (.seq (.ops [⟨(some 27), .load 2 true (.t 5), none, false, []⟩,
    ⟨none, .store 2 (.t 2) (.t 27), none, false, []⟩,
    ⟨(some 3), .mov (.c (.bool true)), none, false, []⟩] none [2, 3])
  .ret))))))
def hist_pop_r : List RRes := [.cell 2 2 true, .tmp 3]
def hist_pop_hi : Hi := ⟨[(2, (.st (.cons (.sl (.st (.cons (.int .i64) (.cons (.int .i64) (.cons .str .nil))))) (.cons (.sl (.st (.cons (.int .i64) (.cons (.int .i64) (.cons .str .nil))))) .nil)))), (6, (.sl (.st (.cons (.sl (.st (.cons (.int .i64) (.cons (.int .i64) (.cons .str .nil))))) (.cons (.sl (.st (.cons (.int .i64) (.cons (.int .i64) (.cons .str .nil))))) .nil))))), (14, (.sl (.st (.cons (.sl (.st (.cons (.int .i64) (.cons (.int .i64) (.cons .str .nil))))) (.cons (.sl (.st (.cons (.int .i64) (.cons (.int .i64) (.cons .str .nil))))) .nil))))), (5, (.st (.cons (.sl (.st (.cons (.int .i64) (.cons (.int .i64) (.cons .str .nil))))) (.cons (.sl (.st (.cons (.int .i64) (.cons (.int .i64) (.cons .str .nil))))) .nil)))), (20, (.sl (.st (.cons (.sl (.st (.cons (.int .i64) (.cons (.int .i64) (.cons .str .nil))))) (.cons (.sl (.st (.cons (.int .i64) (.cons (.int .i64) (.cons .str .nil))))) .nil))))), (21, (.sl (.st (.cons (.sl (.st (.cons (.int .i64) (.cons (.int .i64) (.cons .str .nil))))) (.cons (.sl (.st (.cons (.int .i64) (.cons (.int .i64) (.cons .str .nil))))) .nil))))), (0, (.sl (.st (.cons (.sl (.st (.cons (.int .i64) (.cons (.int .i64) (.cons .str .nil))))) (.cons (.sl (.st (.cons (.int .i64) (.cons (.int .i64) (.cons .str .nil))))) .nil)))))], [(0, "l"), (1, "l"), (4, "n"), (5, "g")]⟩
def hist_pop_an : An := .d
def hist_pop_fi : Fi := ⟨28, hist_pop_c, hist_pop_r, hist_pop_an, hist_pop_hi, none⟩
theorem hist_pop_ok : FiOk Try.prog f_hist_pop hist_pop_fi :=
  ⟨fun _ => by kernel_rfl, fun _ h hlen => fun_sound (by kernel_rfl) (fn := Try.f17) (draw_sound _ _) Try.func17 rfl (by kernel_rfl : comp Try.prog 28 _ hist_pop_c = some hist_pop_c) (by kernel_rfl : cRes Try.prog Try.f17.results.toList = some hist_pop_r) hlen h, fun _ h => nomatch h⟩

/-- (*fustian/hist.History).change: slots [0 h, 1 l, 2 h, 3 l, 5 _, 6 x] -/
def __hist_History__change_c : SCode :=
  (.seq (.ops [⟨(some 4), .mov (.c .nils), none, false, []⟩] none [0, 1])
  (.seq (.seq (.ops [⟨(some 7), .mov (.t 1), none, false, []⟩,
    ⟨(some 8), .len false (.t 7), none, false, []⟩,
    ⟨(some 9), .mov (.c (.int .i64 0)), none, false, []⟩] none [0, 1, 7, 8, 9])
  (.block 0 (.loop [0, 1, 7, 8] [9] 0
    (.seq (.ops [⟨(some 10), .bin .none .lss (.t 9) (.t 8), none, false, []⟩] none [0, 1, 7, 8, 9, 10])
    (.seq (.cond (.t 10)
      .skip
      (.exit 0))
    (.seq (.block 1 (.seq (.ops [⟨(some 11), .iaddr 3 none (.t 7) (.t 9), none, false, []⟩,
      ⟨(some 12), .load 3 true (.t 11), none, false, []⟩,
      ⟨(some 6), .alloc 0 [(.int .i64 0), (.int .i64 0), (.str [])], none, false, []⟩,
      ⟨none, .store 3 (.t 6) (.t 12), none, false, []⟩] none [0, 1, 6, 7, 8, 9])
    (.ops [⟨(some 13), .mov (.t 0), none, false, []⟩,
      ⟨(some 14), .mov (.t 0), none, false, []⟩,
      ⟨(some 15), .nilchk (.t 14), none, false, []⟩,
      ⟨(some 16), .faddr 0 (.t 15), none, false, []⟩,
      ⟨(some 17), .load 1 false (.t 16), none, false, []⟩,
      ⟨(some 18), .load 3 true (.t 6), none, false, []⟩,
      ⟨(some 19), .call f_edit_Made [(.t 17), (.t 18)], none, false, []⟩,
      ⟨(some 20), .nilchk (.t 13), none, false, []⟩,
      ⟨(some 21), .faddr 0 (.t 20), none, false, []⟩,
      ⟨none, .store 1 (.t 21) (.t 19), none, false, []⟩] (some (0, 0, [0, 1, 2, 3, 4, 5, 6, 7, 8, 9])) [0, 1, 7, 8, 9])))
    (.ops [⟨(some 22), .bin .none .add (.t 9) (.c (.int .i64 1)), none, false, []⟩,
      ⟨(some 9), .mov (.t 22), none, false, []⟩] none [0, 1, 7, 8, 9])))))))
  (.seq (.ops [⟨(some 23), .mov (.t 0), none, false, []⟩,
    ⟨(some 24), .nilchk (.t 23), none, false, []⟩,
    ⟨(some 25), .faddr 3 (.t 24), none, false, []⟩,
    ⟨none, .store 1 (.t 25) (.c (.bool false)), none, false, []⟩] none [1])
  (.seq (.ops [⟨(some 26), .mov (.t 1), none, false, []⟩,
    ⟨(some 4), .mov (.t 26), none, false, []⟩] none [4])
  .ret))))
def __hist_History__change_r : List RRes := [.tmp 4]
def __hist_History__change_hi : Hi := ⟨[(6, (.st (.cons (.int .i64) (.cons (.int .i64) (.cons .str .nil))))), (13, (.st (.cons .str (.cons (.sl (.st (.cons (.sl (.st (.cons (.int .i64) (.cons (.int .i64) (.cons .str .nil))))) (.cons (.sl (.st (.cons (.int .i64) (.cons (.int .i64) (.cons .str .nil))))) .nil)))) (.cons (.sl (.st (.cons (.sl (.st (.cons (.int .i64) (.cons (.int .i64) (.cons .str .nil))))) (.cons (.sl (.st (.cons (.int .i64) (.cons (.int .i64) (.cons .str .nil))))) .nil)))) (.cons .bool .nil)))))), (14, (.st (.cons .str (.cons (.sl (.st (.cons (.sl (.st (.cons (.int .i64) (.cons (.int .i64) (.cons .str .nil))))) (.cons (.sl (.st (.cons (.int .i64) (.cons (.int .i64) (.cons .str .nil))))) .nil)))) (.cons (.sl (.st (.cons (.sl (.st (.cons (.int .i64) (.cons (.int .i64) (.cons .str .nil))))) (.cons (.sl (.st (.cons (.int .i64) (.cons (.int .i64) (.cons .str .nil))))) .nil)))) (.cons .bool .nil)))))), (23, (.st (.cons .str (.cons (.sl (.st (.cons (.sl (.st (.cons (.int .i64) (.cons (.int .i64) (.cons .str .nil))))) (.cons (.sl (.st (.cons (.int .i64) (.cons (.int .i64) (.cons .str .nil))))) .nil)))) (.cons (.sl (.st (.cons (.sl (.st (.cons (.int .i64) (.cons (.int .i64) (.cons .str .nil))))) (.cons (.sl (.st (.cons (.int .i64) (.cons (.int .i64) (.cons .str .nil))))) .nil)))) (.cons .bool .nil)))))), (0, (.st (.cons .str (.cons (.sl (.st (.cons (.sl (.st (.cons (.int .i64) (.cons (.int .i64) (.cons .str .nil))))) (.cons (.sl (.st (.cons (.int .i64) (.cons (.int .i64) (.cons .str .nil))))) .nil)))) (.cons (.sl (.st (.cons (.sl (.st (.cons (.int .i64) (.cons (.int .i64) (.cons .str .nil))))) (.cons (.sl (.st (.cons (.int .i64) (.cons (.int .i64) (.cons .str .nil))))) .nil)))) (.cons .bool .nil))))))], [(0, "h"), (1, "l"), (2, "h"), (3, "l"), (6, "x")]⟩
def __hist_History__change_an : An := (.seq .d (.seq (.seq .d (.loop [0] [] [] .d)) .d))
def __hist_History__change_fi : Fi := ⟨27, __hist_History__change_c, __hist_History__change_r, __hist_History__change_an, __hist_History__change_hi, none⟩
theorem __hist_History__change_ok : FiOk Try.prog f___hist_History__change __hist_History__change_fi :=
  ⟨fun _ => by kernel_rfl, fun _ h hlen => fun_sound (by kernel_rfl) (fn := Try.f18) (draw_sound _ _) Try.func18 rfl (by kernel_rfl : comp Try.prog 27 _ __hist_History__change_c = some __hist_History__change_c) (by kernel_rfl : cRes Try.prog Try.f18.results.toList = some __hist_History__change_r) hlen h, fun _ h => nomatch h⟩

/-- (*fustian/hist.History).Deed: slots [0 h, 1 d, 2 h, 3 d, 6 e, 7 g, 8 is, 9 made, 10 i, 11 g, 12 is] -/
def __hist_History__Deed_c : SCode :=
  (.seq (.ops [⟨(some 3), .box 0 (.t 1), none, false, []⟩,
    ⟨(some 4), .mov (.c .nils), none, false, []⟩,
    ⟨(some 5), .mov (.c (.int .i64 0)), none, false, []⟩] none [0, 3])
  (.seq (.seq (.ops [⟨(some 13), .faddr 0 (.t 3), none, false, []⟩,
    ⟨(some 14), .load 1 false (.t 13), none, false, []⟩] none [0, 3, 14])
  (.block 0 (.seq (.ops [⟨(some 16), .bin .none .eql (.t 14) (.c (.int .i64 1)), none, false, []⟩,
    ⟨(some 15), .mov (.t 16), none, false, []⟩] none [0, 3, 14, 15])
  (.cond (.t 15)
    (.seq (.seq (.ops [⟨(some 17), .mov (.t 0), none, false, []⟩,
      ⟨(some 18), .faddr 1 (.t 3), none, false, []⟩,
      ⟨(some 19), .load 3 true (.t 18), none, false, []⟩,
      ⟨(some 20), .call f___hist_History__make [(.t 17), (.t 19)], none, false, []⟩,
      ⟨(some 6), .mov (.t 20), none, false, []⟩] none [3, 6])
    (.seq (.ops [⟨(some 21), .mov (.t 6), none, false, []⟩,
      ⟨(some 22), .bin .none .neq (.t 21) (.c (.int .i64 0)), none, false, []⟩] none [3, 6, 22])
    (.cond (.t 22)
      (.seq (.ops [⟨(some 23), .mov (.t 6), none, false, []⟩,
        ⟨(some 4), .mov (.c .nils), none, false, []⟩,
        ⟨(some 5), .mov (.t 23), none, false, []⟩] none [4, 5])
      .ret)
      .skip)))
    (.seq (.ops [⟨(some 24), .faddr 1 (.t 3), none, false, []⟩,
      ⟨(some 25), .load 3 true (.t 24), none, false, []⟩,
      ⟨(some 26), .bslice false 1 3 [(.int .i64 0), (.int .i64 0), (.str [])] [(0, 3, (.t 25))], none, false, []⟩,
      ⟨(some 4), .mov (.t 26), none, false, []⟩,
      ⟨(some 5), .mov (.c (.int .i64 0)), none, false, []⟩] none [4, 5])
    .ret))
    (.seq (.ops [⟨(some 28), .bin .none .eql (.t 14) (.c (.int .i64 2)), none, false, []⟩,
      ⟨(some 27), .mov (.t 28), none, false, []⟩] none [0, 14, 27])
    (.cond (.t 27)
      (.seq (.ops [⟨(some 29), .mov (.t 0), none, false, []⟩,
        ⟨(some 30), .nilchk (.t 29), none, false, []⟩,
        ⟨(some 31), .faddr 3 (.t 30), none, false, []⟩,
        ⟨none, .store 1 (.t 31) (.c (.bool false)), none, false, []⟩] none [])
      (.seq (.ops [⟨(some 4), .mov (.c .nils), none, false, []⟩,
        ⟨(some 5), .mov (.c (.int .i64 0)), none, false, []⟩] none [4, 5])
      .ret))
      (.seq (.ops [⟨(some 33), .bin .none .eql (.t 14) (.c (.int .i64 3)), none, false, []⟩,
        ⟨(some 32), .mov (.t 33), none, false, []⟩] none [0, 14, 32])
      (.cond (.t 32)
        (.seq (.ops [⟨(some 35), .mov (.t 0), none, false, []⟩,
          ⟨(some 36), .nilchk (.t 35), none, false, []⟩,
          ⟨(some 37), .faddr 1 (.t 36), none, false, []⟩,
          ⟨(some 38), .call f_hist_pop [(.t 37)], none, false, []⟩,
          ⟨(some 34), .mov (.t 38), none, false, []⟩,
          ⟨(some 39), .extract (.t 34) 0, none, false, []⟩,
          ⟨(some 40), .extract (.t 34) 1, none, false, []⟩,
          ⟨(some 7), .alloc 0 [.nils, .nils], none, false, []⟩,
          ⟨none, .store 2 (.t 7) (.t 39), none, false, []⟩,
          ⟨(some 8), .mov (.t 40), none, false, []⟩] none [0, 7, 8])
        (.seq (.seq (.ops [⟨(some 41), .mov (.t 8), none, false, []⟩,
          ⟨(some 42), .not (.t 41), none, false, []⟩] none [0, 7, 42])
        (.cond (.t 42)
          (.seq (.ops [⟨(some 4), .mov (.c .nils), none, false, []⟩,
            ⟨(some 5), .mov (.c (.int .i64 7)), none, false, []⟩] none [4, 5])
          .ret)
          .skip))
        (.seq (.ops [⟨(some 9), .newnil 3, none, false, []⟩] none [0, 7, 9])
        (.seq (.seq (.ops [⟨(some 43), .faddr 1 (.t 7), none, false, []⟩,
          ⟨(some 44), .load 1 false (.t 43), none, false, []⟩,
          ⟨(some 45), .len false (.t 44), none, false, []⟩,
          ⟨(some 46), .bin .none .sub (.t 45) (.c (.int .i64 1)), none, false, []⟩,
          ⟨(some 10), .mov (.t 46), none, false, []⟩] none [0, 7, 9, 10])
        (.block 1 (.loop [0, 7] [9, 10] 3
          (.seq (.seq (.ops [⟨(some 47), .mov (.t 10), none, false, []⟩,
            ⟨(some 48), .bin .none .geq (.t 47) (.c (.int .i64 0)), none, false, []⟩] none [0, 7, 9, 10, 48])
          (.cond (.t 48)
            .skip
            (.exit 1)))
          (.seq (.block 2 (.ops [⟨(some 51), .mov (.t 9), none, false, []⟩,
            ⟨(some 52), .faddr 1 (.t 7), none, false, []⟩,
            ⟨(some 53), .load 1 false (.t 52), none, false, []⟩,
            ⟨(some 54), .mov (.t 10), none, false, []⟩,
            ⟨(some 55), .iaddr 3 none (.t 53) (.t 54), none, false, []⟩,
            ⟨(some 56), .load 3 true (.t 55), none, false, []⟩,
            ⟨(some 57), .bslice true 1 3 [(.int .i64 0), (.int .i64 0), (.str [])] [(0, 3, (.t 56))], none, false, []⟩,
            ⟨(some 58), .append 3 32 (.t 51) (.t 57), none, false, []⟩,
            ⟨(some 9), .mov (.t 58), none, false, []⟩] none [0, 7, 9, 10]))
          (.ops [⟨(some 49), .mov (.t 10), none, false, []⟩,
            ⟨(some 50), .bin .none .sub (.t 49) (.c (.int .i64 1)), none, false, []⟩,
            ⟨(some 10), .mov (.t 50), none, false, []⟩] none [0, 7, 9, 10]))))))
        (.seq (.ops [⟨(some 59), .mov (.t 0), none, false, []⟩,
          ⟨(some 60), .mov (.t 0), none, false, []⟩,
          ⟨(some 61), .nilchk (.t 60), none, false, []⟩,
          ⟨(some 62), .faddr 2 (.t 61), none, false, []⟩,
          ⟨(some 63), .load 1 false (.t 62), none, false, []⟩,
          ⟨(some 64), .load 2 true (.t 7), none, false, []⟩,
          ⟨(some 65), .bslice true 1 2 [.nils, .nils] [(0, 2, (.t 64))], none, false, []⟩,
          ⟨(some 66), .append 2 48 (.t 63) (.t 65), none, false, []⟩,
          ⟨(some 67), .nilchk (.t 59), none, false, []⟩,
          ⟨(some 68), .faddr 2 (.t 67), none, false, []⟩,
          ⟨none, .store 1 (.t 68) (.t 66), none, false, []⟩] (some (0, 0, [0, 1, 2, 3, 4, 5, 6, 7, 8, 9, 10])) [0, 9])
        (.seq (.ops [⟨(some 69), .mov (.t 0), none, false, []⟩,
          ⟨(some 70), .mov (.t 9), none, false, []⟩,
          ⟨(some 71), .call f___hist_History__change [(.t 69), (.t 70)], none, false, []⟩,
          ⟨(some 4), .mov (.t 71), none, false, []⟩,
          ⟨(some 5), .mov (.c (.int .i64 0)), none, false, []⟩] none [4, 5])
        .ret))))))
        (.seq (.ops [⟨(some 73), .bin .none .eql (.t 14) (.c (.int .i64 4)), none, false, []⟩,
          ⟨(some 72), .mov (.t 73), none, false, []⟩] none [0, 72])
        (.cond (.t 72)
          (.seq (.ops [⟨(some 75), .mov (.t 0), none, false, []⟩,
            ⟨(some 76), .nilchk (.t 75), none, false, []⟩,
            ⟨(some 77), .faddr 2 (.t 76), none, false, []⟩,
            ⟨(some 78), .call f_hist_pop [(.t 77)], none, false, []⟩,
            ⟨(some 74), .mov (.t 78), none, false, []⟩,
            ⟨(some 79), .extract (.t 74) 0, none, false, []⟩,
            ⟨(some 80), .extract (.t 74) 1, none, false, []⟩,
            ⟨(some 11), .alloc 0 [.nils, .nils], none, false, []⟩,
            ⟨none, .store 2 (.t 11) (.t 79), none, false, []⟩,
            ⟨(some 12), .mov (.t 80), none, false, []⟩] none [0, 11, 12])
          (.seq (.seq (.ops [⟨(some 81), .mov (.t 12), none, false, []⟩,
            ⟨(some 82), .not (.t 81), none, false, []⟩] none [0, 11, 82])
          (.cond (.t 82)
            (.seq (.ops [⟨(some 4), .mov (.c .nils), none, false, []⟩,
              ⟨(some 5), .mov (.c (.int .i64 7)), none, false, []⟩] none [4, 5])
            .ret)
            .skip))
          (.seq (.ops [⟨(some 83), .mov (.t 0), none, false, []⟩,
            ⟨(some 84), .mov (.t 0), none, false, []⟩,
            ⟨(some 85), .nilchk (.t 84), none, false, []⟩,
            ⟨(some 86), .faddr 1 (.t 85), none, false, []⟩,
            ⟨(some 87), .load 1 false (.t 86), none, false, []⟩,
            ⟨(some 88), .load 2 true (.t 11), none, false, []⟩,
            ⟨(some 89), .bslice true 1 2 [.nils, .nils] [(0, 2, (.t 88))], none, false, []⟩,
            ⟨(some 90), .append 2 48 (.t 87) (.t 89), none, false, []⟩,
            ⟨(some 91), .nilchk (.t 83), none, false, []⟩,
            ⟨(some 92), .faddr 1 (.t 91), none, false, []⟩,
            ⟨none, .store 1 (.t 92) (.t 90), none, false, []⟩] (some (0, 0, [0, 1, 2, 3, 4, 5, 6, 7, 8, 9, 10])) [0, 11])
          (.seq (.ops [⟨(some 93), .mov (.t 0), none, false, []⟩,
            ⟨(some 94), .faddr 0 (.t 11), none, false, []⟩,
            ⟨(some 95), .load 1 false (.t 94), none, false, []⟩,
            ⟨(some 96), .call f___hist_History__change [(.t 93), (.t 95)], none, false, []⟩,
            ⟨(some 4), .mov (.t 96), none, false, []⟩,
            ⟨(some 5), .mov (.c (.int .i64 0)), none, false, []⟩] none [4, 5])
          .ret))))
          .skip))))))))))
  (.seq (.ops [⟨(some 4), .mov (.c .nils), none, false, []⟩,
    ⟨(some 5), .mov (.c (.int .i64 3)), none, false, []⟩] none [4, 5])
  .ret)))
def __hist_History__Deed_r : List RRes := [.tmp 4, .tmp 5]
def __hist_History__Deed_hi : Hi := ⟨[(26, (.st (.cons (.int .i64) (.cons (.int .i64) (.cons .str .nil))))), (9, (.st (.cons (.int .i64) (.cons (.int .i64) (.cons .str .nil))))), (57, (.st (.cons (.int .i64) (.cons (.int .i64) (.cons .str .nil))))), (58, (.st (.cons (.int .i64) (.cons (.int .i64) (.cons .str .nil))))), (65, (.st (.cons (.sl (.st (.cons (.int .i64) (.cons (.int .i64) (.cons .str .nil))))) (.cons (.sl (.st (.cons (.int .i64) (.cons (.int .i64) (.cons .str .nil))))) .nil)))), (66, (.st (.cons (.sl (.st (.cons (.int .i64) (.cons (.int .i64) (.cons .str .nil))))) (.cons (.sl (.st (.cons (.int .i64) (.cons (.int .i64) (.cons .str .nil))))) .nil)))), (89, (.st (.cons (.sl (.st (.cons (.int .i64) (.cons (.int .i64) (.cons .str .nil))))) (.cons (.sl (.st (.cons (.int .i64) (.cons (.int .i64) (.cons .str .nil))))) .nil)))), (90, (.st (.cons (.sl (.st (.cons (.int .i64) (.cons (.int .i64) (.cons .str .nil))))) (.cons (.sl (.st (.cons (.int .i64) (.cons (.int .i64) (.cons .str .nil))))) .nil)))), (3, (.st (.cons (.int .i64) (.cons (.st (.cons (.int .i64) (.cons (.int .i64) (.cons .str .nil)))) .nil)))), (17, (.st (.cons .str (.cons (.sl (.st (.cons (.sl (.st (.cons (.int .i64) (.cons (.int .i64) (.cons .str .nil))))) (.cons (.sl (.st (.cons (.int .i64) (.cons (.int .i64) (.cons .str .nil))))) .nil)))) (.cons (.sl (.st (.cons (.sl (.st (.cons (.int .i64) (.cons (.int .i64) (.cons .str .nil))))) (.cons (.sl (.st (.cons (.int .i64) (.cons (.int .i64) (.cons .str .nil))))) .nil)))) (.cons .bool .nil)))))), (29, (.st (.cons .str (.cons (.sl (.st (.cons (.sl (.st (.cons (.int .i64) (.cons (.int .i64) (.cons .str .nil))))) (.cons (.sl (.st (.cons (.int .i64) (.cons (.int .i64) (.cons .str .nil))))) .nil)))) (.cons (.sl (.st (.cons (.sl (.st (.cons (.int .i64) (.cons (.int .i64) (.cons .str .nil))))) (.cons (.sl (.st (.cons (.int .i64) (.cons (.int .i64) (.cons .str .nil))))) .nil)))) (.cons .bool .nil)))))), (35, (.st (.cons .str (.cons (.sl (.st (.cons (.sl (.st (.cons (.int .i64) (.cons (.int .i64) (.cons .str .nil))))) (.cons (.sl (.st (.cons (.int .i64) (.cons (.int .i64) (.cons .str .nil))))) .nil)))) (.cons (.sl (.st (.cons (.sl (.st (.cons (.int .i64) (.cons (.int .i64) (.cons .str .nil))))) (.cons (.sl (.st (.cons (.int .i64) (.cons (.int .i64) (.cons .str .nil))))) .nil)))) (.cons .bool .nil)))))), (7, (.st (.cons (.sl (.st (.cons (.int .i64) (.cons (.int .i64) (.cons .str .nil))))) (.cons (.sl (.st (.cons (.int .i64) (.cons (.int .i64) (.cons .str .nil))))) .nil)))), (59, (.st (.cons .str (.cons (.sl (.st (.cons (.sl (.st (.cons (.int .i64) (.cons (.int .i64) (.cons .str .nil))))) (.cons (.sl (.st (.cons (.int .i64) (.cons (.int .i64) (.cons .str .nil))))) .nil)))) (.cons (.sl (.st (.cons (.sl (.st (.cons (.int .i64) (.cons (.int .i64) (.cons .str .nil))))) (.cons (.sl (.st (.cons (.int .i64) (.cons (.int .i64) (.cons .str .nil))))) .nil)))) (.cons .bool .nil)))))), (60, (.st (.cons .str (.cons (.sl (.st (.cons (.sl (.st (.cons (.int .i64) (.cons (.int .i64) (.cons .str .nil))))) (.cons (.sl (.st (.cons (.int .i64) (.cons (.int .i64) (.cons .str .nil))))) .nil)))) (.cons (.sl (.st (.cons (.sl (.st (.cons (.int .i64) (.cons (.int .i64) (.cons .str .nil))))) (.cons (.sl (.st (.cons (.int .i64) (.cons (.int .i64) (.cons .str .nil))))) .nil)))) (.cons .bool .nil)))))), (69, (.st (.cons .str (.cons (.sl (.st (.cons (.sl (.st (.cons (.int .i64) (.cons (.int .i64) (.cons .str .nil))))) (.cons (.sl (.st (.cons (.int .i64) (.cons (.int .i64) (.cons .str .nil))))) .nil)))) (.cons (.sl (.st (.cons (.sl (.st (.cons (.int .i64) (.cons (.int .i64) (.cons .str .nil))))) (.cons (.sl (.st (.cons (.int .i64) (.cons (.int .i64) (.cons .str .nil))))) .nil)))) (.cons .bool .nil)))))), (75, (.st (.cons .str (.cons (.sl (.st (.cons (.sl (.st (.cons (.int .i64) (.cons (.int .i64) (.cons .str .nil))))) (.cons (.sl (.st (.cons (.int .i64) (.cons (.int .i64) (.cons .str .nil))))) .nil)))) (.cons (.sl (.st (.cons (.sl (.st (.cons (.int .i64) (.cons (.int .i64) (.cons .str .nil))))) (.cons (.sl (.st (.cons (.int .i64) (.cons (.int .i64) (.cons .str .nil))))) .nil)))) (.cons .bool .nil)))))), (11, (.st (.cons (.sl (.st (.cons (.int .i64) (.cons (.int .i64) (.cons .str .nil))))) (.cons (.sl (.st (.cons (.int .i64) (.cons (.int .i64) (.cons .str .nil))))) .nil)))), (83, (.st (.cons .str (.cons (.sl (.st (.cons (.sl (.st (.cons (.int .i64) (.cons (.int .i64) (.cons .str .nil))))) (.cons (.sl (.st (.cons (.int .i64) (.cons (.int .i64) (.cons .str .nil))))) .nil)))) (.cons (.sl (.st (.cons (.sl (.st (.cons (.int .i64) (.cons (.int .i64) (.cons .str .nil))))) (.cons (.sl (.st (.cons (.int .i64) (.cons (.int .i64) (.cons .str .nil))))) .nil)))) (.cons .bool .nil)))))), (84, (.st (.cons .str (.cons (.sl (.st (.cons (.sl (.st (.cons (.int .i64) (.cons (.int .i64) (.cons .str .nil))))) (.cons (.sl (.st (.cons (.int .i64) (.cons (.int .i64) (.cons .str .nil))))) .nil)))) (.cons (.sl (.st (.cons (.sl (.st (.cons (.int .i64) (.cons (.int .i64) (.cons .str .nil))))) (.cons (.sl (.st (.cons (.int .i64) (.cons (.int .i64) (.cons .str .nil))))) .nil)))) (.cons .bool .nil)))))), (93, (.st (.cons .str (.cons (.sl (.st (.cons (.sl (.st (.cons (.int .i64) (.cons (.int .i64) (.cons .str .nil))))) (.cons (.sl (.st (.cons (.int .i64) (.cons (.int .i64) (.cons .str .nil))))) .nil)))) (.cons (.sl (.st (.cons (.sl (.st (.cons (.int .i64) (.cons (.int .i64) (.cons .str .nil))))) (.cons (.sl (.st (.cons (.int .i64) (.cons (.int .i64) (.cons .str .nil))))) .nil)))) (.cons .bool .nil)))))), (0, (.st (.cons .str (.cons (.sl (.st (.cons (.sl (.st (.cons (.int .i64) (.cons (.int .i64) (.cons .str .nil))))) (.cons (.sl (.st (.cons (.int .i64) (.cons (.int .i64) (.cons .str .nil))))) .nil)))) (.cons (.sl (.st (.cons (.sl (.st (.cons (.int .i64) (.cons (.int .i64) (.cons .str .nil))))) (.cons (.sl (.st (.cons (.int .i64) (.cons (.int .i64) (.cons .str .nil))))) .nil)))) (.cons .bool .nil))))))], [(0, "h"), (1, "d"), (2, "h"), (3, "d"), (6, "e"), (7, "g"), (8, "is"), (9, "made"), (10, "i"), (11, "g"), (12, "is")]⟩
def __hist_History__Deed_an : An := (.seq .d (.seq (.seq .d (.seq .d (.seq .d (.seq .d (.seq .d (.seq .d (.seq (.seq .d (.seq .d (.seq .d (.seq (.seq .d (.loop [9] [] [] .d)) .d)))) .d))))))) .d))
def __hist_History__Deed_fi : Fi := ⟨97, __hist_History__Deed_c, __hist_History__Deed_r, __hist_History__Deed_an, __hist_History__Deed_hi, none⟩
theorem __hist_History__Deed_ok : FiOk Try.prog f___hist_History__Deed __hist_History__Deed_fi :=
  ⟨fun _ => by kernel_rfl, fun _ h hlen => fun_sound (by kernel_rfl) (fn := Try.f15) (draw_sound _ _) Try.func15 rfl (by kernel_rfl : comp Try.prog 97 _ __hist_History__Deed_c = some __hist_History__Deed_c) (by kernel_rfl : cRes Try.prog Try.f15.results.toList = some __hist_History__Deed_r) hlen h, fun _ h => nomatch h⟩

/-- fustian/hist.New: slots [0 text, 1 text] -/
def hist_New_c : SCode :=
  (.seq (.ops [⟨(some 2), .mov (.c .nilp), none, false, []⟩] none [0])
  (.seq (.ops [⟨(some 3), .mov (.t 0), none, false, []⟩,
    ⟨(some 4), .build [(.str []), .nils, .nils, (.bool false)] [(0, 1, (.t 3))], none, false, []⟩,
    ⟨(some 5), .box 0 (.t 4), none, false, []⟩,
    ⟨(some 2), .mov (.t 5), none, false, []⟩] none [2])
  .ret))
def hist_New_r : List RRes := [.tmp 2]
def hist_New_hi : Hi := ⟨[(2, (.st (.cons .str (.cons (.sl (.st (.cons (.sl (.st (.cons (.int .i64) (.cons (.int .i64) (.cons .str .nil))))) (.cons (.sl (.st (.cons (.int .i64) (.cons (.int .i64) (.cons .str .nil))))) .nil)))) (.cons (.sl (.st (.cons (.sl (.st (.cons (.int .i64) (.cons (.int .i64) (.cons .str .nil))))) (.cons (.sl (.st (.cons (.int .i64) (.cons (.int .i64) (.cons .str .nil))))) .nil)))) (.cons .bool .nil)))))), (5, (.st (.cons .str (.cons (.sl (.st (.cons (.sl (.st (.cons (.int .i64) (.cons (.int .i64) (.cons .str .nil))))) (.cons (.sl (.st (.cons (.int .i64) (.cons (.int .i64) (.cons .str .nil))))) .nil)))) (.cons (.sl (.st (.cons (.sl (.st (.cons (.int .i64) (.cons (.int .i64) (.cons .str .nil))))) (.cons (.sl (.st (.cons (.int .i64) (.cons (.int .i64) (.cons .str .nil))))) .nil)))) (.cons .bool .nil))))))], [(0, "text"), (1, "text")]⟩
def hist_New_an : An := .d
def hist_New_fi : Fi := ⟨6, hist_New_c, hist_New_r, hist_New_an, hist_New_hi, none⟩
theorem hist_New_ok : FiOk Try.prog f_hist_New hist_New_fi :=
  ⟨fun _ => by kernel_rfl, fun _ h hlen => fun_sound (by kernel_rfl) (fn := Try.f14) (draw_sound _ _) Try.func14 rfl (by kernel_rfl : comp Try.prog 6 _ hist_New_c = some hist_New_c) (by kernel_rfl : cRes Try.prog Try.f14.results.toList = some hist_New_r) hlen h, fun _ h => nomatch h⟩

/-- fustian/hist.play: slots [0 text, 1 l, 2 text, 3 l, 8 h, 9 texts, 10 codes, 11 _, 12 d, 13 _, 14 e] -/
def hist_play_c : SCode :=
  (.seq (.ops [⟨(some 4), .mov (.c .nilp), none, false, []⟩,
    ⟨(some 5), .mov (.c .nils), none, false, []⟩,
    ⟨(some 6), .mov (.c .nils), none, false, []⟩,
    ⟨(some 7), .mov (.c (.int .i64 0)), none, false, []⟩] none [0, 1])
  (.seq (.seq (.ops [⟨(some 15), .mov (.t 0), none, false, []⟩,
    ⟨(some 16), .len true (.t 15), none, false, []⟩,
    ⟨(some 17), .bin .none .gtr (.t 16) (.c (.int .i64 600)), none, false, []⟩,
    ⟨(some 18), .mov (.t 17), none, true, []⟩,
    ⟨(some 19), .mov (.t 1), (some (18, false)), false, []⟩,
    ⟨(some 20), .len false (.t 19), (some (18, false)), false, []⟩,
    ⟨(some 21), .bin .none .gtr (.t 20) (.c (.int .i64 80)), (some (18, false)), false, []⟩,
    ⟨(some 22), .pick (.t 18) (.c (.bool true)) (.t 21), none, false, []⟩] none [0, 1, 22])
  (.cond (.t 22)
    (.seq (.ops [⟨(some 4), .mov (.c .nilp), none, false, []⟩,
      ⟨(some 5), .mov (.c .nils), none, false, []⟩,
      ⟨(some 6), .mov (.c .nils), none, false, []⟩,
      ⟨(some 7), .mov (.c (.int .i64 1)), none, false, []⟩] none [4, 5, 6, 7])
    .ret)
    .skip))
  (.seq (.ops [⟨(some 23), .mov (.t 0), none, false, []⟩,
    ⟨(some 24), .call f_hist_New [(.t 23)], none, false, []⟩,
    ⟨(some 8), .mov (.t 24), none, false, []⟩] none [1, 8])
  (.seq (.ops [⟨(some 9), .newnil 1, none, false, []⟩] none [1, 8, 9])
  (.seq (.ops [⟨(some 10), .newnil 1, none, false, []⟩] none [1, 8, 9, 10])
  (.seq (.seq (.ops [⟨(some 25), .mov (.t 1), none, false, []⟩,
    ⟨(some 26), .len false (.t 25), none, false, []⟩,
    ⟨(some 27), .mov (.c (.int .i64 0)), none, false, []⟩] none [8, 9, 10, 25, 26, 27])
  (.block 0 (.loop [8, 25, 26] [9, 10, 27] 2
    (.seq (.ops [⟨(some 28), .bin .none .lss (.t 27) (.t 26), none, false, []⟩] none [8, 9, 10, 25, 26, 27, 28])
    (.seq (.cond (.t 28)
      .skip
      (.exit 0))
    (.seq (.block 1 (.seq (.ops [⟨(some 29), .iaddr 4 none (.t 25) (.t 27), none, false, []⟩,
      ⟨(some 30), .load 4 true (.t 29), none, false, []⟩,
      ⟨(some 12), .alloc 0 [(.int .i64 0), (.int .i64 0), (.int .i64 0), (.str [])], none, false, []⟩,
      ⟨none, .store 4 (.t 12) (.t 30), none, false, []⟩] none [8, 9, 10, 12, 25, 26, 27])
    (.seq (.ops [⟨(some 32), .mov (.t 8), none, false, []⟩,
      ⟨(some 33), .load 4 true (.t 12), none, false, []⟩,
      ⟨(some 34), .call f___hist_History__Deed [(.t 32), (.t 33)], none, false, []⟩,
      ⟨(some 31), .mov (.t 34), none, false, []⟩,
      ⟨(some 35), .extract (.t 31) 0, none, false, []⟩,
      ⟨(some 36), .extract (.t 31) 1, none, false, []⟩,
      ⟨(some 13), .mov (.t 35), none, false, []⟩,
      ⟨(some 14), .mov (.t 36), none, false, []⟩] none [8, 9, 10, 14, 25, 26, 27])
    (.ops [⟨(some 37), .mov (.t 9), none, false, []⟩,
      ⟨(some 38), .mov (.t 8), none, false, []⟩,
      ⟨(some 39), .nilchk (.t 38), none, false, []⟩,
      ⟨(some 40), .faddr 0 (.t 39), none, false, []⟩,
      ⟨(some 41), .load 1 false (.t 40), none, false, []⟩,
      ⟨(some 42), .bslice true 1 1 [(.str [])] [(0, 1, (.t 41))], none, false, []⟩,
      ⟨(some 43), .append 1 16 (.t 37) (.t 42), none, false, []⟩,
      ⟨(some 44), .mov (.t 10), none, false, []⟩,
      ⟨(some 45), .mov (.t 14), none, false, []⟩,
      ⟨(some 46), .bslice true 1 1 [(.int .i64 0)] [(0, 1, (.t 45))], none, false, []⟩,
      ⟨(some 47), .append 1 8 (.t 44) (.t 46), none, false, []⟩,
      ⟨(some 9), .mov (.t 43), none, false, []⟩,
      ⟨(some 10), .mov (.t 47), none, false, []⟩] none [8, 9, 10, 25, 26, 27]))))
    (.ops [⟨(some 48), .bin .none .add (.t 27) (.c (.int .i64 1)), none, false, []⟩,
      ⟨(some 27), .mov (.t 48), none, false, []⟩] none [8, 9, 10, 25, 26, 27])))))))
  (.seq (.ops [⟨(some 49), .mov (.t 8), none, false, []⟩,
    ⟨(some 50), .mov (.t 9), none, false, []⟩,
    ⟨(some 51), .mov (.t 10), none, false, []⟩,
    ⟨(some 4), .mov (.t 49), none, false, []⟩,
    ⟨(some 5), .mov (.t 50), none, false, []⟩,
    ⟨(some 6), .mov (.t 51), none, false, []⟩,
    ⟨(some 7), .mov (.c (.int .i64 0)), none, false, []⟩] none [4, 5, 6, 7])
  .ret)))))))
def hist_play_r : List RRes := [.tmp 4, .tmp 5, .tmp 6, .tmp 7]
def hist_play_hi : Hi := ⟨[(9, .str), (10, (.int .i64)), (42, .str), (43, .str), (46, (.int .i64)), (47, (.int .i64)), (4, (.st (.cons .str (.cons (.sl (.st (.cons (.sl (.st (.cons (.int .i64) (.cons (.int .i64) (.cons .str .nil))))) (.cons (.sl (.st (.cons (.int .i64) (.cons (.int .i64) (.cons .str .nil))))) .nil)))) (.cons (.sl (.st (.cons (.sl (.st (.cons (.int .i64) (.cons (.int .i64) (.cons .str .nil))))) (.cons (.sl (.st (.cons (.int .i64) (.cons (.int .i64) (.cons .str .nil))))) .nil)))) (.cons .bool .nil)))))), (24, (.st (.cons .str (.cons (.sl (.st (.cons (.sl (.st (.cons (.int .i64) (.cons (.int .i64) (.cons .str .nil))))) (.cons (.sl (.st (.cons (.int .i64) (.cons (.int .i64) (.cons .str .nil))))) .nil)))) (.cons (.sl (.st (.cons (.sl (.st (.cons (.int .i64) (.cons (.int .i64) (.cons .str .nil))))) (.cons (.sl (.st (.cons (.int .i64) (.cons (.int .i64) (.cons .str .nil))))) .nil)))) (.cons .bool .nil)))))), (8, (.st (.cons .str (.cons (.sl (.st (.cons (.sl (.st (.cons (.int .i64) (.cons (.int .i64) (.cons .str .nil))))) (.cons (.sl (.st (.cons (.int .i64) (.cons (.int .i64) (.cons .str .nil))))) .nil)))) (.cons (.sl (.st (.cons (.sl (.st (.cons (.int .i64) (.cons (.int .i64) (.cons .str .nil))))) (.cons (.sl (.st (.cons (.int .i64) (.cons (.int .i64) (.cons .str .nil))))) .nil)))) (.cons .bool .nil)))))), (12, (.st (.cons (.int .i64) (.cons (.st (.cons (.int .i64) (.cons (.int .i64) (.cons .str .nil)))) .nil)))), (32, (.st (.cons .str (.cons (.sl (.st (.cons (.sl (.st (.cons (.int .i64) (.cons (.int .i64) (.cons .str .nil))))) (.cons (.sl (.st (.cons (.int .i64) (.cons (.int .i64) (.cons .str .nil))))) .nil)))) (.cons (.sl (.st (.cons (.sl (.st (.cons (.int .i64) (.cons (.int .i64) (.cons .str .nil))))) (.cons (.sl (.st (.cons (.int .i64) (.cons (.int .i64) (.cons .str .nil))))) .nil)))) (.cons .bool .nil)))))), (38, (.st (.cons .str (.cons (.sl (.st (.cons (.sl (.st (.cons (.int .i64) (.cons (.int .i64) (.cons .str .nil))))) (.cons (.sl (.st (.cons (.int .i64) (.cons (.int .i64) (.cons .str .nil))))) .nil)))) (.cons (.sl (.st (.cons (.sl (.st (.cons (.int .i64) (.cons (.int .i64) (.cons .str .nil))))) (.cons (.sl (.st (.cons (.int .i64) (.cons (.int .i64) (.cons .str .nil))))) .nil)))) (.cons .bool .nil)))))), (49, (.st (.cons .str (.cons (.sl (.st (.cons (.sl (.st (.cons (.int .i64) (.cons (.int .i64) (.cons .str .nil))))) (.cons (.sl (.st (.cons (.int .i64) (.cons (.int .i64) (.cons .str .nil))))) .nil)))) (.cons (.sl (.st (.cons (.sl (.st (.cons (.int .i64) (.cons (.int .i64) (.cons .str .nil))))) (.cons (.sl (.st (.cons (.int .i64) (.cons (.int .i64) (.cons .str .nil))))) .nil)))) (.cons .bool .nil))))))], [(0, "text"), (1, "l"), (2, "text"), (3, "l"), (8, "h"), (9, "texts"), (10, "codes"), (12, "d"), (14, "e")]⟩
def hist_play_an : An := (.seq .d (.seq .d (.seq .d (.seq .d (.seq .d (.seq (.seq .d (.loop [8, 9, 10] [] [] .d)) .d))))))
def hist_play_fi : Fi := ⟨52, hist_play_c, hist_play_r, hist_play_an, hist_play_hi, none⟩
theorem hist_play_ok : FiOk Try.prog f_hist_play hist_play_fi :=
  ⟨fun _ => by kernel_rfl, fun _ h hlen => fun_sound (by kernel_rfl) (fn := Try.f10) (draw_sound _ _) Try.func10 rfl (by kernel_rfl : comp Try.prog 52 _ hist_play_c = some hist_play_c) (by kernel_rfl : cRes Try.prog Try.f10.results.toList = some hist_play_r) hlen h, fun _ h => nomatch h⟩

/-- fustian/hist.Play: slots [0 text, 1 l, 2 text, 3 l, 4 texts, 5 codes, 6 e] -/
def hist_Play_c : SCode :=
  (.seq (.ops [⟨(some 4), .mov (.c .nils), none, false, []⟩,
    ⟨(some 5), .mov (.c .nils), none, false, []⟩,
    ⟨(some 6), .mov (.c (.int .i64 0)), none, false, []⟩] none [0, 1])
  (.seq (.ops [⟨(some 8), .mov (.t 0), none, false, []⟩,
    ⟨(some 9), .mov (.t 1), none, false, []⟩,
    ⟨(some 10), .call f_hist_play [(.t 8), (.t 9)], none, false, []⟩,
    ⟨(some 7), .mov (.t 10), none, false, []⟩,
    ⟨(some 11), .extract (.t 7) 0, none, false, []⟩,
    ⟨(some 12), .extract (.t 7) 1, none, false, []⟩,
    ⟨(some 13), .extract (.t 7) 2, none, false, []⟩,
    ⟨(some 14), .extract (.t 7) 3, none, false, []⟩,
    ⟨(some 4), .mov (.t 12), none, false, []⟩,
    ⟨(some 5), .mov (.t 13), none, false, []⟩,
    ⟨(some 6), .mov (.t 14), none, false, []⟩] none [4, 5, 6])
  (.seq (.ops [⟨(some 15), .mov (.t 4), none, false, []⟩,
    ⟨(some 16), .mov (.t 5), none, false, []⟩,
    ⟨(some 17), .mov (.t 6), none, false, []⟩,
    ⟨(some 4), .mov (.t 15), none, false, []⟩,
    ⟨(some 5), .mov (.t 16), none, false, []⟩,
    ⟨(some 6), .mov (.t 17), none, false, []⟩] none [4, 5, 6])
  .ret)))
def hist_Play_r : List RRes := [.tmp 4, .tmp 5, .tmp 6]
def hist_Play_hi : Hi := ⟨[(11, (.st (.cons .str (.cons (.sl (.st (.cons (.sl (.st (.cons (.int .i64) (.cons (.int .i64) (.cons .str .nil))))) (.cons (.sl (.st (.cons (.int .i64) (.cons (.int .i64) (.cons .str .nil))))) .nil)))) (.cons (.sl (.st (.cons (.sl (.st (.cons (.int .i64) (.cons (.int .i64) (.cons .str .nil))))) (.cons (.sl (.st (.cons (.int .i64) (.cons (.int .i64) (.cons .str .nil))))) .nil)))) (.cons .bool .nil))))))], [(0, "text"), (1, "l"), (2, "text"), (3, "l"), (4, "texts"), (5, "codes"), (6, "e")]⟩
def hist_Play_an : An := .d
def hist_Play_fi : Fi := ⟨18, hist_Play_c, hist_Play_r, hist_Play_an, hist_Play_hi, none⟩
theorem hist_Play_ok : FiOk Try.prog f_hist_Play hist_Play_fi :=
  ⟨fun _ => by kernel_rfl, fun _ h hlen => fun_sound (by kernel_rfl) (fn := Try.f5) (draw_sound _ _) Try.func5 rfl (by kernel_rfl : comp Try.prog 18 _ hist_Play_c = some hist_Play_c) (by kernel_rfl : cRes Try.prog Try.f5.results.toList = some hist_Play_r) hlen h, fun _ h => nomatch h⟩

/-- fustian/hist.Counts: slots [0 text, 1 l, 2 text, 3 l, 4 undo, 5 redo, 6 e, 7 h, 8 _, 9 _] -/
def hist_Counts_c : SCode :=
  (.seq (.ops [⟨(some 4), .mov (.c (.int .i64 0)), none, false, []⟩,
    ⟨(some 5), .mov (.c (.int .i64 0)), none, false, []⟩,
    ⟨(some 6), .mov (.c (.int .i64 0)), none, false, []⟩] none [0, 1])
  (.seq (.ops [⟨(some 11), .mov (.t 0), none, false, []⟩,
    ⟨(some 12), .mov (.t 1), none, false, []⟩,
    ⟨(some 13), .call f_hist_play [(.t 11), (.t 12)], none, false, []⟩,
    ⟨(some 10), .mov (.t 13), none, false, []⟩,
    ⟨(some 14), .extract (.t 10) 0, none, false, []⟩,
    ⟨(some 15), .extract (.t 10) 1, none, false, []⟩,
    ⟨(some 16), .extract (.t 10) 2, none, false, []⟩,
    ⟨(some 17), .extract (.t 10) 3, none, false, []⟩,
    ⟨(some 7), .mov (.t 14), none, false, []⟩,
    ⟨(some 8), .mov (.t 15), none, false, []⟩,
    ⟨(some 9), .mov (.t 16), none, false, []⟩,
    ⟨(some 6), .mov (.t 17), none, false, []⟩] none [6, 7])
  (.seq (.seq (.ops [⟨(some 18), .mov (.t 6), none, false, []⟩,
    ⟨(some 19), .bin .none .neq (.t 18) (.c (.int .i64 0)), none, false, []⟩] none [6, 7, 19])
  (.cond (.t 19)
    (.seq (.ops [⟨(some 20), .mov (.t 6), none, false, []⟩,
      ⟨(some 4), .mov (.c (.int .i64 0)), none, false, []⟩,
      ⟨(some 5), .mov (.c (.int .i64 0)), none, false, []⟩,
      ⟨(some 6), .mov (.t 20), none, false, []⟩] none [4, 5, 6])
    .ret)
    .skip))
  (.seq (.ops [⟨(some 22), .mov (.t 7), none, false, []⟩,
    ⟨(some 23), .call f___hist_History__Counts [(.t 22)], none, false, []⟩,
    ⟨(some 21), .mov (.t 23), none, false, []⟩,
    ⟨(some 24), .extract (.t 21) 0, none, false, []⟩,
    ⟨(some 25), .extract (.t 21) 1, none, false, []⟩,
    ⟨(some 4), .mov (.t 24), none, false, []⟩,
    ⟨(some 5), .mov (.t 25), none, false, []⟩] none [4, 5])
  (.seq (.ops [⟨(some 26), .mov (.t 4), none, false, []⟩,
    ⟨(some 27), .mov (.t 5), none, false, []⟩,
    ⟨(some 4), .mov (.t 26), none, false, []⟩,
    ⟨(some 5), .mov (.t 27), none, false, []⟩,
    ⟨(some 6), .mov (.c (.int .i64 0)), none, false, []⟩] none [4, 5, 6])
  .ret)))))
def hist_Counts_r : List RRes := [.tmp 4, .tmp 5, .tmp 6]
def hist_Counts_hi : Hi := ⟨[(14, (.st (.cons .str (.cons (.sl (.st (.cons (.sl (.st (.cons (.int .i64) (.cons (.int .i64) (.cons .str .nil))))) (.cons (.sl (.st (.cons (.int .i64) (.cons (.int .i64) (.cons .str .nil))))) .nil)))) (.cons (.sl (.st (.cons (.sl (.st (.cons (.int .i64) (.cons (.int .i64) (.cons .str .nil))))) (.cons (.sl (.st (.cons (.int .i64) (.cons (.int .i64) (.cons .str .nil))))) .nil)))) (.cons .bool .nil)))))), (7, (.st (.cons .str (.cons (.sl (.st (.cons (.sl (.st (.cons (.int .i64) (.cons (.int .i64) (.cons .str .nil))))) (.cons (.sl (.st (.cons (.int .i64) (.cons (.int .i64) (.cons .str .nil))))) .nil)))) (.cons (.sl (.st (.cons (.sl (.st (.cons (.int .i64) (.cons (.int .i64) (.cons .str .nil))))) (.cons (.sl (.st (.cons (.int .i64) (.cons (.int .i64) (.cons .str .nil))))) .nil)))) (.cons .bool .nil)))))), (22, (.st (.cons .str (.cons (.sl (.st (.cons (.sl (.st (.cons (.int .i64) (.cons (.int .i64) (.cons .str .nil))))) (.cons (.sl (.st (.cons (.int .i64) (.cons (.int .i64) (.cons .str .nil))))) .nil)))) (.cons (.sl (.st (.cons (.sl (.st (.cons (.int .i64) (.cons (.int .i64) (.cons .str .nil))))) (.cons (.sl (.st (.cons (.int .i64) (.cons (.int .i64) (.cons .str .nil))))) .nil)))) (.cons .bool .nil))))))], [(0, "text"), (1, "l"), (2, "text"), (3, "l"), (4, "undo"), (5, "redo"), (6, "e"), (7, "h")]⟩
def hist_Counts_an : An := .d
def hist_Counts_fi : Fi := ⟨28, hist_Counts_c, hist_Counts_r, hist_Counts_an, hist_Counts_hi, none⟩
theorem hist_Counts_ok : FiOk Try.prog f_hist_Counts hist_Counts_fi :=
  ⟨fun _ => by kernel_rfl, fun _ h hlen => fun_sound (by kernel_rfl) (fn := Try.f9) (draw_sound _ _) Try.func9 rfl (by kernel_rfl : comp Try.prog 28 _ hist_Counts_c = some hist_Counts_c) (by kernel_rfl : cRes Try.prog Try.f9.results.toList = some hist_Counts_r) hlen h, fun _ h => nomatch h⟩

/-- (*fustian/hist.History).Counts: slots [0 h, 1 h, 2 undo, 3 redo] -/
def __hist_History__Counts_c : SCode :=
  (.seq (.ops [⟨(some 2), .mov (.c (.int .i64 0)), none, false, []⟩,
    ⟨(some 3), .mov (.c (.int .i64 0)), none, false, []⟩] none [0])
  (.seq (.ops [⟨(some 4), .mov (.t 0), none, false, []⟩,
    ⟨(some 5), .nilchk (.t 4), none, false, []⟩,
    ⟨(some 6), .faddr 1 (.t 5), none, false, []⟩,
    ⟨(some 7), .load 1 false (.t 6), none, false, []⟩,
    ⟨(some 8), .len false (.t 7), none, false, []⟩,
    ⟨(some 9), .mov (.t 0), none, false, []⟩,
    ⟨(some 10), .nilchk (.t 9), none, false, []⟩,
    ⟨(some 11), .faddr 2 (.t 10), none, false, []⟩,
    ⟨(some 12), .load 1 false (.t 11), none, false, []⟩,
    ⟨(some 13), .len false (.t 12), none, false, []⟩,
    ⟨(some 2), .mov (.t 8), none, false, []⟩,
    ⟨(some 3), .mov (.t 13), none, false, []⟩] (some (0, 0, [0, 1, 2, 3, 4, 5, 6, 7, 8, 9, 10, 11])) [2, 3])
  .ret))
def __hist_History__Counts_r : List RRes := [.tmp 2, .tmp 3]
def __hist_History__Counts_hi : Hi := ⟨[(4, (.st (.cons .str (.cons (.sl (.st (.cons (.sl (.st (.cons (.int .i64) (.cons (.int .i64) (.cons .str .nil))))) (.cons (.sl (.st (.cons (.int .i64) (.cons (.int .i64) (.cons .str .nil))))) .nil)))) (.cons (.sl (.st (.cons (.sl (.st (.cons (.int .i64) (.cons (.int .i64) (.cons .str .nil))))) (.cons (.sl (.st (.cons (.int .i64) (.cons (.int .i64) (.cons .str .nil))))) .nil)))) (.cons .bool .nil)))))), (9, (.st (.cons .str (.cons (.sl (.st (.cons (.sl (.st (.cons (.int .i64) (.cons (.int .i64) (.cons .str .nil))))) (.cons (.sl (.st (.cons (.int .i64) (.cons (.int .i64) (.cons .str .nil))))) .nil)))) (.cons (.sl (.st (.cons (.sl (.st (.cons (.int .i64) (.cons (.int .i64) (.cons .str .nil))))) (.cons (.sl (.st (.cons (.int .i64) (.cons (.int .i64) (.cons .str .nil))))) .nil)))) (.cons .bool .nil)))))), (0, (.st (.cons .str (.cons (.sl (.st (.cons (.sl (.st (.cons (.int .i64) (.cons (.int .i64) (.cons .str .nil))))) (.cons (.sl (.st (.cons (.int .i64) (.cons (.int .i64) (.cons .str .nil))))) .nil)))) (.cons (.sl (.st (.cons (.sl (.st (.cons (.int .i64) (.cons (.int .i64) (.cons .str .nil))))) (.cons (.sl (.st (.cons (.int .i64) (.cons (.int .i64) (.cons .str .nil))))) .nil)))) (.cons .bool .nil))))))], [(0, "h"), (1, "h"), (2, "undo"), (3, "redo")]⟩
def __hist_History__Counts_an : An := .d
def __hist_History__Counts_fi : Fi := ⟨14, __hist_History__Counts_c, __hist_History__Counts_r, __hist_History__Counts_an, __hist_History__Counts_hi, none⟩
theorem __hist_History__Counts_ok : FiOk Try.prog f___hist_History__Counts __hist_History__Counts_fi :=
  ⟨fun _ => by kernel_rfl, fun _ h hlen => fun_sound (by kernel_rfl) (fn := Try.f13) (draw_sound _ _) Try.func13 rfl (by kernel_rfl : comp Try.prog 14 _ __hist_History__Counts_c = some __hist_History__Counts_c) (by kernel_rfl : cRes Try.prog Try.f13.results.toList = some __hist_History__Counts_r) hlen h, fun _ h => nomatch h⟩

end Go.Proofs.Yteifemonokemgaa.H
