/- The functions' simplified code, printed by a program of the claim's author; each is checked against the program's own code. Conditions: none. -/
import Derived.Test.YteifemonokemgaaProg
import Derived.Test.YteifemonokemgaaVyM
set_option linter.unusedVariables false
set_option maxRecDepth 100000
namespace Go.Proofs.Yteifemonokemgaa.R
open Go.Vc
abbrev f_gosem_cut_init : Nat := 2
abbrev f_law_HistPlays : Nat := 3
abbrev f_law_HistCounts : Nat := 4
abbrev f_hist_Play : Nat := 5
abbrev f_ref_HistPlayed : Nat := 6
abbrev f_law_sameTexts : Nat := 7
abbrev f_law_sameCodes : Nat := 8
abbrev f_hist_Counts : Nat := 9
abbrev f_hist_play : Nat := 10
abbrev f_ref_EditFault : Nat := 11
abbrev f_ref_editMade : Nat := 12
abbrev f___hist_History__Counts : Nat := 13
abbrev f_hist_New : Nat := 14
abbrev f___hist_History__Deed : Nat := 15
abbrev f___hist_History__make : Nat := 16
abbrev f_hist_pop : Nat := 17
abbrev f___hist_History__change : Nat := 18
abbrev f_edit_Check : Nat := 19
abbrev f_edit_Undo : Nat := 20
abbrev f_edit_Made : Nat := 21

/-- fustian/fustianref.HistPlayed: slots [0 text, 1 l, 2 text, 3 l, 9 line, 10 at, 11 open, 12 texts, 13 codes, 14 _, 15 d, 16 e, 17 now, 18 made] -/
def ref_HistPlayed_c : SCode :=
  (.seq (.ops [⟨(some 4), .mov (.c .nils), none, false, []⟩,
    ⟨(some 5), .mov (.c .nils), none, false, []⟩,
    ⟨(some 6), .mov (.c (.int .i64 0)), none, false, []⟩,
    ⟨(some 7), .mov (.c (.int .i64 0)), none, false, []⟩,
    ⟨(some 8), .mov (.c (.int .i64 0)), none, false, []⟩] none [0, 1])
  (.seq (.seq (.ops [⟨(some 19), .mov (.t 0), none, false, []⟩,
    ⟨(some 20), .len true (.t 19), none, false, []⟩,
    ⟨(some 21), .bin .none .gtr (.t 20) (.c (.int .i64 600)), none, false, []⟩,
    ⟨(some 22), .mov (.t 21), none, true, []⟩,
    ⟨(some 23), .mov (.t 1), (some (22, false)), false, []⟩,
    ⟨(some 24), .len false (.t 23), (some (22, false)), false, []⟩,
    ⟨(some 25), .bin .none .gtr (.t 24) (.c (.int .i64 80)), (some (22, false)), false, []⟩,
    ⟨(some 26), .pick (.t 22) (.c (.bool true)) (.t 25), none, false, []⟩] none [0, 1, 26])
  (.cond (.t 26)
    (.seq (.ops [⟨(some 4), .mov (.c .nils), none, false, []⟩,
      ⟨(some 5), .mov (.c .nils), none, false, []⟩,
      ⟨(some 6), .mov (.c (.int .i64 0)), none, false, []⟩,
      ⟨(some 7), .mov (.c (.int .i64 0)), none, false, []⟩,
      ⟨(some 8), .mov (.c (.int .i64 1)), none, false, []⟩] none [4, 5, 6, 7, 8])
    .ret)
    .skip))
  (.seq (.ops [⟨(some 27), .mov (.t 0), none, false, []⟩,
    ⟨(some 28), .bslice false 1 1 [(.str [])] [(0, 1, (.t 27))], none, false, []⟩,
    ⟨(some 9), .mov (.t 28), none, false, []⟩] none [1, 9])
  (.seq (.ops [⟨(some 10), .mov (.c (.int .i64 0)), none, false, []⟩] none [1, 9, 10])
  (.seq (.ops [⟨(some 11), .mov (.c (.bool false)), none, false, []⟩] none [1, 9, 10, 11])
  (.seq (.ops [⟨(some 12), .newnil 1, none, false, []⟩] none [1, 9, 10, 11, 12])
  (.seq (.ops [⟨(some 13), .newnil 1, none, false, []⟩] none [1, 9, 10, 11, 12, 13])
  (.seq (.seq (.ops [⟨(some 29), .mov (.t 1), none, false, []⟩,
    ⟨(some 30), .len false (.t 29), none, false, []⟩,
    ⟨(some 31), .mov (.c (.int .i64 0)), none, false, []⟩] none [9, 10, 11, 12, 13, 29, 30, 31])
  (.block 0 (.loop [29, 30] [9, 10, 11, 12, 13, 31] 3
    (.seq (.ops [⟨(some 32), .bin .none .lss (.t 31) (.t 30), none, false, []⟩] none [9, 10, 11, 12, 13, 29, 30, 31, 32])
    (.seq (.cond (.t 32)
      .skip
      (.exit 0))
    (.seq (.block 1 (.seq (.ops [⟨(some 33), .iaddr 4 none (.t 29) (.t 31), none, false, []⟩,
      ⟨(some 34), .load 4 true (.t 33), none, false, []⟩,
      ⟨(some 15), .alloc 0 [(.int .i64 0), (.int .i64 0), (.int .i64 0), (.str [])], none, false, []⟩,
      ⟨none, .store 4 (.t 15) (.t 34), none, false, []⟩] none [9, 10, 11, 12, 13, 15, 29, 30, 31])
    (.seq (.ops [⟨(some 16), .mov (.c (.int .i64 0)), none, false, []⟩] none [9, 10, 11, 12, 13, 15, 16, 29, 30, 31])
    (.seq (.ops [⟨(some 35), .mov (.t 9), none, false, []⟩,
      ⟨(some 36), .mov (.t 10), none, false, []⟩,
      ⟨(some 37), .iaddr 1 none (.t 35) (.t 36), none, false, []⟩,
      ⟨(some 38), .load 1 false (.t 37), none, false, []⟩,
      ⟨(some 17), .mov (.t 38), none, false, []⟩] none [9, 10, 11, 12, 13, 15, 16, 17, 29, 30, 31])
    (.join [12, 13, 29, 30, 31] [9, 10, 11, 16] 5 (.seq (.ops [⟨(some 39), .faddr 0 (.t 15), none, false, []⟩,
        ⟨(some 40), .load 1 false (.t 39), none, false, []⟩] none [9, 10, 11, 12, 13, 15, 16, 17, 29, 30, 31, 40])
      (.block 2 (.seq (.ops [⟨(some 42), .bin .none .eql (.t 40) (.c (.int .i64 1)), none, false, []⟩,
        ⟨(some 41), .mov (.t 42), none, false, []⟩] none [9, 10, 11, 12, 13, 15, 16, 17, 29, 30, 31, 40, 41])
      (.cond (.t 41)
        (.seq (.seq (.ops [⟨(some 43), .mov (.t 17), none, false, []⟩,
          ⟨(some 44), .len true (.t 43), none, false, []⟩,
          ⟨(some 45), .faddr 1 (.t 15), none, false, []⟩,
          ⟨(some 46), .load 3 true (.t 45), none, false, []⟩,
          ⟨(some 47), .call f_ref_EditFault [(.t 44), (.t 46)], none, false, []⟩,
          ⟨(some 16), .mov (.t 47), none, false, []⟩] none [9, 10, 11, 12, 13, 15, 16, 17, 29, 30, 31])
        (.seq (.ops [⟨(some 48), .mov (.t 16), none, false, []⟩,
          ⟨(some 49), .bin .none .neq (.t 48) (.c (.int .i64 0)), none, false, []⟩] none [9, 10, 11, 12, 13, 15, 16, 17, 29, 30, 31, 49])
        (.cond (.t 49)
          (.exit 2)
          .skip)))
        (.seq (.ops [⟨(some 50), .mov (.t 9), none, false, []⟩,
          ⟨(some 51), .mov (.t 10), none, false, []⟩,
          ⟨(some 52), .bin .none .add (.t 51) (.c (.int .i64 1)), none, false, []⟩,
          ⟨(some 53), .slice 1 (.t 50) none (some (.t 52)), none, false, []⟩,
          ⟨(some 9), .mov (.t 53), none, false, []⟩] none [9, 10, 11, 12, 13, 15, 16, 17, 29, 30, 31])
        (.seq (.ops [⟨(some 54), .mov (.t 17), none, false, []⟩,
          ⟨(some 55), .faddr 1 (.t 15), none, false, []⟩,
          ⟨(some 56), .load 3 true (.t 55), none, false, []⟩,
          ⟨(some 57), .call f_ref_editMade [(.t 54), (.t 56)], none, false, []⟩,
          ⟨(some 18), .mov (.t 57), none, false, []⟩] none [9, 10, 11, 12, 13, 16, 18, 29, 30, 31])
        (.seq (.seq (.ops [⟨(some 58), .mov (.t 11), none, false, []⟩] none [9, 10, 11, 12, 13, 16, 18, 29, 30, 31, 58])
        (.cond (.t 58)
          (.seq (.ops [⟨(some 59), .mov (.t 9), none, false, []⟩,
            ⟨(some 60), .mov (.t 10), none, false, []⟩,
            ⟨(some 61), .mov (.t 18), none, false, []⟩,
            ⟨(some 62), .iaddr 1 none (.t 59) (.t 60), none, false, []⟩,
            ⟨none, .store 1 (.t 62) (.t 61), none, false, []⟩] none [9, 10, 11, 12, 13, 16, 29, 30, 31])
          (.exit 2))
          .skip))
        (.seq (.ops [⟨(some 63), .mov (.t 9), none, false, []⟩,
          ⟨(some 64), .append 1 16 (.c .nils) (.t 63), none, false, []⟩,
          ⟨(some 65), .mov (.t 18), none, false, []⟩,
          ⟨(some 66), .bslice true 1 1 [(.str [])] [(0, 1, (.t 65))], none, false, []⟩,
          ⟨(some 67), .append 1 16 (.t 64) (.t 66), none, false, []⟩,
          ⟨(some 9), .mov (.t 67), none, false, []⟩] none [9, 10, 12, 13, 16, 29, 30, 31])
        (.seq (.ops [⟨(some 68), .mov (.t 10), none, false, []⟩,
          ⟨(some 69), .bin .none .add (.t 68) (.c (.int .i64 1)), none, false, []⟩,
          ⟨(some 10), .mov (.t 69), none, false, []⟩] none [9, 10, 12, 13, 16, 29, 30, 31])
        (.seq (.ops [⟨(some 11), .mov (.c (.bool true)), none, false, []⟩] none [9, 10, 11, 12, 13, 16, 29, 30, 31])
        (.seq (.ops [⟨(some 70), .mov (.t 10), none, false, []⟩,
          ⟨(some 71), .bin .none .gtr (.t 70) (.c (.int .i64 20)), none, false, []⟩] none [9, 10, 11, 12, 13, 16, 29, 30, 31, 71])
        (.cond (.t 71)
          (.seq (.ops [⟨(some 72), .mov (.t 9), none, false, []⟩,
            ⟨(some 73), .slice 1 (.t 72) (some (.c (.int .i64 1))) none, none, false, []⟩,
            ⟨(some 9), .mov (.t 73), none, false, []⟩] none [9, 10, 11, 12, 13, 16, 29, 30, 31])
          (.ops [⟨(some 74), .mov (.t 10), none, false, []⟩,
            ⟨(some 75), .bin .none .sub (.t 74) (.c (.int .i64 1)), none, false, []⟩,
            ⟨(some 10), .mov (.t 75), none, false, []⟩] none [9, 10, 11, 12, 13, 16, 29, 30, 31]))
          .skip)))))))))
        (.seq (.ops [⟨(some 77), .bin .none .eql (.t 40) (.c (.int .i64 2)), none, false, []⟩,
          ⟨(some 76), .mov (.t 77), none, false, []⟩] none [9, 10, 11, 12, 13, 16, 29, 30, 31, 40, 76])
        (.cond (.t 76)
          (.ops [⟨(some 11), .mov (.c (.bool false)), none, false, []⟩] none [9, 10, 11, 12, 13, 16, 29, 30, 31])
          (.seq (.ops [⟨(some 79), .bin .none .eql (.t 40) (.c (.int .i64 3)), none, false, []⟩,
            ⟨(some 78), .mov (.t 79), none, false, []⟩] none [9, 10, 11, 12, 13, 16, 29, 30, 31, 40, 78])
          (.cond (.t 78)
            (.seq (.seq (.ops [⟨(some 80), .mov (.t 10), none, false, []⟩,
              ⟨(some 81), .bin .none .eql (.t 80) (.c (.int .i64 0)), none, false, []⟩] none [9, 10, 11, 12, 13, 16, 29, 30, 31, 81])
            (.cond (.t 81)
              (.seq (.ops [⟨(some 16), .mov (.c (.int .i64 7)), none, false, []⟩] none [9, 10, 11, 12, 13, 16, 29, 30, 31])
              (.exit 2))
              .skip))
            (.seq (.ops [⟨(some 82), .mov (.t 10), none, false, []⟩,
              ⟨(some 83), .bin .none .sub (.t 82) (.c (.int .i64 1)), none, false, []⟩,
              ⟨(some 10), .mov (.t 83), none, false, []⟩] none [9, 10, 12, 13, 16, 29, 30, 31])
            (.ops [⟨(some 11), .mov (.c (.bool false)), none, false, []⟩] none [9, 10, 11, 12, 13, 16, 29, 30, 31])))
            (.seq (.ops [⟨(some 85), .bin .none .eql (.t 40) (.c (.int .i64 4)), none, false, []⟩,
              ⟨(some 84), .mov (.t 85), none, false, []⟩] none [9, 10, 11, 12, 13, 16, 29, 30, 31, 84])
            (.cond (.t 84)
              (.seq (.seq (.ops [⟨(some 86), .mov (.t 10), none, false, []⟩,
                ⟨(some 87), .bin .none .add (.t 86) (.c (.int .i64 1)), none, false, []⟩,
                ⟨(some 88), .mov (.t 9), none, false, []⟩,
                ⟨(some 89), .len false (.t 88), none, false, []⟩,
                ⟨(some 90), .bin .none .eql (.t 87) (.t 89), none, false, []⟩] none [9, 10, 11, 12, 13, 16, 29, 30, 31, 90])
              (.cond (.t 90)
                (.seq (.ops [⟨(some 16), .mov (.c (.int .i64 7)), none, false, []⟩] none [9, 10, 11, 12, 13, 16, 29, 30, 31])
                (.exit 2))
                .skip))
              (.seq (.ops [⟨(some 91), .mov (.t 10), none, false, []⟩,
                ⟨(some 92), .bin .none .add (.t 91) (.c (.int .i64 1)), none, false, []⟩,
                ⟨(some 10), .mov (.t 92), none, false, []⟩] none [9, 10, 12, 13, 16, 29, 30, 31])
              (.ops [⟨(some 11), .mov (.c (.bool false)), none, false, []⟩] none [9, 10, 11, 12, 13, 16, 29, 30, 31])))
              (.ops [⟨(some 16), .mov (.c (.int .i64 3)), none, false, []⟩] none [9, 10, 11, 12, 13, 16, 29, 30, 31])))))))))))
    (.seq (.ops [⟨(some 93), .mov (.t 12), none, false, []⟩,
      ⟨(some 94), .mov (.t 9), none, false, []⟩,
      ⟨(some 95), .mov (.t 10), none, false, []⟩,
      ⟨(some 96), .iaddr 1 none (.t 94) (.t 95), none, false, []⟩,
      ⟨(some 97), .load 1 false (.t 96), none, false, []⟩,
      ⟨(some 98), .bslice true 1 1 [(.str [])] [(0, 1, (.t 97))], none, false, []⟩,
      ⟨(some 99), .append 1 16 (.t 93) (.t 98), none, false, []⟩,
      ⟨(some 12), .mov (.t 99), none, false, []⟩] none [9, 10, 11, 12, 13, 16, 29, 30, 31])
    (.ops [⟨(some 100), .mov (.t 13), none, false, []⟩,
      ⟨(some 101), .mov (.t 16), none, false, []⟩,
      ⟨(some 102), .bslice true 1 1 [(.int .i64 0)] [(0, 1, (.t 101))], none, false, []⟩,
      ⟨(some 103), .append 1 8 (.t 100) (.t 102), none, false, []⟩,
      ⟨(some 13), .mov (.t 103), none, false, []⟩] none [9, 10, 11, 12, 13, 29, 30, 31])))))))
    (.ops [⟨(some 104), .bin .none .add (.t 31) (.c (.int .i64 1)), none, false, []⟩,
      ⟨(some 31), .mov (.t 104), none, false, []⟩] none [9, 10, 11, 12, 13, 29, 30, 31])))))))
  (.seq (.ops [⟨(some 105), .mov (.t 12), none, false, []⟩,
    ⟨(some 106), .mov (.t 13), none, false, []⟩,
    ⟨(some 107), .mov (.t 10), none, false, []⟩,
    ⟨(some 108), .mov (.t 9), none, false, []⟩,
    ⟨(some 109), .len false (.t 108), none, false, []⟩,
    ⟨(some 110), .bin .none .sub (.t 109) (.c (.int .i64 1)), none, false, []⟩,
    ⟨(some 111), .mov (.t 10), none, false, []⟩,
    ⟨(some 112), .bin .none .sub (.t 110) (.t 111), none, false, []⟩,
    ⟨(some 4), .mov (.t 105), none, false, []⟩,
    ⟨(some 5), .mov (.t 106), none, false, []⟩,
    ⟨(some 6), .mov (.t 107), none, false, []⟩,
    ⟨(some 7), .mov (.t 112), none, false, []⟩,
    ⟨(some 8), .mov (.c (.int .i64 0)), none, false, []⟩] none [4, 5, 6, 7, 8])
  .ret)))))))))
def ref_HistPlayed_r : List RRes := [.tmp 4, .tmp 5, .tmp 6, .tmp 7, .tmp 8]
def ref_HistPlayed_hi : Hi := ⟨[(28, .str), (12, .str), (13, (.int .i64)), (64, .str), (66, .str), (67, .str), (98, .str), (99, .str), (102, (.int .i64)), (103, (.int .i64)), (15, (.st (.cons (.int .i64) (.cons (.st (.cons (.int .i64) (.cons (.int .i64) (.cons .str .nil)))) .nil))))], [(0, "text"), (1, "l"), (2, "text"), (3, "l"), (9, "line"), (10, "at"), (11, "open"), (12, "texts"), (13, "codes"), (15, "d"), (16, "e"), (17, "now"), (18, "made")]⟩
def ref_HistPlayed_an : An := (.seq .d (.seq .d (.seq .d (.seq .d (.seq .d (.seq .d (.seq .d (.seq (.seq .d (.loop [9, 12, 13] [] [9] .d)) .d))))))))
def ref_HistPlayed_fi : Fi := ⟨113, ref_HistPlayed_c, ref_HistPlayed_r, ref_HistPlayed_an, ref_HistPlayed_hi, none⟩
theorem ref_HistPlayed_ok : FiOk Try.prog f_ref_HistPlayed ref_HistPlayed_fi :=
  ⟨fun _ => by kernel_rfl, fun _ h hlen => fun_sound (by kernel_rfl) (fn := Try.f6) (draw_sound _ _) Try.func6 rfl (by kernel_rfl : comp Try.prog 113 _ ref_HistPlayed_c = some ref_HistPlayed_c) (by kernel_rfl : cRes Try.prog Try.f6.results.toList = some ref_HistPlayed_r) hlen h, fun _ h => nomatch h⟩

end Go.Proofs.Yteifemonokemgaa.R
