/- The functions' simplified code, printed by a program of the claim's author; each is checked against the program's own code. Conditions: none. -/
import Derived.Test.YtgiglabejffciaaProg
import Derived.Test.YtgiglabejffciaaVyM
set_option linter.unusedVariables false
set_option maxRecDepth 100000
namespace Go.Proofs.Ytgiglabejffciaa.R
open Go.Vc
abbrev f_gosem_cut_init : Nat := 2
abbrev f_law_RopePlays : Nat := 3
abbrev f_rope_Play : Nat := 4
abbrev f_ref_RopePlayed : Nat := 5
abbrev f_law_sameTexts : Nat := 6
abbrev f_law_sameCodes : Nat := 7
abbrev f_rope_play : Nat := 8
abbrev f___rope_Rope__String : Nat := 9
abbrev f_ref_RopePlayed_1 : Nat := 10
abbrev f___rope_maker__do : Nat := 11
abbrev f___rope_Rope__Len : Nat := 12
abbrev f___rope_Rope__Leaves : Nat := 13
abbrev f___rope_maker__fault : Nat := 14
abbrev f___rope_maker__length : Nat := 15
abbrev f___rope_maker__make : Nat := 16
abbrev f___rope_Rope__Leaves_1 : Nat := 17
abbrev f___rope_Rope__each : Nat := 18
abbrev f___rope_maker__there : Nat := 19
abbrev f_rope_New : Nat := 20
abbrev f_rope_Join : Nat := 21
abbrev f_rope_Split : Nat := 22
abbrev f_rope_leaf : Nat := 23
abbrev f_rope_node : Nat := 24
abbrev f_rope_balanced : Nat := 25
abbrev f_pos_Of : Nat := 26
abbrev f_poly_Of : Nat := 27
abbrev f_pos_Join : Nat := 28
abbrev f_poly_Join : Nat := 29
abbrev f_strings_Count : Nat := 30
abbrev f_strings_LastIndexByte : Nat := 31
abbrev f_pos_May : Nat := 32
abbrev f_poly_May : Nat := 33
abbrev f_unicode_utf8_RuneCountInString : Nat := 34
abbrev f_strings_Index : Nat := 36
abbrev f_internal_bytealg_LastIndexByteString : Nat := 37
abbrev f_internal_stringslite_Index : Nat := 38
abbrev f_internal_stringslite_IndexByte : Nat := 39
abbrev f_internal_bytealg_Cutover : Nat := 41
abbrev f_internal_bytealg_IndexRabinKarp_string_ : Nat := 42
abbrev f_internal_bytealg_hashStr_string_ : Nat := 44

/-- fustian/fustianref.RopePlayed$1: slots [0 i, 2 i] -/
def ref_RopePlayed_1_c : SCode :=
  (.seq (.ops [⟨(some 3), .mov (.c (.bool false)), none, false, []⟩] none [0, 1])
  (.seq (.ops [⟨(some 4), .mov (.t 0), none, false, []⟩,
    ⟨(some 5), .bin .none .geq (.t 4) (.c (.int .i64 0)), none, false, []⟩,
    ⟨(some 6), .mov (.t 5), none, true, []⟩,
    ⟨(some 7), .mov (.t 0), (some (6, true)), false, []⟩,
    ⟨(some 8), .load 1 false (.t 1), (some (6, true)), false, []⟩,
    ⟨(some 9), .len false (.t 8), (some (6, true)), false, []⟩,
    ⟨(some 10), .bin .none .lss (.t 7) (.t 9), (some (6, true)), false, []⟩,
    ⟨(some 11), .pick (.t 6) (.t 10) (.c (.bool false)), none, false, []⟩,
    ⟨(some 3), .mov (.t 11), none, false, []⟩] none [3])
  .ret))
def ref_RopePlayed_1_r : List RRes := [.tmp 3]
def ref_RopePlayed_1_hi : Hi := ⟨[], [(0, "i"), (2, "i")]⟩
def ref_RopePlayed_1_an : An := .d
def ref_RopePlayed_1_fi : Fi := ⟨12, ref_RopePlayed_1_c, ref_RopePlayed_1_r, ref_RopePlayed_1_an, ref_RopePlayed_1_hi, none⟩
theorem ref_RopePlayed_1_ok : FiOk Try.prog f_ref_RopePlayed_1 ref_RopePlayed_1_fi :=
  ⟨fun _ => by kernel_rfl, fun _ h hlen => fun_sound (by kernel_rfl) (fn := Try.f10) (draw_sound _ _) Try.func10 rfl (by kernel_rfl : comp Try.prog 12 _ ref_RopePlayed_1_c = some ref_RopePlayed_1_c) (by kernel_rfl : cRes Try.prog Try.f10.results.toList = some ref_RopePlayed_1_r) hlen h, fun _ h => nomatch h⟩

/-- fustian/fustianref.RopePlayed: slots [0 l, 1 l, 5 texts, 6 codes, 7 has, 8 _, 9 o, 10 e, 11 out, 12 i] -/
def ref_RopePlayed_c : SCode :=
  (.seq (.ops [⟨(some 2), .mov (.c .nils), none, false, []⟩,
    ⟨(some 3), .mov (.c .nils), none, false, []⟩,
    ⟨(some 4), .mov (.c (.int .i64 0)), none, false, []⟩] none [0])
  (.seq (.seq (.ops [⟨(some 13), .mov (.t 0), none, false, []⟩,
    ⟨(some 14), .len false (.t 13), none, false, []⟩,
    ⟨(some 15), .bin .none .gtr (.t 14) (.c (.int .i64 80)), none, false, []⟩] none [0, 15])
  (.cond (.t 15)
    (.seq (.ops [⟨(some 2), .mov (.c .nils), none, false, []⟩,
      ⟨(some 3), .mov (.c .nils), none, false, []⟩,
      ⟨(some 4), .mov (.c (.int .i64 1)), none, false, []⟩] none [2, 3, 4])
    .ret)
    .skip))
  (.seq (.ops [⟨(some 5), .alloc 0 [.nils], none, false, []⟩] none [0, 5])
  (.seq (.ops [⟨(some 6), .newnil 1, none, false, []⟩] none [0, 5, 6])
  (.seq (.ops [⟨(some 16), .mkfunc (.func f_ref_RopePlayed_1) [] [(.t 5)], none, false, []⟩,
    ⟨(some 7), .mov (.t 16), none, false, []⟩] none [0, 5, 6, 7])
  (.seq (.seq (.ops [⟨(some 17), .mov (.t 0), none, false, []⟩,
    ⟨(some 18), .len false (.t 17), none, false, []⟩,
    ⟨(some 19), .mov (.c (.int .i64 0)), none, false, []⟩] none [5, 6, 7, 17, 18, 19])
  (.block 0 (.loop [5, 7, 17, 18] [6, 19] 2
    (.seq (.ops [⟨(some 20), .bin .none .lss (.t 19) (.t 18), none, false, []⟩] none [5, 6, 7, 17, 18, 19, 20])
    (.seq (.cond (.t 20)
      .skip
      (.exit 0))
    (.join [5, 7, 17, 18, 19] [6] 3 (.block 1 (.seq (.ops [⟨(some 21), .iaddr 6 none (.t 17) (.t 19), none, false, []⟩,
        ⟨(some 22), .load 6 true (.t 21), none, false, []⟩,
        ⟨(some 9), .alloc 0 [(.int .i64 0), (.str []), (.int .i64 0), (.int .i64 0), (.int .i64 0), (.int .i64 0)], none, false, []⟩,
        ⟨none, .store 6 (.t 9) (.t 22), none, false, []⟩] none [5, 6, 7, 9, 17, 18, 19])
      (.seq (.ops [⟨(some 10), .mov (.c (.int .i64 0)), none, false, []⟩] none [5, 6, 7, 9, 10, 17, 18, 19])
      (.seq (.ops [⟨(some 11), .mov (.c (.str [])), none, false, []⟩] none [5, 6, 7, 9, 10, 11, 17, 18, 19])
      (.join [5, 6, 7, 17, 18, 19] [10, 11] 3 (.block 2 (.seq (.ops [⟨(some 37), .faddr 0 (.t 9), none, false, []⟩,
          ⟨(some 38), .load 1 false (.t 37), none, false, []⟩,
          ⟨(some 39), .bin .none .lss (.t 38) (.c (.int .i64 1)), none, false, []⟩,
          ⟨(some 40), .mov (.t 39), none, true, []⟩,
          ⟨(some 41), .faddr 0 (.t 9), (some (40, false)), false, []⟩,
          ⟨(some 42), .load 1 false (.t 41), (some (40, false)), false, []⟩,
          ⟨(some 43), .bin .none .gtr (.t 42) (.c (.int .i64 5)), (some (40, false)), false, []⟩,
          ⟨(some 44), .pick (.t 40) (.c (.bool true)) (.t 43), none, false, []⟩,
          ⟨(some 36), .mov (.t 44), none, false, []⟩] none [5, 6, 7, 9, 10, 11, 17, 18, 19, 36])
        (.cond (.t 36)
          (.ops [⟨(some 10), .mov (.c (.int .i64 3)), none, false, []⟩] none [5, 6, 7, 10, 11, 17, 18, 19])
          (.seq (.ops [⟨(some 46), .faddr 0 (.t 9), none, false, []⟩,
            ⟨(some 47), .load 1 false (.t 46), none, false, []⟩,
            ⟨(some 48), .bin .none .gtr (.t 47) (.c (.int .i64 1)), none, false, []⟩,
            ⟨(some 49), .mov (.t 48), none, true, []⟩,
            ⟨(some 50), .mov (.t 7), (some (49, true)), false, []⟩,
            ⟨(some 51), .faddr 2 (.t 9), (some (49, true)), false, []⟩,
            ⟨(some 52), .load 1 false (.t 51), (some (49, true)), false, []⟩,
            ⟨(some 53), .callv (.t 50) [(.t 52)], (some (49, true)), false, []⟩,
            ⟨(some 54), .not (.t 53), (some (49, true)), false, []⟩,
            ⟨(some 55), .pick (.t 49) (.t 54) (.c (.bool false)), none, false, []⟩,
            ⟨(some 45), .mov (.t 55), none, false, []⟩] none [5, 6, 7, 9, 10, 11, 17, 18, 19, 45])
          (.cond (.t 45)
            (.ops [⟨(some 10), .mov (.c (.int .i64 7)), none, false, []⟩] none [5, 6, 7, 10, 11, 17, 18, 19])
            (.seq (.ops [⟨(some 57), .faddr 0 (.t 9), none, false, []⟩,
              ⟨(some 58), .load 1 false (.t 57), none, false, []⟩,
              ⟨(some 59), .bin .none .eql (.t 58) (.c (.int .i64 2)), none, false, []⟩,
              ⟨(some 60), .mov (.t 59), none, true, []⟩,
              ⟨(some 61), .mov (.t 7), (some (60, true)), false, []⟩,
              ⟨(some 62), .faddr 3 (.t 9), (some (60, true)), false, []⟩,
              ⟨(some 63), .load 1 false (.t 62), (some (60, true)), false, []⟩,
              ⟨(some 64), .callv (.t 61) [(.t 63)], (some (60, true)), false, []⟩,
              ⟨(some 65), .not (.t 64), (some (60, true)), false, []⟩,
              ⟨(some 66), .pick (.t 60) (.t 65) (.c (.bool false)), none, false, []⟩,
              ⟨(some 56), .mov (.t 66), none, false, []⟩] none [5, 6, 7, 9, 10, 11, 17, 18, 19, 56])
            (.cond (.t 56)
              (.ops [⟨(some 10), .mov (.c (.int .i64 7)), none, false, []⟩] none [5, 6, 7, 10, 11, 17, 18, 19])
              (.seq (.ops [⟨(some 68), .faddr 0 (.t 9), none, false, []⟩,
                ⟨(some 69), .load 1 false (.t 68), none, false, []⟩,
                ⟨(some 70), .bin .none .eql (.t 69) (.c (.int .i64 3)), none, false, []⟩,
                ⟨(some 71), .mov (.t 70), none, true, []⟩,
                ⟨(some 72), .faddr 0 (.t 9), (some (71, false)), false, []⟩,
                ⟨(some 73), .load 1 false (.t 72), (some (71, false)), false, []⟩,
                ⟨(some 74), .bin .none .eql (.t 73) (.c (.int .i64 4)), (some (71, false)), false, []⟩,
                ⟨(some 75), .pick (.t 71) (.c (.bool true)) (.t 74), none, false, []⟩,
                ⟨(some 76), .mov (.t 75), none, true, []⟩,
                ⟨(some 77), .faddr 4 (.t 9), (some (76, true)), false, []⟩,
                ⟨(some 78), .load 1 false (.t 77), (some (76, true)), false, []⟩,
                ⟨(some 79), .bin .none .lss (.t 78) (.c (.int .i64 0)), (some (76, true)), false, []⟩,
                ⟨(some 80), .mov (.t 79), (some (76, true)), true, []⟩,
                ⟨(some 81), .faddr 4 (.t 9), (some (80, false)), false, []⟩,
                ⟨(some 82), .load 1 false (.t 81), (some (80, false)), false, []⟩,
                ⟨(some 83), .load 1 false (.t 5), (some (80, false)), false, []⟩,
                ⟨(some 84), .faddr 2 (.t 9), (some (80, false)), false, []⟩,
                ⟨(some 85), .load 1 false (.t 84), (some (80, false)), false, []⟩,
                ⟨(some 86), .iaddr 1 none (.t 83) (.t 85), (some (80, false)), false, []⟩,
                ⟨(some 87), .load 1 false (.t 86), (some (80, false)), false, []⟩,
                ⟨(some 88), .len true (.t 87), (some (80, false)), false, []⟩,
                ⟨(some 89), .bin .none .gtr (.t 82) (.t 88), (some (80, false)), false, []⟩,
                ⟨(some 90), .pick (.t 80) (.c (.bool true)) (.t 89), (some (76, true)), false, []⟩,
                ⟨(some 91), .pick (.t 76) (.t 90) (.c (.bool false)), none, false, []⟩,
                ⟨(some 67), .mov (.t 91), none, false, []⟩] (some (0, 0, [0, 1, 2, 3, 4, 5, 6, 7, 8, 9, 10, 11, 12, 13, 14, 15, 16, 17, 18, 19, 20, 21, 22, 23, 24])) [5, 6, 7, 9, 10, 11, 17, 18, 19, 67])
              (.cond (.t 67)
                (.ops [⟨(some 10), .mov (.c (.int .i64 2)), none, false, []⟩] none [5, 6, 7, 10, 11, 17, 18, 19])
                (.seq (.ops [⟨(some 93), .faddr 0 (.t 9), none, false, []⟩,
                  ⟨(some 94), .load 1 false (.t 93), none, false, []⟩,
                  ⟨(some 95), .bin .none .eql (.t 94) (.c (.int .i64 5)), none, false, []⟩,
                  ⟨(some 96), .mov (.t 95), none, true, []⟩,
                  ⟨(some 97), .faddr 5 (.t 9), (some (96, true)), false, []⟩,
                  ⟨(some 98), .load 1 false (.t 97), (some (96, true)), false, []⟩,
                  ⟨(some 99), .bin .none .lss (.t 98) (.c (.int .i64 0)), (some (96, true)), false, []⟩,
                  ⟨(some 100), .mov (.t 99), (some (96, true)), true, []⟩,
                  ⟨(some 101), .faddr 5 (.t 9), (some (100, false)), false, []⟩,
                  ⟨(some 102), .load 1 false (.t 101), (some (100, false)), false, []⟩,
                  ⟨(some 103), .bin .none .gtr (.t 102) (.c (.int .i64 4)), (some (100, false)), false, []⟩,
                  ⟨(some 104), .pick (.t 100) (.c (.bool true)) (.t 103), (some (96, true)), false, []⟩,
                  ⟨(some 105), .pick (.t 96) (.t 104) (.c (.bool false)), none, false, []⟩,
                  ⟨(some 92), .mov (.t 105), none, false, []⟩] none [5, 6, 7, 9, 10, 11, 17, 18, 19, 92])
                (.cond (.t 92)
                  (.ops [⟨(some 10), .mov (.c (.int .i64 2)), none, false, []⟩] none [5, 6, 7, 10, 11, 17, 18, 19])
                  (.seq (.ops [⟨(some 107), .load 1 false (.t 5), none, false, []⟩,
                    ⟨(some 108), .len false (.t 107), none, false, []⟩,
                    ⟨(some 109), .bin .none .geq (.t 108) (.c (.int .i64 60)), none, false, []⟩,
                    ⟨(some 106), .mov (.t 109), none, false, []⟩] none [5, 6, 7, 9, 10, 11, 17, 18, 19, 106])
                  (.cond (.t 106)
                    (.ops [⟨(some 10), .mov (.c (.int .i64 8)), none, false, []⟩] none [5, 6, 7, 10, 11, 17, 18, 19])
                    (.seq (.ops [⟨(some 111), .faddr 0 (.t 9), none, false, []⟩,
                      ⟨(some 112), .load 1 false (.t 111), none, false, []⟩,
                      ⟨(some 113), .bin .none .eql (.t 112) (.c (.int .i64 1)), none, false, []⟩,
                      ⟨(some 110), .mov (.t 113), none, false, []⟩] none [5, 6, 7, 9, 10, 11, 17, 18, 19, 110])
                    (.cond (.t 110)
                      (.ops [⟨(some 114), .faddr 1 (.t 9), none, false, []⟩,
                        ⟨(some 115), .load 1 false (.t 114), none, false, []⟩,
                        ⟨(some 11), .mov (.t 115), none, false, []⟩] none [5, 6, 7, 10, 11, 17, 18, 19])
                      (.seq (.ops [⟨(some 117), .faddr 0 (.t 9), none, false, []⟩,
                        ⟨(some 118), .load 1 false (.t 117), none, false, []⟩,
                        ⟨(some 119), .bin .none .eql (.t 118) (.c (.int .i64 2)), none, false, []⟩,
                        ⟨(some 116), .mov (.t 119), none, false, []⟩] none [5, 6, 7, 9, 10, 11, 17, 18, 19, 116])
                      (.cond (.t 116)
                        (.ops [⟨(some 120), .load 1 false (.t 5), none, false, []⟩,
                          ⟨(some 121), .faddr 2 (.t 9), none, false, []⟩,
                          ⟨(some 122), .load 1 false (.t 121), none, false, []⟩,
                          ⟨(some 123), .iaddr 1 none (.t 120) (.t 122), none, false, []⟩,
                          ⟨(some 124), .load 1 false (.t 123), none, false, []⟩,
                          ⟨(some 125), .load 1 false (.t 5), none, false, []⟩,
                          ⟨(some 126), .faddr 3 (.t 9), none, false, []⟩,
                          ⟨(some 127), .load 1 false (.t 126), none, false, []⟩,
                          ⟨(some 128), .iaddr 1 none (.t 125) (.t 127), none, false, []⟩,
                          ⟨(some 129), .load 1 false (.t 128), none, false, []⟩,
                          ⟨(some 130), .bin .none .add (.t 124) (.t 129), none, false, []⟩,
                          ⟨(some 11), .mov (.t 130), none, false, []⟩] (some (0, 0, [0, 1, 2, 3, 4, 5, 6, 7, 8, 9, 10, 11])) [5, 6, 7, 10, 11, 17, 18, 19])
                        (.seq (.ops [⟨(some 132), .faddr 0 (.t 9), none, false, []⟩,
                          ⟨(some 133), .load 1 false (.t 132), none, false, []⟩,
                          ⟨(some 134), .bin .none .eql (.t 133) (.c (.int .i64 3)), none, false, []⟩,
                          ⟨(some 131), .mov (.t 134), none, false, []⟩] none [5, 6, 7, 9, 10, 11, 17, 18, 19, 131])
                        (.cond (.t 131)
                          (.ops [⟨(some 135), .load 1 false (.t 5), none, false, []⟩,
                            ⟨(some 136), .faddr 2 (.t 9), none, false, []⟩,
                            ⟨(some 137), .load 1 false (.t 136), none, false, []⟩,
                            ⟨(some 138), .iaddr 1 none (.t 135) (.t 137), none, false, []⟩,
                            ⟨(some 139), .load 1 false (.t 138), none, false, []⟩,
                            ⟨(some 140), .faddr 4 (.t 9), none, false, []⟩,
                            ⟨(some 141), .load 1 false (.t 140), none, false, []⟩,
                            ⟨(some 142), .slice 0 (.t 139) none (some (.t 141)), none, false, []⟩,
                            ⟨(some 11), .mov (.t 142), none, false, []⟩] (some (0, 0, [0, 1, 2, 3, 4, 5, 6, 7, 8])) [5, 6, 7, 10, 11, 17, 18, 19])
                          (.seq (.ops [⟨(some 144), .faddr 0 (.t 9), none, false, []⟩,
                            ⟨(some 145), .load 1 false (.t 144), none, false, []⟩,
                            ⟨(some 146), .bin .none .eql (.t 145) (.c (.int .i64 4)), none, false, []⟩,
                            ⟨(some 143), .mov (.t 146), none, false, []⟩] none [5, 6, 7, 9, 10, 11, 17, 18, 19, 143])
                          (.cond (.t 143)
                            (.ops [⟨(some 147), .load 1 false (.t 5), none, false, []⟩,
                              ⟨(some 148), .faddr 2 (.t 9), none, false, []⟩,
                              ⟨(some 149), .load 1 false (.t 148), none, false, []⟩,
                              ⟨(some 150), .iaddr 1 none (.t 147) (.t 149), none, false, []⟩,
                              ⟨(some 151), .load 1 false (.t 150), none, false, []⟩,
                              ⟨(some 152), .faddr 4 (.t 9), none, false, []⟩,
                              ⟨(some 153), .load 1 false (.t 152), none, false, []⟩,
                              ⟨(some 154), .slice 0 (.t 151) (some (.t 153)) none, none, false, []⟩,
                              ⟨(some 11), .mov (.t 154), none, false, []⟩] (some (0, 0, [0, 1, 2, 3, 4, 5, 6, 7, 8])) [5, 6, 7, 10, 11, 17, 18, 19])
                            (.seq (.ops [⟨(some 12), .mov (.c (.int .i64 0)), none, false, []⟩] none [5, 6, 7, 9, 10, 11, 12, 17, 18, 19])
                            (.block 3 (.loop [5, 6, 7, 9, 10, 17, 18, 19] [11, 12] 3
                              (.seq (.seq (.ops [⟨(some 23), .mov (.t 12), none, false, []⟩,
                                ⟨(some 24), .faddr 5 (.t 9), none, false, []⟩,
                                ⟨(some 25), .load 1 false (.t 24), none, false, []⟩,
                                ⟨(some 26), .bin .none .lss (.t 23) (.t 25), none, false, []⟩] none [5, 6, 7, 9, 10, 11, 12, 17, 18, 19, 26])
                              (.cond (.t 26)
                                .skip
                                (.exit 3)))
                              (.seq (.block 4 (.ops [⟨(some 29), .mov (.t 11), none, false, []⟩,
                                ⟨(some 30), .load 1 false (.t 5), none, false, []⟩,
                                ⟨(some 31), .faddr 2 (.t 9), none, false, []⟩,
                                ⟨(some 32), .load 1 false (.t 31), none, false, []⟩,
                                ⟨(some 33), .iaddr 1 none (.t 30) (.t 32), none, false, []⟩,
                                ⟨(some 34), .load 1 false (.t 33), none, false, []⟩,
                                ⟨(some 35), .bin .none .add (.t 29) (.t 34), none, false, []⟩,
                                ⟨(some 11), .mov (.t 35), none, false, []⟩] none [5, 6, 7, 9, 10, 11, 12, 17, 18, 19]))
                              (.ops [⟨(some 27), .mov (.t 12), none, false, []⟩,
                                ⟨(some 28), .bin .none .add (.t 27) (.c (.int .i64 1)), none, false, []⟩,
                                ⟨(some 12), .mov (.t 28), none, false, []⟩] none [5, 6, 7, 9, 10, 11, 12, 17, 18, 19])))))))))))))))))))))))))))
      (.join [5, 6, 7, 11, 17, 18, 19] [10] 3 (.seq (.ops [⟨(some 155), .mov (.t 10), none, false, []⟩,
          ⟨(some 156), .bin .none .eql (.t 155) (.c (.int .i64 0)), none, false, []⟩,
          ⟨(some 157), .mov (.t 156), none, true, []⟩,
          ⟨(some 158), .mov (.t 11), (some (157, true)), false, []⟩,
          ⟨(some 159), .len true (.t 158), (some (157, true)), false, []⟩,
          ⟨(some 160), .bin .none .gtr (.t 159) (.c (.int .i64 600)), (some (157, true)), false, []⟩,
          ⟨(some 161), .pick (.t 157) (.t 160) (.c (.bool false)), none, false, []⟩] none [5, 6, 7, 10, 11, 17, 18, 19, 161])
        (.cond (.t 161)
          (.ops [⟨(some 10), .mov (.c (.int .i64 1)), none, false, []⟩] none [5, 6, 7, 10, 11, 17, 18, 19])
          .skip))
      (.seq (.ops [⟨(some 162), .mov (.t 6), none, false, []⟩,
        ⟨(some 163), .mov (.t 10), none, false, []⟩,
        ⟨(some 164), .bslice true 1 1 [(.int .i64 0)] [(0, 1, (.t 163))], none, false, []⟩,
        ⟨(some 165), .append 1 8 (.t 162) (.t 164), none, false, []⟩,
        ⟨(some 6), .mov (.t 165), none, false, []⟩] none [5, 6, 7, 10, 11, 17, 18, 19])
      (.seq (.ops [⟨(some 166), .mov (.t 10), none, false, []⟩,
        ⟨(some 167), .bin .none .eql (.t 166) (.c (.int .i64 0)), none, false, []⟩] none [5, 6, 7, 11, 17, 18, 19, 167])
      (.cond (.t 167)
        (.ops [⟨(some 168), .load 1 false (.t 5), none, false, []⟩,
          ⟨(some 169), .mov (.t 11), none, false, []⟩,
          ⟨(some 170), .bslice true 1 1 [(.str [])] [(0, 1, (.t 169))], none, false, []⟩,
          ⟨(some 171), .append 1 16 (.t 168) (.t 170), none, false, []⟩,
          ⟨none, .store 1 (.t 5) (.t 171), none, false, []⟩] none [5, 6, 7, 17, 18, 19])
        .skip)))))))))
    (.ops [⟨(some 172), .bin .none .add (.t 19) (.c (.int .i64 1)), none, false, []⟩,
      ⟨(some 19), .mov (.t 172), none, false, []⟩] none [5, 6, 7, 17, 18, 19])))))))
  (.seq (.ops [⟨(some 173), .load 1 false (.t 5), none, false, []⟩,
    ⟨(some 174), .mov (.t 6), none, false, []⟩,
    ⟨(some 2), .mov (.t 173), none, false, []⟩,
    ⟨(some 3), .mov (.t 174), none, false, []⟩,
    ⟨(some 4), .mov (.c (.int .i64 0)), none, false, []⟩] none [2, 3, 4])
  .ret)))))))
def ref_RopePlayed_r : List RRes := [.tmp 2, .tmp 3, .tmp 4]
def ref_RopePlayed_hi : Hi := ⟨[(6, (.int .i64)), (164, (.int .i64)), (165, (.int .i64)), (170, .str), (171, .str), (5, (.sl .str)), (9, (.st (.cons (.int .i64) (.cons .str (.cons (.int .i64) (.cons (.int .i64) (.cons (.int .i64) (.cons (.int .i64) .nil))))))))], [(0, "l"), (1, "l"), (5, "texts"), (6, "codes"), (7, "has"), (9, "o"), (10, "e"), (11, "out"), (12, "i")]⟩
def ref_RopePlayed_an : An := (.seq .d (.seq .d (.seq .d (.seq .d (.seq .d (.seq (.seq .d (.loop [7, 6, 5] [] [] (.seq .d (.seq .d (.seq (.seq .d (.seq .d (.seq .d (.seq (.seq .d (.seq .d (.seq .d (.seq .d (.seq .d (.seq .d (.seq .d (.seq .d (.seq .d (.seq .d (.seq .d (.seq .d (.seq .d (.seq .d (.seq .d (.seq .d (.seq .d (.seq .d (.seq .d (.seq .d (.seq .d (.loop [] [] [] .d)))))))))))))))))))))) .d)))) .d))))) .d))))))
def ref_RopePlayed_fi : Fi := ⟨175, ref_RopePlayed_c, ref_RopePlayed_r, ref_RopePlayed_an, ref_RopePlayed_hi, none⟩
theorem ref_RopePlayed_ok : FiOk Try.prog f_ref_RopePlayed ref_RopePlayed_fi :=
  ⟨fun _ => by kernel_rfl, fun _ h hlen => fun_sound (by kernel_rfl) (fn := Try.f5) (draw_sound _ _) Try.func5 rfl (by kernel_rfl : comp Try.prog 175 _ ref_RopePlayed_c = some ref_RopePlayed_c) (by kernel_rfl : cRes Try.prog Try.f5.results.toList = some ref_RopePlayed_r) hlen h, fun _ h => nomatch h⟩

end Go.Proofs.Ytgiglabejffciaa.R
