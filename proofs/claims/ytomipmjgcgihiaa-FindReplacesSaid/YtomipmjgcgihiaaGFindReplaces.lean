/- The functions' simplified code, printed by a program of the claim's author; each is checked against the program's own code. Conditions: none. -/
import Derived.Test.YtomipmjgcgihiaaProg
import Derived.Test.YtomipmjgcgihiaaVyM
set_option linter.unusedVariables false
set_option maxRecDepth 100000
namespace Go.Proofs.Ytomipmjgcgihiaa
open Go.Vc
abbrev f_gosem_cut_init : Nat := 2
abbrev f_law_FindReplaces : Nat := 3
abbrev f_find_Replace : Nat := 4
abbrev f_ref_FindReplace : Nat := 5
abbrev f_find_fault : Nat := 6
abbrev f_find_In : Nat := 7
abbrev f___strings_Builder__WriteString : Nat := 8
abbrev f___strings_Builder__Len : Nat := 9
abbrev f___strings_Builder__String : Nat := 10
abbrev f_ref_findFault : Nat := 11
abbrev f_ref_standsAt : Nat := 12
abbrev f_find_border : Nat := 13
abbrev f___strings_Builder__copyCheck : Nat := 14

/-- fustian/find.fault: slots [0 text, 1 find, 2 text, 3 find] -/
def find_fault_c : SCode :=
  (.seq (.ops [⟨(some 4), .mov (.c (.int .i64 0)), none, false, []⟩] none [0, 1])
  (.seq (.block 0 (.seq (.ops [⟨(some 6), .mov (.t 0), none, false, []⟩,
    ⟨(some 7), .len true (.t 6), none, false, []⟩,
    ⟨(some 8), .bin .none .gtr (.t 7) (.c (.int .i64 600)), none, false, []⟩,
    ⟨(some 9), .mov (.t 8), none, true, []⟩,
    ⟨(some 10), .mov (.t 1), (some (9, false)), false, []⟩,
    ⟨(some 11), .len true (.t 10), (some (9, false)), false, []⟩,
    ⟨(some 12), .bin .none .gtr (.t 11) (.c (.int .i64 20)), (some (9, false)), false, []⟩,
    ⟨(some 13), .pick (.t 9) (.c (.bool true)) (.t 12), none, false, []⟩,
    ⟨(some 5), .mov (.t 13), none, false, []⟩] none [1, 5])
  (.cond (.t 5)
    (.seq (.ops [⟨(some 4), .mov (.c (.int .i64 1)), none, false, []⟩] none [4])
    .ret)
    (.seq (.ops [⟨(some 15), .mov (.t 1), none, false, []⟩,
      ⟨(some 16), .bin .none .eql (.t 15) (.c (.str [])), none, false, []⟩,
      ⟨(some 14), .mov (.t 16), none, false, []⟩] none [14])
    (.cond (.t 14)
      (.seq (.ops [⟨(some 4), .mov (.c (.int .i64 4)), none, false, []⟩] none [4])
      .ret)
      .skip)))))
  (.seq (.ops [⟨(some 4), .mov (.c (.int .i64 0)), none, false, []⟩] none [4])
  .ret)))
def find_fault_r : List RRes := [.tmp 4]
def find_fault_hi : Hi := ⟨[], [(0, "text"), (1, "find"), (2, "text"), (3, "find")]⟩
def find_fault_an : An := .d
def find_fault_fi : Fi := ⟨17, find_fault_c, find_fault_r, find_fault_an, find_fault_hi, none⟩
theorem find_fault_ok : FiOk Try.prog f_find_fault find_fault_fi :=
  ⟨fun _ => by kernel_rfl, fun _ h hlen => fun_sound (by kernel_rfl) (fn := Try.f6) (draw_sound _ _) Try.func6 rfl (by kernel_rfl : comp Try.prog 17 _ find_fault_c = some find_fault_c) (by kernel_rfl : cRes Try.prog Try.f6.results.toList = some find_fault_r) hlen h, fun _ h => nomatch h⟩

/-- fustian/find.border: slots [0 s, 1 s, 3 out, 4 n, 5 i] -/
def find_border_c : SCode :=
  (.seq (.ops [⟨(some 2), .mov (.c .nils), none, false, []⟩] none [0])
  (.seq (.ops [⟨(some 6), .mov (.t 0), none, false, []⟩,
    ⟨(some 7), .len true (.t 6), none, false, []⟩,
    ⟨(some 8), .mkslice 1 8 [(.int .i64 0)] (.t 7) (.t 7), none, false, []⟩,
    ⟨(some 3), .mov (.t 8), none, false, []⟩] none [0, 3])
  (.seq (.ops [⟨(some 4), .mov (.c (.int .i64 0)), none, false, []⟩] none [0, 3, 4])
  (.seq (.seq (.ops [⟨(some 5), .mov (.c (.int .i64 1)), none, false, []⟩] none [0, 3, 4, 5])
  (.block 0 (.loop [0, 3] [4, 5] 1
    (.seq (.seq (.ops [⟨(some 9), .mov (.t 5), none, false, []⟩,
      ⟨(some 10), .mov (.t 0), none, false, []⟩,
      ⟨(some 11), .len true (.t 10), none, false, []⟩,
      ⟨(some 12), .bin .none .lss (.t 9) (.t 11), none, false, []⟩] none [0, 3, 4, 5, 12])
    (.cond (.t 12)
      .skip
      (.exit 0)))
    (.seq (.block 1 (.seq (.block 2 (.loop [0, 3, 5] [4] 1
      (.seq (.seq (.ops [⟨(some 15), .mov (.t 4), none, false, []⟩,
        ⟨(some 16), .bin .none .gtr (.t 15) (.c (.int .i64 0)), none, false, []⟩,
        ⟨(some 17), .mov (.t 16), none, true, []⟩,
        ⟨(some 18), .mov (.t 0), (some (17, true)), false, []⟩,
        ⟨(some 19), .mov (.t 5), (some (17, true)), false, []⟩,
        ⟨(some 20), .index 1 none false (.t 18) (.t 19), (some (17, true)), false, []⟩,
        ⟨(some 21), .mov (.t 0), (some (17, true)), false, []⟩,
        ⟨(some 22), .mov (.t 4), (some (17, true)), false, []⟩,
        ⟨(some 23), .index 1 none false (.t 21) (.t 22), (some (17, true)), false, []⟩,
        ⟨(some 24), .bin .none .neq (.t 20) (.t 23), (some (17, true)), false, []⟩,
        ⟨(some 25), .pick (.t 17) (.t 24) (.c (.bool false)), none, false, []⟩] (some (0, 0, [0, 1, 2, 3, 4, 5, 6, 7, 8, 9, 10])) [0, 3, 4, 5, 25])
      (.cond (.t 25)
        .skip
        (.exit 2)))
      (.block 3 (.ops [⟨(some 26), .mov (.t 3), none, false, []⟩,
        ⟨(some 27), .mov (.t 4), none, false, []⟩,
        ⟨(some 28), .bin .none .sub (.t 27) (.c (.int .i64 1)), none, false, []⟩,
        ⟨(some 29), .iaddr 1 none (.t 26) (.t 28), none, false, []⟩,
        ⟨(some 30), .load 1 false (.t 29), none, false, []⟩,
        ⟨(some 4), .mov (.t 30), none, false, []⟩] none [0, 3, 4, 5])))))
    (.join [0, 3, 5] [4] 1 (.seq (.ops [⟨(some 31), .mov (.t 0), none, false, []⟩,
        ⟨(some 32), .mov (.t 5), none, false, []⟩,
        ⟨(some 33), .index 1 none false (.t 31) (.t 32), none, false, []⟩,
        ⟨(some 34), .mov (.t 0), none, false, []⟩,
        ⟨(some 35), .mov (.t 4), none, false, []⟩,
        ⟨(some 36), .index 1 none false (.t 34) (.t 35), none, false, []⟩,
        ⟨(some 37), .bin .none .eql (.t 33) (.t 36), none, false, []⟩] (some (0, 0, [0, 1, 2, 3, 4, 5, 6])) [0, 3, 4, 5, 37])
      (.cond (.t 37)
        (.ops [⟨(some 38), .mov (.t 4), none, false, []⟩,
          ⟨(some 39), .bin .none .add (.t 38) (.c (.int .i64 1)), none, false, []⟩,
          ⟨(some 4), .mov (.t 39), none, false, []⟩] none [0, 3, 4, 5])
        .skip))
    (.ops [⟨(some 40), .mov (.t 3), none, false, []⟩,
      ⟨(some 41), .mov (.t 5), none, false, []⟩,
      ⟨(some 42), .mov (.t 4), none, false, []⟩,
      ⟨(some 43), .iaddr 1 none (.t 40) (.t 41), none, false, []⟩,
      ⟨none, .store 1 (.t 43) (.t 42), none, false, []⟩] none [0, 3, 4, 5]))))
    (.ops [⟨(some 13), .mov (.t 5), none, false, []⟩,
      ⟨(some 14), .bin .none .add (.t 13) (.c (.int .i64 1)), none, false, []⟩,
      ⟨(some 5), .mov (.t 14), none, false, []⟩] none [0, 3, 4, 5]))))))
  (.seq (.ops [⟨(some 44), .mov (.t 3), none, false, []⟩,
    ⟨(some 2), .mov (.t 44), none, false, []⟩] none [2])
  .ret)))))
def find_border_r : List RRes := [.tmp 2]
def find_border_hi : Hi := ⟨[(8, (.int .i64))], [(0, "s"), (1, "s"), (3, "out"), (4, "n"), (5, "i")]⟩
def find_border_an : An := (.seq .d (.seq .d (.seq .d (.seq (.seq .d (.loop [3] [] [] (.seq .d (.seq (.seq (.loop [] [] [] .d) .d) .d)))) .d))))
def find_border_fi : Fi := ⟨45, find_border_c, find_border_r, find_border_an, find_border_hi, none⟩
theorem find_border_ok : FiOk Try.prog f_find_border find_border_fi :=
  ⟨fun _ => by kernel_rfl, fun _ h hlen => fun_sound (by kernel_rfl) (fn := Try.f13) (draw_sound _ _) Try.func13 rfl (by kernel_rfl : comp Try.prog 45 _ find_border_c = some find_border_c) (by kernel_rfl : cRes Try.prog Try.f13.results.toList = some find_border_r) hlen h, fun _ h => nomatch h⟩

/-- fustian/find.In: slots [0 text, 1 find, 2 text, 3 find, 5 b, 6 out, 7 n, 8 i] -/
def find_In_c : SCode :=
  (.seq (.ops [⟨(some 4), .mov (.c .nils), none, false, []⟩] none [0, 1])
  (.seq (.ops [⟨(some 9), .mov (.t 1), none, false, []⟩,
    ⟨(some 10), .call f_find_border [(.t 9)], none, false, []⟩,
    ⟨(some 5), .mov (.t 10), none, false, []⟩] none [0, 1, 5])
  (.seq (.ops [⟨(some 6), .newnil 1, none, false, []⟩] none [0, 1, 5, 6])
  (.seq (.ops [⟨(some 7), .mov (.c (.int .i64 0)), none, false, []⟩] none [0, 1, 5, 6, 7])
  (.seq (.seq (.ops [⟨(some 11), .mov (.t 0), none, false, []⟩,
    ⟨(some 12), .len true (.t 11), none, false, []⟩,
    ⟨(some 13), .mov (.c (.int .i64 0)), none, false, []⟩] none [0, 1, 5, 6, 7, 12, 13])
  (.block 0 (.loop [0, 1, 5, 12] [6, 7, 13] 1
    (.seq (.ops [⟨(some 14), .bin .none .lss (.t 13) (.t 12), none, false, []⟩] none [0, 1, 5, 6, 7, 12, 13, 14])
    (.seq (.cond (.t 14)
      .skip
      (.exit 0))
    (.join [0, 1, 5, 12, 13] [6, 7] 1 (.block 1 (.seq (.ops [⟨(some 15), .mov (.t 13), none, false, []⟩,
        ⟨(some 8), .mov (.t 15), none, false, []⟩] none [0, 1, 5, 6, 7, 8, 12, 13])
      (.seq (.block 2 (.loop [0, 1, 5, 6, 8, 12, 13] [7] 1
        (.seq (.seq (.ops [⟨(some 16), .mov (.t 7), none, false, []⟩,
          ⟨(some 17), .bin .none .gtr (.t 16) (.c (.int .i64 0)), none, false, []⟩,
          ⟨(some 18), .mov (.t 17), none, true, []⟩,
          ⟨(some 19), .mov (.t 7), (some (18, true)), false, []⟩,
          ⟨(some 20), .mov (.t 1), (some (18, true)), false, []⟩,
          ⟨(some 21), .len true (.t 20), (some (18, true)), false, []⟩,
          ⟨(some 22), .bin .none .eql (.t 19) (.t 21), (some (18, true)), false, []⟩,
          ⟨(some 23), .mov (.t 22), (some (18, true)), true, []⟩,
          ⟨(some 24), .mov (.t 0), (some (23, false)), false, []⟩,
          ⟨(some 25), .mov (.t 8), (some (23, false)), false, []⟩,
          ⟨(some 26), .index 1 none false (.t 24) (.t 25), (some (23, false)), false, []⟩,
          ⟨(some 27), .mov (.t 1), (some (23, false)), false, []⟩,
          ⟨(some 28), .mov (.t 7), (some (23, false)), false, []⟩,
          ⟨(some 29), .index 1 none false (.t 27) (.t 28), (some (23, false)), false, []⟩,
          ⟨(some 30), .bin .none .neq (.t 26) (.t 29), (some (23, false)), false, []⟩,
          ⟨(some 31), .pick (.t 23) (.c (.bool true)) (.t 30), (some (18, true)), false, []⟩,
          ⟨(some 32), .pick (.t 18) (.t 31) (.c (.bool false)), none, false, []⟩] (some (0, 0, [0, 1, 2, 3, 4, 5, 6, 7, 8, 9, 10, 11, 12, 13, 14, 15, 16])) [0, 1, 5, 6, 7, 8, 12, 13, 32])
        (.cond (.t 32)
          .skip
          (.exit 2)))
        (.block 3 (.ops [⟨(some 33), .mov (.t 5), none, false, []⟩,
          ⟨(some 34), .mov (.t 7), none, false, []⟩,
          ⟨(some 35), .bin .none .sub (.t 34) (.c (.int .i64 1)), none, false, []⟩,
          ⟨(some 36), .iaddr 1 none (.t 33) (.t 35), none, false, []⟩,
          ⟨(some 37), .load 1 false (.t 36), none, false, []⟩,
          ⟨(some 7), .mov (.t 37), none, false, []⟩] none [0, 1, 5, 6, 7, 8, 12, 13])))))
      (.join [0, 1, 5, 6, 8, 12, 13] [7] 1 (.seq (.ops [⟨(some 38), .mov (.t 0), none, false, []⟩,
          ⟨(some 39), .mov (.t 8), none, false, []⟩,
          ⟨(some 40), .index 1 none false (.t 38) (.t 39), none, false, []⟩,
          ⟨(some 41), .mov (.t 1), none, false, []⟩,
          ⟨(some 42), .mov (.t 7), none, false, []⟩,
          ⟨(some 43), .index 1 none false (.t 41) (.t 42), none, false, []⟩,
          ⟨(some 44), .bin .none .eql (.t 40) (.t 43), none, false, []⟩] (some (0, 0, [0, 1, 2, 3, 4, 5, 6])) [0, 1, 5, 6, 7, 8, 12, 13, 44])
        (.cond (.t 44)
          (.ops [⟨(some 45), .mov (.t 7), none, false, []⟩,
            ⟨(some 46), .bin .none .add (.t 45) (.c (.int .i64 1)), none, false, []⟩,
            ⟨(some 7), .mov (.t 46), none, false, []⟩] none [0, 1, 5, 6, 7, 8, 12, 13])
          .skip))
      (.seq (.ops [⟨(some 47), .mov (.t 7), none, false, []⟩,
        ⟨(some 48), .mov (.t 1), none, false, []⟩,
        ⟨(some 49), .len true (.t 48), none, false, []⟩,
        ⟨(some 50), .bin .none .eql (.t 47) (.t 49), none, false, []⟩] none [0, 1, 5, 6, 7, 8, 12, 13, 50])
      (.cond (.t 50)
        (.ops [⟨(some 51), .mov (.t 6), none, false, []⟩,
          ⟨(some 52), .mov (.t 8), none, false, []⟩,
          ⟨(some 53), .bin .none .add (.t 52) (.c (.int .i64 1)), none, false, []⟩,
          ⟨(some 54), .mov (.t 7), none, false, []⟩,
          ⟨(some 55), .bin .none .sub (.t 53) (.t 54), none, false, []⟩,
          ⟨(some 56), .bslice true 1 1 [(.int .i64 0)] [(0, 1, (.t 55))], none, false, []⟩,
          ⟨(some 57), .append 1 8 (.t 51) (.t 56), none, false, []⟩,
          ⟨(some 6), .mov (.t 57), none, false, []⟩] none [0, 1, 5, 6, 7, 12, 13])
        .skip))))))
    (.ops [⟨(some 58), .bin .none .add (.t 13) (.c (.int .i64 1)), none, false, []⟩,
      ⟨(some 13), .mov (.t 58), none, false, []⟩] none [0, 1, 5, 6, 7, 12, 13])))))))
  (.seq (.ops [⟨(some 59), .mov (.t 6), none, false, []⟩,
    ⟨(some 4), .mov (.t 59), none, false, []⟩] none [4])
  .ret))))))
def find_In_r : List RRes := [.tmp 4]
def find_In_hi : Hi := ⟨[(6, (.int .i64)), (56, (.int .i64)), (57, (.int .i64))], [(0, "text"), (1, "find"), (2, "text"), (3, "find"), (5, "b"), (6, "out"), (7, "n"), (8, "i")]⟩
def find_In_an : An := (.seq .d (.seq .d (.seq .d (.seq .d (.seq (.seq .d (.loop [6] [] [] (.seq .d (.seq .d (.seq (.seq .d (.seq (.loop [] [] [] .d) .d)) .d))))) .d)))))
def find_In_fi : Fi := ⟨60, find_In_c, find_In_r, find_In_an, find_In_hi, none⟩
theorem find_In_ok : FiOk Try.prog f_find_In find_In_fi :=
  ⟨fun _ => by kernel_rfl, fun _ h hlen => fun_sound (by kernel_rfl) (fn := Try.f7) (draw_sound _ _) Try.func7 rfl (by kernel_rfl : comp Try.prog 60 _ find_In_c = some find_In_c) (by kernel_rfl : cRes Try.prog Try.f7.results.toList = some find_In_r) hlen h, fun _ h => nomatch h⟩

/-- fustian/find.Replace: slots [0 text, 1 find, 2 put, 3 text, 4 find, 5 put, 9 e, 10 out, 11 at, 12 n, 13 _, 14 i] -/
def find_Replace_c : SCode :=
  (.seq (.ops [⟨(some 6), .mov (.c (.str [])), none, false, []⟩,
    ⟨(some 7), .mov (.c (.int .i64 0)), none, false, []⟩,
    ⟨(some 8), .mov (.c (.int .i64 0)), none, false, []⟩] none [0, 1, 2])
  (.seq (.seq (.ops [⟨(some 15), .mov (.t 0), none, false, []⟩,
    ⟨(some 16), .mov (.t 1), none, false, []⟩,
    ⟨(some 17), .call f_find_fault [(.t 15), (.t 16)], none, false, []⟩,
    ⟨(some 9), .mov (.t 17), none, false, []⟩] none [0, 1, 2, 9])
  (.seq (.ops [⟨(some 18), .mov (.t 9), none, false, []⟩,
    ⟨(some 19), .bin .none .neq (.t 18) (.c (.int .i64 0)), none, false, []⟩] none [0, 1, 2, 9, 19])
  (.cond (.t 19)
    (.seq (.ops [⟨(some 20), .mov (.t 9), none, false, []⟩,
      ⟨(some 6), .mov (.c (.str [])), none, false, []⟩,
      ⟨(some 7), .mov (.c (.int .i64 0)), none, false, []⟩,
      ⟨(some 8), .mov (.t 20), none, false, []⟩] none [6, 7, 8])
    .ret)
    .skip)))
  (.seq (.ops [⟨(some 10), .alloc 0 [.nilp, .nils], none, false, []⟩] none [0, 1, 2, 10])
  (.seq (.ops [⟨(some 11), .mov (.c (.int .i64 0)), none, false, []⟩,
    ⟨(some 12), .mov (.c (.int .i64 0)), none, false, []⟩] none [0, 1, 2, 10, 11, 12])
  (.seq (.seq (.ops [⟨(some 21), .mov (.t 0), none, false, []⟩,
    ⟨(some 22), .mov (.t 1), none, false, []⟩,
    ⟨(some 23), .call f_find_In [(.t 21), (.t 22)], none, false, []⟩,
    ⟨(some 24), .len false (.t 23), none, false, []⟩,
    ⟨(some 25), .mov (.c (.int .i64 0)), none, false, []⟩] none [0, 1, 2, 10, 11, 12, 23, 24, 25])
  (.block 0 (.loop [0, 1, 2, 10, 23, 24] [11, 12, 25] 1
    (.seq (.ops [⟨(some 26), .bin .none .lss (.t 25) (.t 24), none, false, []⟩] none [0, 1, 2, 10, 11, 12, 23, 24, 25, 26])
    (.seq (.cond (.t 26)
      .skip
      (.exit 0))
    (.join [0, 1, 2, 10, 23, 24, 25] [11, 12] 1 (.block 1 (.seq (.ops [⟨(some 27), .iaddr 1 none (.t 23) (.t 25), none, false, []⟩,
        ⟨(some 28), .load 1 false (.t 27), none, false, []⟩,
        ⟨(some 14), .mov (.t 28), none, false, []⟩] none [0, 1, 2, 10, 11, 12, 14, 23, 24, 25])
      (.seq (.seq (.ops [⟨(some 29), .mov (.t 14), none, false, []⟩,
        ⟨(some 30), .mov (.t 11), none, false, []⟩,
        ⟨(some 31), .bin .none .lss (.t 29) (.t 30), none, false, []⟩] none [0, 1, 2, 10, 11, 12, 14, 23, 24, 25, 31])
      (.cond (.t 31)
        (.exit 1)
        .skip))
      (.seq (.ops [⟨(some 32), .mov (.t 0), none, false, []⟩,
        ⟨(some 33), .mov (.t 11), none, false, []⟩,
        ⟨(some 34), .mov (.t 14), none, false, []⟩,
        ⟨(some 35), .slice 0 (.t 32) (some (.t 33)) (some (.t 34)), none, false, []⟩,
        ⟨(some 36), .mov (.t 2), none, false, []⟩,
        ⟨(some 37), .bin .none .add (.t 35) (.t 36), none, false, []⟩,
        ⟨(some 38), .call f___strings_Builder__WriteString [(.t 10), (.t 37)], none, false, []⟩] none [0, 1, 2, 10, 12, 14, 23, 24, 25])
      (.seq (.ops [⟨(some 39), .mov (.t 14), none, false, []⟩,
        ⟨(some 40), .mov (.t 1), none, false, []⟩,
        ⟨(some 41), .len true (.t 40), none, false, []⟩,
        ⟨(some 42), .bin .none .add (.t 39) (.t 41), none, false, []⟩,
        ⟨(some 11), .mov (.t 42), none, false, []⟩] none [0, 1, 2, 10, 11, 12, 23, 24, 25])
      (.seq (.ops [⟨(some 43), .mov (.t 12), none, false, []⟩,
        ⟨(some 44), .bin .none .add (.t 43) (.c (.int .i64 1)), none, false, []⟩,
        ⟨(some 12), .mov (.t 44), none, false, []⟩] none [0, 1, 2, 10, 11, 12, 23, 24, 25])
      (.seq (.ops [⟨(some 45), .call f___strings_Builder__Len [(.t 10)], none, false, []⟩,
        ⟨(some 46), .bin .none .gtr (.t 45) (.c (.int .i64 600)), none, false, []⟩] none [0, 1, 2, 10, 11, 12, 23, 24, 25, 46])
      (.cond (.t 46)
        (.seq (.ops [⟨(some 6), .mov (.c (.str [])), none, false, []⟩,
          ⟨(some 7), .mov (.c (.int .i64 0)), none, false, []⟩,
          ⟨(some 8), .mov (.c (.int .i64 1)), none, false, []⟩] none [6, 7, 8])
        .ret)
        .skip))))))))
    (.ops [⟨(some 47), .bin .none .add (.t 25) (.c (.int .i64 1)), none, false, []⟩,
      ⟨(some 25), .mov (.t 47), none, false, []⟩] none [0, 1, 2, 10, 11, 12, 23, 24, 25])))))))
  (.seq (.ops [⟨(some 48), .mov (.t 0), none, false, []⟩,
    ⟨(some 49), .mov (.t 11), none, false, []⟩,
    ⟨(some 50), .slice 0 (.t 48) (some (.t 49)) none, none, false, []⟩,
    ⟨(some 51), .call f___strings_Builder__WriteString [(.t 10), (.t 50)], none, false, []⟩] none [10, 12])
  (.seq (.seq (.ops [⟨(some 52), .call f___strings_Builder__Len [(.t 10)], none, false, []⟩,
    ⟨(some 53), .bin .none .gtr (.t 52) (.c (.int .i64 600)), none, false, []⟩] none [10, 12, 53])
  (.cond (.t 53)
    (.seq (.ops [⟨(some 6), .mov (.c (.str [])), none, false, []⟩,
      ⟨(some 7), .mov (.c (.int .i64 0)), none, false, []⟩,
      ⟨(some 8), .mov (.c (.int .i64 1)), none, false, []⟩] none [6, 7, 8])
    .ret)
    .skip))
  (.seq (.ops [⟨(some 54), .call f___strings_Builder__String [(.t 10)], none, false, []⟩,
    ⟨(some 55), .mov (.t 12), none, false, []⟩,
    ⟨(some 6), .mov (.t 54), none, false, []⟩,
    ⟨(some 7), .mov (.t 55), none, false, []⟩,
    ⟨(some 8), .mov (.c (.int .i64 0)), none, false, []⟩] none [6, 7, 8])
  .ret))))))))
def find_Replace_r : List RRes := [.tmp 6, .tmp 7, .tmp 8]
def find_Replace_hi : Hi := ⟨[], [(0, "text"), (1, "find"), (2, "put"), (3, "text"), (4, "find"), (5, "put"), (9, "e"), (10, "out"), (11, "at"), (12, "n"), (14, "i")]⟩
def find_Replace_an : An := (.seq .d (.seq .d (.seq .d (.seq .d (.seq (.seq .d (.loop [] [] [] .d)) .d)))))
def find_Replace_fi : Fi := ⟨56, find_Replace_c, find_Replace_r, find_Replace_an, find_Replace_hi, none⟩
theorem find_Replace_ok : FiOk Try.prog f_find_Replace find_Replace_fi :=
  ⟨fun _ => by kernel_rfl, fun _ h hlen => fun_sound (by kernel_rfl) (fn := Try.f4) (draw_sound _ _) Try.func4 rfl (by kernel_rfl : comp Try.prog 56 _ find_Replace_c = some find_Replace_c) (by kernel_rfl : cRes Try.prog Try.f4.results.toList = some find_Replace_r) hlen h, fun _ h => nomatch h⟩

/-- fustian/fustianref.findFault: slots [0 text, 1 find, 2 text, 3 find] -/
def ref_findFault_c : SCode :=
  (.seq (.ops [⟨(some 4), .mov (.c (.int .i64 0)), none, false, []⟩] none [0, 1])
  (.seq (.seq (.ops [⟨(some 5), .mov (.t 0), none, false, []⟩,
    ⟨(some 6), .len true (.t 5), none, false, []⟩,
    ⟨(some 7), .bin .none .gtr (.t 6) (.c (.int .i64 600)), none, false, []⟩,
    ⟨(some 8), .mov (.t 7), none, true, []⟩,
    ⟨(some 9), .mov (.t 1), (some (8, false)), false, []⟩,
    ⟨(some 10), .len true (.t 9), (some (8, false)), false, []⟩,
    ⟨(some 11), .bin .none .gtr (.t 10) (.c (.int .i64 20)), (some (8, false)), false, []⟩,
    ⟨(some 12), .pick (.t 8) (.c (.bool true)) (.t 11), none, false, []⟩] none [1, 12])
  (.cond (.t 12)
    (.seq (.ops [⟨(some 4), .mov (.c (.int .i64 1)), none, false, []⟩] none [4])
    .ret)
    .skip))
  (.seq (.seq (.ops [⟨(some 13), .mov (.t 1), none, false, []⟩,
    ⟨(some 14), .bin .none .eql (.t 13) (.c (.str [])), none, false, []⟩] none [14])
  (.cond (.t 14)
    (.seq (.ops [⟨(some 4), .mov (.c (.int .i64 4)), none, false, []⟩] none [4])
    .ret)
    .skip))
  (.seq (.ops [⟨(some 4), .mov (.c (.int .i64 0)), none, false, []⟩] none [4])
  .ret))))
def ref_findFault_r : List RRes := [.tmp 4]
def ref_findFault_hi : Hi := ⟨[], [(0, "text"), (1, "find"), (2, "text"), (3, "find")]⟩
def ref_findFault_an : An := .d
def ref_findFault_fi : Fi := ⟨15, ref_findFault_c, ref_findFault_r, ref_findFault_an, ref_findFault_hi, none⟩
theorem ref_findFault_ok : FiOk Try.prog f_ref_findFault ref_findFault_fi :=
  ⟨fun _ => by kernel_rfl, fun _ h hlen => fun_sound (by kernel_rfl) (fn := Try.f11) (draw_sound _ _) Try.func11 rfl (by kernel_rfl : comp Try.prog 15 _ ref_findFault_c = some ref_findFault_c) (by kernel_rfl : cRes Try.prog Try.f11.results.toList = some ref_findFault_r) hlen h, fun _ h => nomatch h⟩

/-- fustian/fustianref.standsAt: slots [0 text, 1 find, 2 at, 3 text, 4 find, 5 at] -/
def ref_standsAt_c : SCode :=
  (.seq (.ops [⟨(some 6), .mov (.c (.bool false)), none, false, []⟩] none [0, 1, 2])
  (.seq (.ops [⟨(some 7), .mov (.t 2), none, false, []⟩,
    ⟨(some 8), .bin .none .geq (.t 7) (.c (.int .i64 0)), none, false, []⟩,
    ⟨(some 9), .mov (.t 8), none, true, []⟩,
    ⟨(some 10), .mov (.t 2), (some (9, true)), false, []⟩,
    ⟨(some 11), .mov (.t 1), (some (9, true)), false, []⟩,
    ⟨(some 12), .len true (.t 11), (some (9, true)), false, []⟩,
    ⟨(some 13), .bin .none .add (.t 10) (.t 12), (some (9, true)), false, []⟩,
    ⟨(some 14), .mov (.t 0), (some (9, true)), false, []⟩,
    ⟨(some 15), .len true (.t 14), (some (9, true)), false, []⟩,
    ⟨(some 16), .bin .none .leq (.t 13) (.t 15), (some (9, true)), false, []⟩,
    ⟨(some 17), .pick (.t 9) (.t 16) (.c (.bool false)), none, false, []⟩,
    ⟨(some 18), .mov (.t 17), none, true, []⟩,
    ⟨(some 19), .mov (.t 0), (some (18, true)), false, []⟩,
    ⟨(some 20), .mov (.t 2), (some (18, true)), false, []⟩,
    ⟨(some 21), .mov (.t 2), (some (18, true)), false, []⟩,
    ⟨(some 22), .mov (.t 1), (some (18, true)), false, []⟩,
    ⟨(some 23), .len true (.t 22), (some (18, true)), false, []⟩,
    ⟨(some 24), .bin .none .add (.t 21) (.t 23), (some (18, true)), false, []⟩,
    ⟨(some 25), .slice 0 (.t 19) (some (.t 20)) (some (.t 24)), (some (18, true)), false, []⟩,
    ⟨(some 26), .mov (.t 1), (some (18, true)), false, []⟩,
    ⟨(some 27), .bin .none .eql (.t 25) (.t 26), (some (18, true)), false, []⟩,
    ⟨(some 28), .pick (.t 18) (.t 27) (.c (.bool false)), none, false, []⟩,
    ⟨(some 6), .mov (.t 28), none, false, []⟩] none [6])
  .ret))
def ref_standsAt_r : List RRes := [.tmp 6]
def ref_standsAt_hi : Hi := ⟨[], [(0, "text"), (1, "find"), (2, "at"), (3, "text"), (4, "find"), (5, "at")]⟩
def ref_standsAt_an : An := .d
def ref_standsAt_fi : Fi := ⟨29, ref_standsAt_c, ref_standsAt_r, ref_standsAt_an, ref_standsAt_hi, none⟩
theorem ref_standsAt_ok : FiOk Try.prog f_ref_standsAt ref_standsAt_fi :=
  ⟨fun _ => by kernel_rfl, fun _ h hlen => fun_sound (by kernel_rfl) (fn := Try.f12) (draw_sound _ _) Try.func12 rfl (by kernel_rfl : comp Try.prog 29 _ ref_standsAt_c = some ref_standsAt_c) (by kernel_rfl : cRes Try.prog Try.f12.results.toList = some ref_standsAt_r) hlen h, fun _ h => nomatch h⟩

/-- fustian/fustianref.FindReplace: slots [0 text, 1 find, 2 put, 3 text, 4 find, 5 put, 9 e, 10 out, 11 n, 12 at] -/
def ref_FindReplace_c : SCode :=
  (.seq (.ops [⟨(some 6), .mov (.c (.str [])), none, false, []⟩,
    ⟨(some 7), .mov (.c (.int .i64 0)), none, false, []⟩,
    ⟨(some 8), .mov (.c (.int .i64 0)), none, false, []⟩] none [0, 1, 2])
  (.seq (.seq (.ops [⟨(some 13), .mov (.t 0), none, false, []⟩,
    ⟨(some 14), .mov (.t 1), none, false, []⟩,
    ⟨(some 15), .call f_ref_findFault [(.t 13), (.t 14)], none, false, []⟩,
    ⟨(some 9), .mov (.t 15), none, false, []⟩] none [0, 1, 2, 9])
  (.seq (.ops [⟨(some 16), .mov (.t 9), none, false, []⟩,
    ⟨(some 17), .bin .none .neq (.t 16) (.c (.int .i64 0)), none, false, []⟩] none [0, 1, 2, 9, 17])
  (.cond (.t 17)
    (.seq (.ops [⟨(some 18), .mov (.t 9), none, false, []⟩,
      ⟨(some 6), .mov (.c (.str [])), none, false, []⟩,
      ⟨(some 7), .mov (.c (.int .i64 0)), none, false, []⟩,
      ⟨(some 8), .mov (.t 18), none, false, []⟩] none [6, 7, 8])
    .ret)
    .skip)))
  (.seq (.ops [⟨(some 10), .mov (.c (.str [])), none, false, []⟩] none [0, 1, 2, 10])
  (.seq (.ops [⟨(some 11), .mov (.c (.int .i64 0)), none, false, []⟩] none [0, 1, 2, 10, 11])
  (.seq (.seq (.ops [⟨(some 12), .mov (.c (.int .i64 0)), none, false, []⟩] none [0, 1, 2, 10, 11, 12])
  (.block 0 (.loop [0, 1, 2] [10, 11, 12] 0
    (.seq (.seq (.ops [⟨(some 19), .mov (.t 12), none, false, []⟩,
      ⟨(some 20), .mov (.t 0), none, false, []⟩,
      ⟨(some 21), .len true (.t 20), none, false, []⟩,
      ⟨(some 22), .bin .none .lss (.t 19) (.t 21), none, false, []⟩] none [0, 1, 2, 10, 11, 12, 22])
    (.cond (.t 22)
      .skip
      (.exit 0)))
    (.block 1 (.seq (.seq (.ops [⟨(some 23), .mov (.t 0), none, false, []⟩,
      ⟨(some 24), .mov (.t 1), none, false, []⟩,
      ⟨(some 25), .mov (.t 12), none, false, []⟩,
      ⟨(some 26), .call f_ref_standsAt [(.t 23), (.t 24), (.t 25)], none, false, []⟩] none [0, 1, 2, 10, 11, 12, 26])
    (.cond (.t 26)
      (.seq (.ops [⟨(some 27), .mov (.t 11), none, false, []⟩,
        ⟨(some 28), .bin .none .add (.t 27) (.c (.int .i64 1)), none, false, []⟩,
        ⟨(some 11), .mov (.t 28), none, false, []⟩] none [0, 1, 2, 10, 11, 12])
      (.seq (.ops [⟨(some 29), .mov (.t 12), none, false, []⟩,
        ⟨(some 30), .mov (.t 1), none, false, []⟩,
        ⟨(some 31), .len true (.t 30), none, false, []⟩,
        ⟨(some 32), .bin .none .add (.t 29) (.t 31), none, false, []⟩,
        ⟨(some 12), .mov (.t 32), none, false, []⟩] none [0, 1, 2, 10, 11, 12])
      (.join [0, 1, 2, 11, 12] [10] 0 (.seq (.ops [⟨(some 33), .mov (.t 10), none, false, []⟩,
          ⟨(some 34), .len true (.t 33), none, false, []⟩,
          ⟨(some 35), .bin .none .leq (.t 34) (.c (.int .i64 600)), none, false, []⟩] none [0, 1, 2, 10, 11, 12, 35])
        (.cond (.t 35)
          (.ops [⟨(some 36), .mov (.t 10), none, false, []⟩,
            ⟨(some 37), .mov (.t 2), none, false, []⟩,
            ⟨(some 38), .bin .none .add (.t 36) (.t 37), none, false, []⟩,
            ⟨(some 10), .mov (.t 38), none, false, []⟩] none [0, 1, 2, 10, 11, 12])
          .skip))
      (.exit 1))))
      .skip))
    (.seq (.ops [⟨(some 39), .mov (.t 10), none, false, []⟩,
      ⟨(some 40), .mov (.t 0), none, false, []⟩,
      ⟨(some 41), .mov (.t 12), none, false, []⟩,
      ⟨(some 42), .mov (.t 12), none, false, []⟩,
      ⟨(some 43), .bin .none .add (.t 42) (.c (.int .i64 1)), none, false, []⟩,
      ⟨(some 44), .slice 0 (.t 40) (some (.t 41)) (some (.t 43)), none, false, []⟩,
      ⟨(some 45), .bin .none .add (.t 39) (.t 44), none, false, []⟩,
      ⟨(some 10), .mov (.t 45), none, false, []⟩] none [0, 1, 2, 10, 11, 12])
    (.ops [⟨(some 46), .mov (.t 12), none, false, []⟩,
      ⟨(some 47), .bin .none .add (.t 46) (.c (.int .i64 1)), none, false, []⟩,
      ⟨(some 12), .mov (.t 47), none, false, []⟩] none [0, 1, 2, 10, 11, 12]))))))))
  (.seq (.seq (.ops [⟨(some 48), .mov (.t 10), none, false, []⟩,
    ⟨(some 49), .len true (.t 48), none, false, []⟩,
    ⟨(some 50), .bin .none .gtr (.t 49) (.c (.int .i64 600)), none, false, []⟩] none [10, 11, 50])
  (.cond (.t 50)
    (.seq (.ops [⟨(some 6), .mov (.c (.str [])), none, false, []⟩,
      ⟨(some 7), .mov (.c (.int .i64 0)), none, false, []⟩,
      ⟨(some 8), .mov (.c (.int .i64 1)), none, false, []⟩] none [6, 7, 8])
    .ret)
    .skip))
  (.seq (.ops [⟨(some 51), .mov (.t 10), none, false, []⟩,
    ⟨(some 52), .mov (.t 11), none, false, []⟩,
    ⟨(some 6), .mov (.t 51), none, false, []⟩,
    ⟨(some 7), .mov (.t 52), none, false, []⟩,
    ⟨(some 8), .mov (.c (.int .i64 0)), none, false, []⟩] none [6, 7, 8])
  .ret)))))))
def ref_FindReplace_r : List RRes := [.tmp 6, .tmp 7, .tmp 8]
def ref_FindReplace_hi : Hi := ⟨[], [(0, "text"), (1, "find"), (2, "put"), (3, "text"), (4, "find"), (5, "put"), (9, "e"), (10, "out"), (11, "n"), (12, "at")]⟩
def ref_FindReplace_an : An := (.seq .d (.seq .d (.seq .d (.seq .d (.seq (.seq .d (.loop [] [] [] .d)) .d)))))
def ref_FindReplace_fi : Fi := ⟨53, ref_FindReplace_c, ref_FindReplace_r, ref_FindReplace_an, ref_FindReplace_hi, none⟩
theorem ref_FindReplace_ok : FiOk Try.prog f_ref_FindReplace ref_FindReplace_fi :=
  ⟨fun _ => by kernel_rfl, fun _ h hlen => fun_sound (by kernel_rfl) (fn := Try.f5) (draw_sound _ _) Try.func5 rfl (by kernel_rfl : comp Try.prog 53 _ ref_FindReplace_c = some ref_FindReplace_c) (by kernel_rfl : cRes Try.prog Try.f5.results.toList = some ref_FindReplace_r) hlen h, fun _ h => nomatch h⟩

/-- fustian/fustianlaw.FindReplaces: slots [0 text, 1 s, 2 put, 3 text, 4 s, 5 put, 7 x, 8 m, 9 e, 10 y, 11 n, 12 f] -/
def law_FindReplaces_c : SCode :=
  (.seq (.ops [⟨(some 6), .mov (.c (.bool false)), none, false, []⟩] none [0, 1, 2])
  (.seq (.ops [⟨(some 14), .mov (.t 0), none, false, []⟩,
    ⟨(some 15), .mov (.t 1), none, false, []⟩,
    ⟨(some 16), .mov (.t 2), none, false, []⟩,
    ⟨(some 17), .call f_find_Replace [(.t 14), (.t 15), (.t 16)], none, false, []⟩,
    ⟨(some 13), .mov (.t 17), none, false, []⟩,
    ⟨(some 18), .extract (.t 13) 0, none, false, []⟩,
    ⟨(some 19), .extract (.t 13) 1, none, false, []⟩,
    ⟨(some 20), .extract (.t 13) 2, none, false, []⟩,
    ⟨(some 7), .mov (.t 18), none, false, []⟩,
    ⟨(some 8), .mov (.t 19), none, false, []⟩,
    ⟨(some 9), .mov (.t 20), none, false, []⟩] none [0, 1, 2, 7, 8, 9])
  (.seq (.ops [⟨(some 22), .mov (.t 0), none, false, []⟩,
    ⟨(some 23), .mov (.t 1), none, false, []⟩,
    ⟨(some 24), .mov (.t 2), none, false, []⟩,
    ⟨(some 25), .call f_ref_FindReplace [(.t 22), (.t 23), (.t 24)], none, false, []⟩,
    ⟨(some 21), .mov (.t 25), none, false, []⟩,
    ⟨(some 26), .extract (.t 21) 0, none, false, []⟩,
    ⟨(some 27), .extract (.t 21) 1, none, false, []⟩,
    ⟨(some 28), .extract (.t 21) 2, none, false, []⟩,
    ⟨(some 10), .mov (.t 26), none, false, []⟩,
    ⟨(some 11), .mov (.t 27), none, false, []⟩,
    ⟨(some 12), .mov (.t 28), none, false, []⟩] none [7, 8, 9, 10, 11, 12])
  (.seq (.ops [⟨(some 29), .mov (.t 7), none, false, []⟩,
    ⟨(some 30), .mov (.t 10), none, false, []⟩,
    ⟨(some 31), .bin .none .eql (.t 29) (.t 30), none, false, []⟩,
    ⟨(some 32), .mov (.t 31), none, true, []⟩,
    ⟨(some 33), .mov (.t 8), (some (32, true)), false, []⟩,
    ⟨(some 34), .mov (.t 11), (some (32, true)), false, []⟩,
    ⟨(some 35), .bin .none .eql (.t 33) (.t 34), (some (32, true)), false, []⟩,
    ⟨(some 36), .pick (.t 32) (.t 35) (.c (.bool false)), none, false, []⟩,
    ⟨(some 37), .mov (.t 36), none, true, []⟩,
    ⟨(some 38), .mov (.t 9), (some (37, true)), false, []⟩,
    ⟨(some 39), .mov (.t 12), (some (37, true)), false, []⟩,
    ⟨(some 40), .bin .none .eql (.t 38) (.t 39), (some (37, true)), false, []⟩,
    ⟨(some 41), .pick (.t 37) (.t 40) (.c (.bool false)), none, false, []⟩,
    ⟨(some 6), .mov (.t 41), none, false, []⟩] none [6])
  .ret))))
def law_FindReplaces_r : List RRes := [.tmp 6]
def law_FindReplaces_hi : Hi := ⟨[], [(0, "text"), (1, "s"), (2, "put"), (3, "text"), (4, "s"), (5, "put"), (7, "x"), (8, "m"), (9, "e"), (10, "y"), (11, "n"), (12, "f")]⟩
def law_FindReplaces_an : An := .d
def law_FindReplaces_fi : Fi := ⟨42, law_FindReplaces_c, law_FindReplaces_r, law_FindReplaces_an, law_FindReplaces_hi, none⟩
theorem law_FindReplaces_ok : FiOk Try.prog f_law_FindReplaces law_FindReplaces_fi :=
  ⟨fun _ => by kernel_rfl, fun _ h hlen => fun_sound (by kernel_rfl) (fn := Try.f3) (draw_sound _ _) Try.func3 rfl (by kernel_rfl : comp Try.prog 42 _ law_FindReplaces_c = some law_FindReplaces_c) (by kernel_rfl : cRes Try.prog Try.f3.results.toList = some law_FindReplaces_r) hlen h, fun _ h => nomatch h⟩

end Go.Proofs.Ytomipmjgcgihiaa
