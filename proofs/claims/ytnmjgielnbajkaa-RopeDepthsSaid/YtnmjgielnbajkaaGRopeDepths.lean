/- The functions' simplified code, printed by a program of the claim's author; each is checked against the program's own code. Conditions: none. -/
import Derived.Test.YtnmjgielnbajkaaProg
import Derived.Test.YtnmjgielnbajkaaVyM
set_option linter.unusedVariables false
set_option maxRecDepth 100000
namespace Go.Proofs.Ytnmjgielnbajkaa
open Go.Vc
abbrev f_gosem_cut_init : Nat := 2
abbrev f_law_RopeDepths : Nat := 3
abbrev f_law_RopeMeasures : Nat := 4
abbrev f_rope_Depths : Nat := 5
abbrev f_ref_RopePlayed : Nat := 6
abbrev f_rope_Measure : Nat := 7
abbrev f_ref_PosOf : Nat := 8
abbrev f_ref_PolyOf : Nat := 9
abbrev f_rope_play : Nat := 10
abbrev f___rope_Rope__Deep : Nat := 11
abbrev f_ref_RopePlayed_1 : Nat := 12
abbrev f___rope_Rope__Pos : Nat := 13
abbrev f___rope_Rope__Hash : Nat := 14
abbrev f___rope_maker__do : Nat := 15
abbrev f_poly_Of : Nat := 16
abbrev f___rope_maker__fault : Nat := 17
abbrev f___rope_maker__length : Nat := 18
abbrev f___rope_maker__make : Nat := 19
abbrev f___rope_maker__there : Nat := 20
abbrev f___rope_Rope__Len : Nat := 21
abbrev f_rope_New : Nat := 22
abbrev f_rope_Join : Nat := 23
abbrev f_rope_Split : Nat := 24
abbrev f_rope_leaf : Nat := 25
abbrev f_rope_node : Nat := 26
abbrev f_rope_balanced : Nat := 27
abbrev f_pos_Of : Nat := 28
abbrev f_pos_Join : Nat := 29
abbrev f_poly_Join : Nat := 30
abbrev f_strings_Count : Nat := 31
abbrev f_strings_LastIndexByte : Nat := 32
abbrev f_pos_May : Nat := 33
abbrev f_poly_May : Nat := 34
abbrev f_unicode_utf8_RuneCountInString : Nat := 35
abbrev f_strings_Index : Nat := 37
abbrev f_internal_bytealg_LastIndexByteString : Nat := 38
abbrev f_internal_stringslite_Index : Nat := 39
abbrev f_internal_stringslite_IndexByte : Nat := 40
abbrev f_internal_bytealg_Cutover : Nat := 42
abbrev f_internal_bytealg_IndexRabinKarp_string_ : Nat := 43
abbrev f_internal_bytealg_hashStr_string_ : Nat := 45

/-- fustian/pos.Of: slots [0 text, 1 text] -/
def pos_Of_c : SCode :=
  (.seq (.ops [⟨(some 2), .alloc 0 [(.int .i64 0), (.int .i64 0), (.int .i64 0)], none, false, []⟩] none [0, 2])
  (.seq (.ops [⟨(some 3), .mov (.t 0), none, false, []⟩,
    ⟨(some 4), .len true (.t 3), none, false, []⟩,
    ⟨(some 5), .mov (.t 0), none, false, []⟩,
    ⟨(some 6), .call f_strings_Count [(.t 5), (.c (.str [10]))], none, false, []⟩,
    ⟨(some 7), .mov (.t 0), none, false, []⟩,
    ⟨(some 8), .len true (.t 7), none, false, []⟩,
    ⟨(some 9), .mov (.t 0), none, false, []⟩,
    ⟨(some 10), .call f_strings_LastIndexByte [(.t 9), (.c (.int .u8 10))], none, false, []⟩,
    ⟨(some 11), .bin .none .sub (.t 8) (.t 10), none, false, []⟩,
    ⟨(some 12), .bin .none .sub (.t 11) (.c (.int .i64 1)), none, false, []⟩,
    ⟨(some 13), .build [(.int .i64 0), (.int .i64 0), (.int .i64 0)] [(0, 1, (.t 4)), (1, 1, (.t 6)), (2, 1, (.t 12))], none, false, []⟩,
    ⟨none, .store 3 (.t 2) (.t 13), none, false, []⟩] none [2])
  .ret))
def pos_Of_r : List RRes := [.cell 2 3 true]
def pos_Of_hi : Hi := ⟨[(2, (.st (.cons (.int .i64) (.cons (.int .i64) (.cons (.int .i64) .nil)))))], [(0, "text"), (1, "text")]⟩
def pos_Of_an : An := .d
def pos_Of_fi : Fi := ⟨14, pos_Of_c, pos_Of_r, pos_Of_an, pos_Of_hi, none⟩
theorem pos_Of_ok : FiOk Try.prog f_pos_Of pos_Of_fi :=
  ⟨fun _ => by kernel_rfl, fun _ h hlen => fun_sound (by kernel_rfl) (fn := Try.f28) (draw_sound _ _) Try.func28 rfl (by kernel_rfl : comp Try.prog 14 _ pos_Of_c = some pos_Of_c) (by kernel_rfl : cRes Try.prog Try.f28.results.toList = some pos_Of_r) hlen h, fun _ h => nomatch h⟩

/-- fustian/poly.Of: slots [0 text, 1 text, 3 h, 4 i] -/
def poly_Of_c : SCode :=
  (.seq (.ops [⟨(some 2), .alloc 0 [(.int .i64 0), (.int .i64 0)], none, false, []⟩] none [0, 2])
  (.seq (.ops [⟨(some 5), .build [(.int .i64 0), (.int .i64 0)] [(1, 1, (.c (.int .i64 1)))], none, false, []⟩,
    ⟨(some 3), .alloc 0 [(.int .i64 0), (.int .i64 0)], none, false, []⟩,
    ⟨none, .store 2 (.t 3) (.t 5), none, false, []⟩] none [0, 2, 3])
  (.seq (.seq (.ops [⟨(some 6), .mov (.t 0), none, false, []⟩,
    ⟨(some 7), .len true (.t 6), none, false, []⟩,
    ⟨(some 8), .mov (.c (.int .i64 0)), none, false, []⟩] none [0, 2, 3, 7, 8])
  (.block 0 (.loop [0, 2, 3, 7] [8] 2
    (.seq (.ops [⟨(some 9), .bin .none .lss (.t 8) (.t 7), none, false, []⟩] none [0, 2, 3, 7, 8, 9])
    (.seq (.cond (.t 9)
      .skip
      (.exit 0))
    (.seq (.block 1 (.seq (.ops [⟨(some 10), .mov (.t 8), none, false, []⟩,
      ⟨(some 4), .mov (.t 10), none, false, []⟩] none [0, 2, 3, 4, 7, 8])
    (.seq (.ops [⟨(some 11), .faddr 0 (.t 3), none, false, []⟩,
      ⟨(some 12), .load 1 false (.t 11), none, false, []⟩,
      ⟨(some 13), .bin .none .mul (.t 12) (.c (.int .i64 257)), none, false, []⟩,
      ⟨(some 14), .mov (.t 0), none, false, []⟩,
      ⟨(some 15), .mov (.t 4), none, false, []⟩,
      ⟨(some 16), .index 1 none false (.t 14) (.t 15), none, false, []⟩,
      ⟨(some 17), .conv .i64 (.t 16), none, false, []⟩,
      ⟨(some 18), .bin .none .add (.t 13) (.t 17), none, false, []⟩,
      ⟨(some 19), .bin .none .add (.t 18) (.c (.int .i64 1)), none, false, []⟩,
      ⟨(some 20), .bin .none .rem (.t 19) (.c (.int .i64 2147483647)), none, false, []⟩,
      ⟨(some 21), .faddr 0 (.t 3), none, false, []⟩,
      ⟨none, .store 1 (.t 21) (.t 20), none, false, []⟩] (some (0, 0, [0, 1, 2, 3, 4, 5, 6, 7, 8, 9, 10, 11])) [0, 2, 3, 7, 8])
    (.ops [⟨(some 22), .faddr 1 (.t 3), none, false, []⟩,
      ⟨(some 23), .load 1 false (.t 22), none, false, []⟩,
      ⟨(some 24), .bin .none .mul (.t 23) (.c (.int .i64 257)), none, false, []⟩,
      ⟨(some 25), .bin .none .rem (.t 24) (.c (.int .i64 2147483647)), none, false, []⟩,
      ⟨(some 26), .faddr 1 (.t 3), none, false, []⟩,
      ⟨none, .store 1 (.t 26) (.t 25), none, false, []⟩] none [0, 2, 3, 7, 8]))))
    (.ops [⟨(some 27), .bin .none .add (.t 8) (.c (.int .i64 1)), none, false, []⟩,
      ⟨(some 8), .mov (.t 27), none, false, []⟩] none [0, 2, 3, 7, 8])))))))
  (.seq (.ops [⟨(some 28), .load 2 true (.t 3), none, false, []⟩,
    ⟨none, .store 2 (.t 2) (.t 28), none, false, []⟩] none [2])
  .ret))))
def poly_Of_r : List RRes := [.cell 2 2 true]
def poly_Of_hi : Hi := ⟨[(2, (.st (.cons (.int .i64) (.cons (.int .i64) .nil)))), (3, (.st (.cons (.int .i64) (.cons (.int .i64) .nil))))], [(0, "text"), (1, "text"), (3, "h"), (4, "i")]⟩
def poly_Of_an : An := (.seq .d (.seq .d (.seq (.seq .d (.loop [3] [] [] .d)) .d)))
def poly_Of_fi : Fi := ⟨29, poly_Of_c, poly_Of_r, poly_Of_an, poly_Of_hi, none⟩
theorem poly_Of_ok : FiOk Try.prog f_poly_Of poly_Of_fi :=
  ⟨fun _ => by kernel_rfl, fun _ h hlen => fun_sound (by kernel_rfl) (fn := Try.f16) (draw_sound _ _) Try.func16 rfl (by kernel_rfl : comp Try.prog 29 _ poly_Of_c = some poly_Of_c) (by kernel_rfl : cRes Try.prog Try.f16.results.toList = some poly_Of_r) hlen h, fun _ h => nomatch h⟩

/-- fustian/pos.May: slots [0 p, 1 p] -/
def pos_May_c : SCode :=
  (.seq (.ops [⟨(some 1), .box 0 (.t 0), none, false, []⟩,
    ⟨(some 2), .mov (.c (.bool false)), none, false, []⟩] none [1])
  (.seq (.seq (.ops [⟨(some 3), .faddr 0 (.t 1), none, false, []⟩,
    ⟨(some 4), .load 1 false (.t 3), none, false, []⟩,
    ⟨(some 5), .bin .none .lss (.t 4) (.c (.int .i64 0)), none, false, []⟩,
    ⟨(some 6), .mov (.t 5), none, true, []⟩,
    ⟨(some 7), .faddr 1 (.t 1), (some (6, false)), false, []⟩,
    ⟨(some 8), .load 1 false (.t 7), (some (6, false)), false, []⟩,
    ⟨(some 9), .bin .none .lss (.t 8) (.c (.int .i64 0)), (some (6, false)), false, []⟩,
    ⟨(some 10), .pick (.t 6) (.c (.bool true)) (.t 9), none, false, []⟩,
    ⟨(some 11), .mov (.t 10), none, true, []⟩,
    ⟨(some 12), .faddr 2 (.t 1), (some (11, false)), false, []⟩,
    ⟨(some 13), .load 1 false (.t 12), (some (11, false)), false, []⟩,
    ⟨(some 14), .bin .none .lss (.t 13) (.c (.int .i64 0)), (some (11, false)), false, []⟩,
    ⟨(some 15), .pick (.t 11) (.c (.bool true)) (.t 14), none, false, []⟩,
    ⟨(some 16), .mov (.t 15), none, true, []⟩,
    ⟨(some 17), .faddr 0 (.t 1), (some (16, false)), false, []⟩,
    ⟨(some 18), .load 1 false (.t 17), (some (16, false)), false, []⟩,
    ⟨(some 19), .faddr 1 (.t 1), (some (16, false)), false, []⟩,
    ⟨(some 20), .load 1 false (.t 19), (some (16, false)), false, []⟩,
    ⟨(some 21), .faddr 2 (.t 1), (some (16, false)), false, []⟩,
    ⟨(some 22), .load 1 false (.t 21), (some (16, false)), false, []⟩,
    ⟨(some 23), .max [(.t 18), (.t 20), (.t 22)], (some (16, false)), false, []⟩,
    ⟨(some 24), .bin .none .gtr (.t 23) (.c (.int .i64 1099511627776)), (some (16, false)), false, []⟩,
    ⟨(some 25), .pick (.t 16) (.c (.bool true)) (.t 24), none, false, []⟩] none [1, 25])
  (.cond (.t 25)
    (.seq (.ops [⟨(some 2), .mov (.c (.bool false)), none, false, []⟩] none [2])
    .ret)
    .skip))
  (.seq (.ops [⟨(some 26), .faddr 1 (.t 1), none, false, []⟩,
    ⟨(some 27), .load 1 false (.t 26), none, false, []⟩,
    ⟨(some 28), .faddr 2 (.t 1), none, false, []⟩,
    ⟨(some 29), .load 1 false (.t 28), none, false, []⟩,
    ⟨(some 30), .bin .none .add (.t 27) (.t 29), none, false, []⟩,
    ⟨(some 31), .faddr 0 (.t 1), none, false, []⟩,
    ⟨(some 32), .load 1 false (.t 31), none, false, []⟩,
    ⟨(some 33), .bin .none .leq (.t 30) (.t 32), none, false, []⟩,
    ⟨(some 34), .mov (.t 33), none, true, []⟩,
    ⟨(some 35), .faddr 1 (.t 1), (some (34, true)), false, []⟩,
    ⟨(some 36), .load 1 false (.t 35), (some (34, true)), false, []⟩,
    ⟨(some 37), .bin .none .gtr (.t 36) (.c (.int .i64 0)), (some (34, true)), false, []⟩,
    ⟨(some 38), .mov (.t 37), (some (34, true)), true, []⟩,
    ⟨(some 39), .faddr 2 (.t 1), (some (38, false)), false, []⟩,
    ⟨(some 40), .load 1 false (.t 39), (some (38, false)), false, []⟩,
    ⟨(some 41), .faddr 0 (.t 1), (some (38, false)), false, []⟩,
    ⟨(some 42), .load 1 false (.t 41), (some (38, false)), false, []⟩,
    ⟨(some 43), .bin .none .eql (.t 40) (.t 42), (some (38, false)), false, []⟩,
    ⟨(some 44), .pick (.t 38) (.c (.bool true)) (.t 43), (some (34, true)), false, []⟩,
    ⟨(some 45), .pick (.t 34) (.t 44) (.c (.bool false)), none, false, []⟩,
    ⟨(some 2), .mov (.t 45), none, false, []⟩] none [2])
  .ret)))
def pos_May_r : List RRes := [.tmp 2]
def pos_May_hi : Hi := ⟨[(1, (.st (.cons (.int .i64) (.cons (.int .i64) (.cons (.int .i64) .nil)))))], [(0, "p"), (1, "p")]⟩
def pos_May_an : An := .d
def pos_May_fi : Fi := ⟨46, pos_May_c, pos_May_r, pos_May_an, pos_May_hi, none⟩
theorem pos_May_ok : FiOk Try.prog f_pos_May pos_May_fi :=
  ⟨fun _ => by kernel_rfl, fun _ h hlen => fun_sound (by kernel_rfl) (fn := Try.f33) (draw_sound _ _) Try.func33 rfl (by kernel_rfl : comp Try.prog 46 _ pos_May_c = some pos_May_c) (by kernel_rfl : cRes Try.prog Try.f33.results.toList = some pos_May_r) hlen h, fun _ h => nomatch h⟩

/-- fustian/pos.Join: slots [0 a, 1 b, 2 a, 3 b, 6 out] -/
def pos_Join_c : SCode :=
  (.seq (.ops [⟨(some 2), .box 0 (.t 0), none, false, []⟩,
    ⟨(some 3), .box 0 (.t 1), none, false, []⟩,
    ⟨(some 4), .alloc 0 [(.int .i64 0), (.int .i64 0), (.int .i64 0)], none, false, []⟩,
    ⟨(some 5), .mov (.c (.int .i64 0)), none, false, []⟩] none [2, 3, 4])
  (.seq (.seq (.ops [⟨(some 7), .load 3 true (.t 2), none, false, []⟩,
    ⟨(some 8), .call f_pos_May [(.t 7)], none, false, []⟩,
    ⟨(some 9), .not (.t 8), none, false, []⟩,
    ⟨(some 10), .mov (.t 9), none, true, []⟩,
    ⟨(some 11), .load 3 true (.t 3), (some (10, false)), false, []⟩,
    ⟨(some 12), .call f_pos_May [(.t 11)], (some (10, false)), false, []⟩,
    ⟨(some 13), .not (.t 12), (some (10, false)), false, []⟩,
    ⟨(some 14), .pick (.t 10) (.c (.bool true)) (.t 13), none, false, []⟩] none [2, 3, 4, 14])
  (.cond (.t 14)
    (.seq (.ops [⟨(some 15), .build [(.int .i64 0), (.int .i64 0), (.int .i64 0)] [], none, false, []⟩,
      ⟨none, .store 3 (.t 4) (.t 15), none, false, []⟩,
      ⟨(some 5), .mov (.c (.int .i64 4)), none, false, []⟩] none [4, 5])
    .ret)
    .skip))
  (.seq (.ops [⟨(some 16), .faddr 0 (.t 2), none, false, []⟩,
    ⟨(some 17), .load 1 false (.t 16), none, false, []⟩,
    ⟨(some 18), .faddr 0 (.t 3), none, false, []⟩,
    ⟨(some 19), .load 1 false (.t 18), none, false, []⟩,
    ⟨(some 20), .bin .none .add (.t 17) (.t 19), none, false, []⟩,
    ⟨(some 21), .faddr 1 (.t 2), none, false, []⟩,
    ⟨(some 22), .load 1 false (.t 21), none, false, []⟩,
    ⟨(some 23), .faddr 1 (.t 3), none, false, []⟩,
    ⟨(some 24), .load 1 false (.t 23), none, false, []⟩,
    ⟨(some 25), .bin .none .add (.t 22) (.t 24), none, false, []⟩,
    ⟨(some 26), .faddr 2 (.t 3), none, false, []⟩,
    ⟨(some 27), .load 1 false (.t 26), none, false, []⟩,
    ⟨(some 28), .build [(.int .i64 0), (.int .i64 0), (.int .i64 0)] [(0, 1, (.t 20)), (1, 1, (.t 25)), (2, 1, (.t 27))], none, false, []⟩,
    ⟨(some 6), .alloc 0 [(.int .i64 0), (.int .i64 0), (.int .i64 0)], none, false, []⟩,
    ⟨none, .store 3 (.t 6) (.t 28), none, false, []⟩] none [2, 3, 4, 6])
  (.join [4, 6] [] 4 (.seq (.ops [⟨(some 29), .faddr 1 (.t 3), none, false, []⟩,
      ⟨(some 30), .load 1 false (.t 29), none, false, []⟩,
      ⟨(some 31), .bin .none .eql (.t 30) (.c (.int .i64 0)), none, false, []⟩] none [2, 4, 6, 31])
    (.cond (.t 31)
      (.ops [⟨(some 32), .faddr 2 (.t 6), none, false, []⟩,
        ⟨(some 33), .load 1 false (.t 32), none, false, []⟩,
        ⟨(some 34), .faddr 2 (.t 2), none, false, []⟩,
        ⟨(some 35), .load 1 false (.t 34), none, false, []⟩,
        ⟨(some 36), .bin .none .add (.t 33) (.t 35), none, false, []⟩,
        ⟨(some 37), .faddr 2 (.t 6), none, false, []⟩,
        ⟨none, .store 1 (.t 37) (.t 36), none, false, []⟩] none [4, 6])
      .skip))
  (.seq (.seq (.ops [⟨(some 38), .load 3 true (.t 6), none, false, []⟩,
    ⟨(some 39), .call f_pos_May [(.t 38)], none, false, []⟩,
    ⟨(some 40), .not (.t 39), none, false, []⟩] none [4, 6, 40])
  (.cond (.t 40)
    (.seq (.ops [⟨(some 41), .build [(.int .i64 0), (.int .i64 0), (.int .i64 0)] [], none, false, []⟩,
      ⟨none, .store 3 (.t 4) (.t 41), none, false, []⟩,
      ⟨(some 5), .mov (.c (.int .i64 4)), none, false, []⟩] none [4, 5])
    .ret)
    .skip))
  (.seq (.ops [⟨(some 42), .load 3 true (.t 6), none, false, []⟩,
    ⟨none, .store 3 (.t 4) (.t 42), none, false, []⟩,
    ⟨(some 5), .mov (.c (.int .i64 0)), none, false, []⟩] none [4, 5])
  .ret))))))
def pos_Join_r : List RRes := [.cell 4 3 true, .tmp 5]
def pos_Join_hi : Hi := ⟨[(2, (.st (.cons (.int .i64) (.cons (.int .i64) (.cons (.int .i64) .nil))))), (3, (.st (.cons (.int .i64) (.cons (.int .i64) (.cons (.int .i64) .nil))))), (4, (.st (.cons (.int .i64) (.cons (.int .i64) (.cons (.int .i64) .nil))))), (6, (.st (.cons (.int .i64) (.cons (.int .i64) (.cons (.int .i64) .nil)))))], [(0, "a"), (1, "b"), (2, "a"), (3, "b"), (6, "out")]⟩
def pos_Join_an : An := .d
def pos_Join_fi : Fi := ⟨43, pos_Join_c, pos_Join_r, pos_Join_an, pos_Join_hi, none⟩
theorem pos_Join_ok : FiOk Try.prog f_pos_Join pos_Join_fi :=
  ⟨fun _ => by kernel_rfl, fun _ h hlen => fun_sound (by kernel_rfl) (fn := Try.f29) (draw_sound _ _) Try.func29 rfl (by kernel_rfl : comp Try.prog 43 _ pos_Join_c = some pos_Join_c) (by kernel_rfl : cRes Try.prog Try.f29.results.toList = some pos_Join_r) hlen h, fun _ h => nomatch h⟩

/-- fustian/poly.May: slots [0 h, 1 h] -/
def poly_May_c : SCode :=
  (.seq (.ops [⟨(some 1), .box 0 (.t 0), none, false, []⟩,
    ⟨(some 2), .mov (.c (.bool false)), none, false, []⟩] none [1])
  (.seq (.ops [⟨(some 3), .faddr 0 (.t 1), none, false, []⟩,
    ⟨(some 4), .load 1 false (.t 3), none, false, []⟩,
    ⟨(some 5), .bin .none .geq (.t 4) (.c (.int .i64 0)), none, false, []⟩,
    ⟨(some 6), .mov (.t 5), none, true, []⟩,
    ⟨(some 7), .faddr 0 (.t 1), (some (6, true)), false, []⟩,
    ⟨(some 8), .load 1 false (.t 7), (some (6, true)), false, []⟩,
    ⟨(some 9), .bin .none .lss (.t 8) (.c (.int .i64 2147483647)), (some (6, true)), false, []⟩,
    ⟨(some 10), .pick (.t 6) (.t 9) (.c (.bool false)), none, false, []⟩,
    ⟨(some 11), .mov (.t 10), none, true, []⟩,
    ⟨(some 12), .faddr 1 (.t 1), (some (11, true)), false, []⟩,
    ⟨(some 13), .load 1 false (.t 12), (some (11, true)), false, []⟩,
    ⟨(some 14), .bin .none .gtr (.t 13) (.c (.int .i64 0)), (some (11, true)), false, []⟩,
    ⟨(some 15), .pick (.t 11) (.t 14) (.c (.bool false)), none, false, []⟩,
    ⟨(some 16), .mov (.t 15), none, true, []⟩,
    ⟨(some 17), .faddr 1 (.t 1), (some (16, true)), false, []⟩,
    ⟨(some 18), .load 1 false (.t 17), (some (16, true)), false, []⟩,
    ⟨(some 19), .bin .none .lss (.t 18) (.c (.int .i64 2147483647)), (some (16, true)), false, []⟩,
    ⟨(some 20), .pick (.t 16) (.t 19) (.c (.bool false)), none, false, []⟩,
    ⟨(some 2), .mov (.t 20), none, false, []⟩] none [2])
  .ret))
def poly_May_r : List RRes := [.tmp 2]
def poly_May_hi : Hi := ⟨[(1, (.st (.cons (.int .i64) (.cons (.int .i64) .nil))))], [(0, "h"), (1, "h")]⟩
def poly_May_an : An := .d
def poly_May_fi : Fi := ⟨21, poly_May_c, poly_May_r, poly_May_an, poly_May_hi, none⟩
theorem poly_May_ok : FiOk Try.prog f_poly_May poly_May_fi :=
  ⟨fun _ => by kernel_rfl, fun _ h hlen => fun_sound (by kernel_rfl) (fn := Try.f34) (draw_sound _ _) Try.func34 rfl (by kernel_rfl : comp Try.prog 21 _ poly_May_c = some poly_May_c) (by kernel_rfl : cRes Try.prog Try.f34.results.toList = some poly_May_r) hlen h, fun _ h => nomatch h⟩

/-- fustian/poly.Join: slots [0 a, 1 b, 2 a, 3 b] -/
def poly_Join_c : SCode :=
  (.seq (.ops [⟨(some 2), .box 0 (.t 0), none, false, []⟩,
    ⟨(some 3), .box 0 (.t 1), none, false, []⟩,
    ⟨(some 4), .alloc 0 [(.int .i64 0), (.int .i64 0)], none, false, []⟩,
    ⟨(some 5), .mov (.c (.int .i64 0)), none, false, []⟩] none [2, 3, 4])
  (.seq (.seq (.ops [⟨(some 6), .load 2 true (.t 2), none, false, []⟩,
    ⟨(some 7), .call f_poly_May [(.t 6)], none, false, []⟩,
    ⟨(some 8), .not (.t 7), none, false, []⟩,
    ⟨(some 9), .mov (.t 8), none, true, []⟩,
    ⟨(some 10), .load 2 true (.t 3), (some (9, false)), false, []⟩,
    ⟨(some 11), .call f_poly_May [(.t 10)], (some (9, false)), false, []⟩,
    ⟨(some 12), .not (.t 11), (some (9, false)), false, []⟩,
    ⟨(some 13), .pick (.t 9) (.c (.bool true)) (.t 12), none, false, []⟩] none [2, 3, 4, 13])
  (.cond (.t 13)
    (.seq (.ops [⟨(some 14), .build [(.int .i64 0), (.int .i64 0)] [], none, false, []⟩,
      ⟨none, .store 2 (.t 4) (.t 14), none, false, []⟩,
      ⟨(some 5), .mov (.c (.int .i64 4)), none, false, []⟩] none [4, 5])
    .ret)
    .skip))
  (.seq (.ops [⟨(some 15), .faddr 0 (.t 2), none, false, []⟩,
    ⟨(some 16), .load 1 false (.t 15), none, false, []⟩,
    ⟨(some 17), .faddr 1 (.t 3), none, false, []⟩,
    ⟨(some 18), .load 1 false (.t 17), none, false, []⟩,
    ⟨(some 19), .bin .none .mul (.t 16) (.t 18), none, false, []⟩,
    ⟨(some 20), .faddr 0 (.t 3), none, false, []⟩,
    ⟨(some 21), .load 1 false (.t 20), none, false, []⟩,
    ⟨(some 22), .bin .none .add (.t 19) (.t 21), none, false, []⟩,
    ⟨(some 23), .bin .none .rem (.t 22) (.c (.int .i64 2147483647)), none, false, []⟩,
    ⟨(some 24), .faddr 1 (.t 2), none, false, []⟩,
    ⟨(some 25), .load 1 false (.t 24), none, false, []⟩,
    ⟨(some 26), .faddr 1 (.t 3), none, false, []⟩,
    ⟨(some 27), .load 1 false (.t 26), none, false, []⟩,
    ⟨(some 28), .bin .none .mul (.t 25) (.t 27), none, false, []⟩,
    ⟨(some 29), .bin .none .rem (.t 28) (.c (.int .i64 2147483647)), none, false, []⟩,
    ⟨(some 30), .build [(.int .i64 0), (.int .i64 0)] [(0, 1, (.t 23)), (1, 1, (.t 29))], none, false, []⟩,
    ⟨none, .store 2 (.t 4) (.t 30), none, false, []⟩,
    ⟨(some 5), .mov (.c (.int .i64 0)), none, false, []⟩] none [4, 5])
  .ret)))
def poly_Join_r : List RRes := [.cell 4 2 true, .tmp 5]
def poly_Join_hi : Hi := ⟨[(2, (.st (.cons (.int .i64) (.cons (.int .i64) .nil)))), (3, (.st (.cons (.int .i64) (.cons (.int .i64) .nil)))), (4, (.st (.cons (.int .i64) (.cons (.int .i64) .nil))))], [(0, "a"), (1, "b"), (2, "a"), (3, "b")]⟩
def poly_Join_an : An := .d
def poly_Join_fi : Fi := ⟨31, poly_Join_c, poly_Join_r, poly_Join_an, poly_Join_hi, none⟩
theorem poly_Join_ok : FiOk Try.prog f_poly_Join poly_Join_fi :=
  ⟨fun _ => by kernel_rfl, fun _ h hlen => fun_sound (by kernel_rfl) (fn := Try.f30) (draw_sound _ _) Try.func30 rfl (by kernel_rfl : comp Try.prog 31 _ poly_Join_c = some poly_Join_c) (by kernel_rfl : cRes Try.prog Try.f30.results.toList = some poly_Join_r) hlen h, fun _ h => nomatch h⟩

/-- fustian/rope.Depths: slots [0 l, 1 l, 4 all, 5 _, 6 e, 7 out, 8 _, 9 r] -/
def rope_Depths_c : SCode :=
  (.seq (.ops [⟨(some 2), .mov (.c .nils), none, false, []⟩,
    ⟨(some 3), .mov (.c (.int .i64 0)), none, false, []⟩] none [0])
  (.seq (.ops [⟨(some 11), .mov (.t 0), none, false, []⟩,
    ⟨(some 12), .call f_rope_play [(.t 11)], none, false, []⟩,
    ⟨(some 10), .mov (.t 12), none, false, []⟩,
    ⟨(some 13), .extract (.t 10) 0, none, false, []⟩,
    ⟨(some 14), .extract (.t 10) 1, none, false, []⟩,
    ⟨(some 15), .extract (.t 10) 2, none, false, []⟩,
    ⟨(some 4), .mov (.t 13), none, false, []⟩,
    ⟨(some 5), .mov (.t 14), none, false, []⟩,
    ⟨(some 6), .mov (.t 15), none, false, []⟩] none [4, 6])
  (.seq (.ops [⟨(some 7), .newnil 1, none, false, []⟩] none [4, 6, 7])
  (.seq (.seq (.ops [⟨(some 16), .mov (.t 4), none, false, []⟩,
    ⟨(some 17), .len false (.t 16), none, false, []⟩,
    ⟨(some 18), .mov (.c (.int .i64 0)), none, false, []⟩] none [6, 7, 16, 17, 18])
  (.block 0 (.loop [6, 16, 17] [7, 18] 1
    (.seq (.ops [⟨(some 19), .bin .none .lss (.t 18) (.t 17), none, false, []⟩] none [6, 7, 16, 17, 18, 19])
    (.seq (.cond (.t 19)
      .skip
      (.exit 0))
    (.seq (.block 1 (.seq (.ops [⟨(some 20), .iaddr 1 none (.t 16) (.t 18), none, false, []⟩,
      ⟨(some 21), .load 1 false (.t 20), none, false, []⟩,
      ⟨(some 9), .mov (.t 21), none, false, []⟩] none [6, 7, 9, 16, 17, 18])
    (.ops [⟨(some 22), .mov (.t 7), none, false, []⟩,
      ⟨(some 23), .mov (.t 9), none, false, []⟩,
      ⟨(some 24), .call f___rope_Rope__Deep [(.t 23)], none, false, []⟩,
      ⟨(some 25), .bslice true 1 1 [(.int .i64 0)] [(0, 1, (.t 24))], none, false, []⟩,
      ⟨(some 26), .append 1 8 (.t 22) (.t 25), none, false, []⟩,
      ⟨(some 7), .mov (.t 26), none, false, []⟩] none [6, 7, 16, 17, 18])))
    (.ops [⟨(some 27), .bin .none .add (.t 18) (.c (.int .i64 1)), none, false, []⟩,
      ⟨(some 18), .mov (.t 27), none, false, []⟩] none [6, 7, 16, 17, 18])))))))
  (.seq (.ops [⟨(some 28), .mov (.t 7), none, false, []⟩,
    ⟨(some 29), .mov (.t 6), none, false, []⟩,
    ⟨(some 2), .mov (.t 28), none, false, []⟩,
    ⟨(some 3), .mov (.t 29), none, false, []⟩] none [2, 3])
  .ret)))))
def rope_Depths_r : List RRes := [.tmp 2, .tmp 3]
def rope_Depths_hi : Hi := ⟨[(7, (.int .i64)), (25, (.int .i64)), (26, (.int .i64))], [(0, "l"), (1, "l"), (4, "all"), (6, "e"), (7, "out"), (9, "r")]⟩
def rope_Depths_an : An := (.seq .d (.seq .d (.seq .d (.seq (.seq .d (.loop [16, 7] [] [] .d)) .d))))
def rope_Depths_fi : Fi := ⟨30, rope_Depths_c, rope_Depths_r, rope_Depths_an, rope_Depths_hi, none⟩
theorem rope_Depths_ok : FiOk Try.prog f_rope_Depths rope_Depths_fi :=
  ⟨fun _ => by kernel_rfl, fun _ h hlen => fun_sound (by kernel_rfl) (fn := Try.f5) (draw_sound _ _) Try.func5 rfl (by kernel_rfl : comp Try.prog 30 _ rope_Depths_c = some rope_Depths_c) (by kernel_rfl : cRes Try.prog Try.f5.results.toList = some rope_Depths_r) hlen h, fun _ h => nomatch h⟩

/-- fustian/fustianref.RopePlayed: slots [0 l, 1 l, 5 texts, 6 codes, 7 has, 8 _, 9 o, 10 e, 11 out, 12 i] -/
def ref_RopePlayed_c : SCode :=
  (.seq (.ops [⟨(some 2), .mov (.c .nils), none, false, []⟩,
    ⟨(some 3), .mov (.c .nils), none, false, []⟩,
    ⟨(some 4), .mov (.c (.int .i64 0)), none, false, []⟩] none [0])
  (.seq (.seq (.ops [⟨(some 13), .mov (.t 0), none, false, []⟩,
    ⟨(some 14), .len false (.t 13), none, false, []⟩,
    ⟨(some 15), .bin .none .gtr (.t 14) (.c (.int .i64 80)), none, false, []⟩] none [0, 15])
  (.cond (.t 15)
    (.seq (.ops [⟨(some 2), .mov (.c .nils), none, false, []⟩,
      ⟨(some 3), .mov (.c .nils), none, false, []⟩,
      ⟨(some 4), .mov (.c (.int .i64 1)), none, false, []⟩] none [2, 3, 4])
    .ret)
    .skip))
  (.seq (.ops [⟨(some 5), .alloc 0 [.nils], none, false, []⟩] none [0, 5])
  (.seq (.ops [⟨(some 6), .newnil 1, none, false, []⟩] none [0, 5, 6])
  (.seq (.ops [⟨(some 16), .mkfunc (.func f_ref_RopePlayed_1) [] [(.t 5)], none, false, []⟩,
    ⟨(some 7), .mov (.t 16), none, false, []⟩] none [0, 5, 6, 7])
  (.seq (.seq (.ops [⟨(some 17), .mov (.t 0), none, false, []⟩,
    ⟨(some 18), .len false (.t 17), none, false, []⟩,
    ⟨(some 19), .mov (.c (.int .i64 0)), none, false, []⟩] none [5, 6, 7, 17, 18, 19])
  (.block 0 (.loop [5, 7, 17, 18] [6, 19] 2
    (.seq (.ops [⟨(some 20), .bin .none .lss (.t 19) (.t 18), none, false, []⟩] none [5, 6, 7, 17, 18, 19, 20])
    (.seq (.cond (.t 20)
      .skip
      (.exit 0))
    (.join [5, 7, 17, 18, 19] [6] 3 (.block 1 (.seq (.ops [⟨(some 21), .iaddr 6 none (.t 17) (.t 19), none, false, []⟩,
        ⟨(some 22), .load 6 true (.t 21), none, false, []⟩,
        ⟨(some 9), .alloc 0 [(.int .i64 0), (.str []), (.int .i64 0), (.int .i64 0), (.int .i64 0), (.int .i64 0)], none, false, []⟩,
        ⟨none, .store 6 (.t 9) (.t 22), none, false, []⟩] none [5, 6, 7, 9, 17, 18, 19])
      (.seq (.ops [⟨(some 10), .mov (.c (.int .i64 0)), none, false, []⟩] none [5, 6, 7, 9, 10, 17, 18, 19])
      (.seq (.ops [⟨(some 11), .mov (.c (.str [])), none, false, []⟩] none [5, 6, 7, 9, 10, 11, 17, 18, 19])
      (.join [5, 6, 7, 17, 18, 19] [10, 11] 3 (.block 2 (.seq (.ops [⟨(some 37), .faddr 0 (.t 9), none, false, []⟩,
          ⟨(some 38), .load 1 false (.t 37), none, false, []⟩,
          ⟨(some 39), .bin .none .lss (.t 38) (.c (.int .i64 1)), none, false, []⟩,
          ⟨(some 40), .mov (.t 39), none, true, []⟩,
          ⟨(some 41), .faddr 0 (.t 9), (some (40, false)), false, []⟩,
          ⟨(some 42), .load 1 false (.t 41), (some (40, false)), false, []⟩,
          ⟨(some 43), .bin .none .gtr (.t 42) (.c (.int .i64 5)), (some (40, false)), false, []⟩,
          ⟨(some 44), .pick (.t 40) (.c (.bool true)) (.t 43), none, false, []⟩,
          ⟨(some 36), .mov (.t 44), none, false, []⟩] none [5, 6, 7, 9, 10, 11, 17, 18, 19, 36])
        (.cond (.t 36)
          (.ops [⟨(some 10), .mov (.c (.int .i64 3)), none, false, []⟩] none [5, 6, 7, 10, 11, 17, 18, 19])
          (.seq (.ops [⟨(some 46), .faddr 0 (.t 9), none, false, []⟩,
            ⟨(some 47), .load 1 false (.t 46), none, false, []⟩,
            ⟨(some 48), .bin .none .gtr (.t 47) (.c (.int .i64 1)), none, false, []⟩,
            ⟨(some 49), .mov (.t 48), none, true, []⟩,
            ⟨(some 50), .mov (.t 7), (some (49, true)), false, []⟩,
            ⟨(some 51), .faddr 2 (.t 9), (some (49, true)), false, []⟩,
            ⟨(some 52), .load 1 false (.t 51), (some (49, true)), false, []⟩,
            ⟨(some 53), .callv (.t 50) [(.t 52)], (some (49, true)), false, []⟩,
            ⟨(some 54), .not (.t 53), (some (49, true)), false, []⟩,
            ⟨(some 55), .pick (.t 49) (.t 54) (.c (.bool false)), none, false, []⟩,
            ⟨(some 45), .mov (.t 55), none, false, []⟩] none [5, 6, 7, 9, 10, 11, 17, 18, 19, 45])
          (.cond (.t 45)
            (.ops [⟨(some 10), .mov (.c (.int .i64 7)), none, false, []⟩] none [5, 6, 7, 10, 11, 17, 18, 19])
            (.seq (.ops [⟨(some 57), .faddr 0 (.t 9), none, false, []⟩,
              ⟨(some 58), .load 1 false (.t 57), none, false, []⟩,
              ⟨(some 59), .bin .none .eql (.t 58) (.c (.int .i64 2)), none, false, []⟩,
              ⟨(some 60), .mov (.t 59), none, true, []⟩,
              ⟨(some 61), .mov (.t 7), (some (60, true)), false, []⟩,
              ⟨(some 62), .faddr 3 (.t 9), (some (60, true)), false, []⟩,
              ⟨(some 63), .load 1 false (.t 62), (some (60, true)), false, []⟩,
              ⟨(some 64), .callv (.t 61) [(.t 63)], (some (60, true)), false, []⟩,
              ⟨(some 65), .not (.t 64), (some (60, true)), false, []⟩,
              ⟨(some 66), .pick (.t 60) (.t 65) (.c (.bool false)), none, false, []⟩,
              ⟨(some 56), .mov (.t 66), none, false, []⟩] none [5, 6, 7, 9, 10, 11, 17, 18, 19, 56])
            (.cond (.t 56)
              (.ops [⟨(some 10), .mov (.c (.int .i64 7)), none, false, []⟩] none [5, 6, 7, 10, 11, 17, 18, 19])
              (.seq (.ops [⟨(some 68), .faddr 0 (.t 9), none, false, []⟩,
                ⟨(some 69), .load 1 false (.t 68), none, false, []⟩,
                ⟨(some 70), .bin .none .eql (.t 69) (.c (.int .i64 3)), none, false, []⟩,
                ⟨(some 71), .mov (.t 70), none, true, []⟩,
                ⟨(some 72), .faddr 0 (.t 9), (some (71, false)), false, []⟩,
                ⟨(some 73), .load 1 false (.t 72), (some (71, false)), false, []⟩,
                ⟨(some 74), .bin .none .eql (.t 73) (.c (.int .i64 4)), (some (71, false)), false, []⟩,
                ⟨(some 75), .pick (.t 71) (.c (.bool true)) (.t 74), none, false, []⟩,
                ⟨(some 76), .mov (.t 75), none, true, []⟩,
                ⟨(some 77), .faddr 4 (.t 9), (some (76, true)), false, []⟩,
                ⟨(some 78), .load 1 false (.t 77), (some (76, true)), false, []⟩,
                ⟨(some 79), .bin .none .lss (.t 78) (.c (.int .i64 0)), (some (76, true)), false, []⟩,
                ⟨(some 80), .mov (.t 79), (some (76, true)), true, []⟩,
                ⟨(some 81), .faddr 4 (.t 9), (some (80, false)), false, []⟩,
                ⟨(some 82), .load 1 false (.t 81), (some (80, false)), false, []⟩,
                ⟨(some 83), .load 1 false (.t 5), (some (80, false)), false, []⟩,
                ⟨(some 84), .faddr 2 (.t 9), (some (80, false)), false, []⟩,
                ⟨(some 85), .load 1 false (.t 84), (some (80, false)), false, []⟩,
                ⟨(some 86), .iaddr 1 none (.t 83) (.t 85), (some (80, false)), false, []⟩,
                ⟨(some 87), .load 1 false (.t 86), (some (80, false)), false, []⟩,
                ⟨(some 88), .len true (.t 87), (some (80, false)), false, []⟩,
                ⟨(some 89), .bin .none .gtr (.t 82) (.t 88), (some (80, false)), false, []⟩,
                ⟨(some 90), .pick (.t 80) (.c (.bool true)) (.t 89), (some (76, true)), false, []⟩,
                ⟨(some 91), .pick (.t 76) (.t 90) (.c (.bool false)), none, false, []⟩,
                ⟨(some 67), .mov (.t 91), none, false, []⟩] (some (0, 0, [0, 1, 2, 3, 4, 5, 6, 7, 8, 9, 10, 11, 12, 13, 14, 15, 16, 17, 18, 19, 20, 21, 22, 23, 24])) [5, 6, 7, 9, 10, 11, 17, 18, 19, 67])
              (.cond (.t 67)
                (.ops [⟨(some 10), .mov (.c (.int .i64 2)), none, false, []⟩] none [5, 6, 7, 10, 11, 17, 18, 19])
                (.seq (.ops [⟨(some 93), .faddr 0 (.t 9), none, false, []⟩,
                  ⟨(some 94), .load 1 false (.t 93), none, false, []⟩,
                  ⟨(some 95), .bin .none .eql (.t 94) (.c (.int .i64 5)), none, false, []⟩,
                  ⟨(some 96), .mov (.t 95), none, true, []⟩,
                  ⟨(some 97), .faddr 5 (.t 9), (some (96, true)), false, []⟩,
                  ⟨(some 98), .load 1 false (.t 97), (some (96, true)), false, []⟩,
                  ⟨(some 99), .bin .none .lss (.t 98) (.c (.int .i64 0)), (some (96, true)), false, []⟩,
                  ⟨(some 100), .mov (.t 99), (some (96, true)), true, []⟩,
                  ⟨(some 101), .faddr 5 (.t 9), (some (100, false)), false, []⟩,
                  ⟨(some 102), .load 1 false (.t 101), (some (100, false)), false, []⟩,
                  ⟨(some 103), .bin .none .gtr (.t 102) (.c (.int .i64 4)), (some (100, false)), false, []⟩,
                  ⟨(some 104), .pick (.t 100) (.c (.bool true)) (.t 103), (some (96, true)), false, []⟩,
                  ⟨(some 105), .pick (.t 96) (.t 104) (.c (.bool false)), none, false, []⟩,
                  ⟨(some 92), .mov (.t 105), none, false, []⟩] none [5, 6, 7, 9, 10, 11, 17, 18, 19, 92])
                (.cond (.t 92)
                  (.ops [⟨(some 10), .mov (.c (.int .i64 2)), none, false, []⟩] none [5, 6, 7, 10, 11, 17, 18, 19])
                  (.seq (.ops [⟨(some 107), .load 1 false (.t 5), none, false, []⟩,
                    ⟨(some 108), .len false (.t 107), none, false, []⟩,
                    ⟨(some 109), .bin .none .geq (.t 108) (.c (.int .i64 60)), none, false, []⟩,
                    ⟨(some 106), .mov (.t 109), none, false, []⟩] none [5, 6, 7, 9, 10, 11, 17, 18, 19, 106])
                  (.cond (.t 106)
                    (.ops [⟨(some 10), .mov (.c (.int .i64 8)), none, false, []⟩] none [5, 6, 7, 10, 11, 17, 18, 19])
                    (.seq (.ops [⟨(some 111), .faddr 0 (.t 9), none, false, []⟩,
                      ⟨(some 112), .load 1 false (.t 111), none, false, []⟩,
                      ⟨(some 113), .bin .none .eql (.t 112) (.c (.int .i64 1)), none, false, []⟩,
                      ⟨(some 110), .mov (.t 113), none, false, []⟩] none [5, 6, 7, 9, 10, 11, 17, 18, 19, 110])
                    (.cond (.t 110)
                      (.ops [⟨(some 114), .faddr 1 (.t 9), none, false, []⟩,
                        ⟨(some 115), .load 1 false (.t 114), none, false, []⟩,
                        ⟨(some 11), .mov (.t 115), none, false, []⟩] none [5, 6, 7, 10, 11, 17, 18, 19])
                      (.seq (.ops [⟨(some 117), .faddr 0 (.t 9), none, false, []⟩,
                        ⟨(some 118), .load 1 false (.t 117), none, false, []⟩,
                        ⟨(some 119), .bin .none .eql (.t 118) (.c (.int .i64 2)), none, false, []⟩,
                        ⟨(some 116), .mov (.t 119), none, false, []⟩] none [5, 6, 7, 9, 10, 11, 17, 18, 19, 116])
                      (.cond (.t 116)
                        (.ops [⟨(some 120), .load 1 false (.t 5), none, false, []⟩,
                          ⟨(some 121), .faddr 2 (.t 9), none, false, []⟩,
                          ⟨(some 122), .load 1 false (.t 121), none, false, []⟩,
                          ⟨(some 123), .iaddr 1 none (.t 120) (.t 122), none, false, []⟩,
                          ⟨(some 124), .load 1 false (.t 123), none, false, []⟩,
                          ⟨(some 125), .load 1 false (.t 5), none, false, []⟩,
                          ⟨(some 126), .faddr 3 (.t 9), none, false, []⟩,
                          ⟨(some 127), .load 1 false (.t 126), none, false, []⟩,
                          ⟨(some 128), .iaddr 1 none (.t 125) (.t 127), none, false, []⟩,
                          ⟨(some 129), .load 1 false (.t 128), none, false, []⟩,
                          ⟨(some 130), .bin .none .add (.t 124) (.t 129), none, false, []⟩,
                          ⟨(some 11), .mov (.t 130), none, false, []⟩] (some (0, 0, [0, 1, 2, 3, 4, 5, 6, 7, 8, 9, 10, 11])) [5, 6, 7, 10, 11, 17, 18, 19])
                        (.seq (.ops [⟨(some 132), .faddr 0 (.t 9), none, false, []⟩,
                          ⟨(some 133), .load 1 false (.t 132), none, false, []⟩,
                          ⟨(some 134), .bin .none .eql (.t 133) (.c (.int .i64 3)), none, false, []⟩,
                          ⟨(some 131), .mov (.t 134), none, false, []⟩] none [5, 6, 7, 9, 10, 11, 17, 18, 19, 131])
                        (.cond (.t 131)
                          (.ops [⟨(some 135), .load 1 false (.t 5), none, false, []⟩,
                            ⟨(some 136), .faddr 2 (.t 9), none, false, []⟩,
                            ⟨(some 137), .load 1 false (.t 136), none, false, []⟩,
                            ⟨(some 138), .iaddr 1 none (.t 135) (.t 137), none, false, []⟩,
                            ⟨(some 139), .load 1 false (.t 138), none, false, []⟩,
                            ⟨(some 140), .faddr 4 (.t 9), none, false, []⟩,
                            ⟨(some 141), .load 1 false (.t 140), none, false, []⟩,
                            ⟨(some 142), .slice 0 (.t 139) none (some (.t 141)), none, false, []⟩,
                            ⟨(some 11), .mov (.t 142), none, false, []⟩] (some (0, 0, [0, 1, 2, 3, 4, 5, 6, 7, 8])) [5, 6, 7, 10, 11, 17, 18, 19])
                          (.seq (.ops [⟨(some 144), .faddr 0 (.t 9), none, false, []⟩,
                            ⟨(some 145), .load 1 false (.t 144), none, false, []⟩,
                            ⟨(some 146), .bin .none .eql (.t 145) (.c (.int .i64 4)), none, false, []⟩,
                            ⟨(some 143), .mov (.t 146), none, false, []⟩] none [5, 6, 7, 9, 10, 11, 17, 18, 19, 143])
                          (.cond (.t 143)
                            (.ops [⟨(some 147), .load 1 false (.t 5), none, false, []⟩,
                              ⟨(some 148), .faddr 2 (.t 9), none, false, []⟩,
                              ⟨(some 149), .load 1 false (.t 148), none, false, []⟩,
                              ⟨(some 150), .iaddr 1 none (.t 147) (.t 149), none, false, []⟩,
                              ⟨(some 151), .load 1 false (.t 150), none, false, []⟩,
                              ⟨(some 152), .faddr 4 (.t 9), none, false, []⟩,
                              ⟨(some 153), .load 1 false (.t 152), none, false, []⟩,
                              ⟨(some 154), .slice 0 (.t 151) (some (.t 153)) none, none, false, []⟩,
                              ⟨(some 11), .mov (.t 154), none, false, []⟩] (some (0, 0, [0, 1, 2, 3, 4, 5, 6, 7, 8])) [5, 6, 7, 10, 11, 17, 18, 19])
                            (.seq (.ops [⟨(some 12), .mov (.c (.int .i64 0)), none, false, []⟩] none [5, 6, 7, 9, 10, 11, 12, 17, 18, 19])
                            (.block 3 (.loop [5, 6, 7, 9, 10, 17, 18, 19] [11, 12] 3
                              (.seq (.seq (.ops [⟨(some 23), .mov (.t 12), none, false, []⟩,
                                ⟨(some 24), .faddr 5 (.t 9), none, false, []⟩,
                                ⟨(some 25), .load 1 false (.t 24), none, false, []⟩,
                                ⟨(some 26), .bin .none .lss (.t 23) (.t 25), none, false, []⟩] none [5, 6, 7, 9, 10, 11, 12, 17, 18, 19, 26])
                              (.cond (.t 26)
                                .skip
                                (.exit 3)))
                              (.seq (.block 4 (.ops [⟨(some 29), .mov (.t 11), none, false, []⟩,
                                ⟨(some 30), .load 1 false (.t 5), none, false, []⟩,
                                ⟨(some 31), .faddr 2 (.t 9), none, false, []⟩,
                                ⟨(some 32), .load 1 false (.t 31), none, false, []⟩,
                                ⟨(some 33), .iaddr 1 none (.t 30) (.t 32), none, false, []⟩,
                                ⟨(some 34), .load 1 false (.t 33), none, false, []⟩,
                                ⟨(some 35), .bin .none .add (.t 29) (.t 34), none, false, []⟩,
                                ⟨(some 11), .mov (.t 35), none, false, []⟩] none [5, 6, 7, 9, 10, 11, 12, 17, 18, 19]))
                              (.ops [⟨(some 27), .mov (.t 12), none, false, []⟩,
                                ⟨(some 28), .bin .none .add (.t 27) (.c (.int .i64 1)), none, false, []⟩,
                                ⟨(some 12), .mov (.t 28), none, false, []⟩] none [5, 6, 7, 9, 10, 11, 12, 17, 18, 19])))))))))))))))))))))))))))
      (.join [5, 6, 7, 11, 17, 18, 19] [10] 3 (.seq (.ops [⟨(some 155), .mov (.t 10), none, false, []⟩,
          ⟨(some 156), .bin .none .eql (.t 155) (.c (.int .i64 0)), none, false, []⟩,
          ⟨(some 157), .mov (.t 156), none, true, []⟩,
          ⟨(some 158), .mov (.t 11), (some (157, true)), false, []⟩,
          ⟨(some 159), .len true (.t 158), (some (157, true)), false, []⟩,
          ⟨(some 160), .bin .none .gtr (.t 159) (.c (.int .i64 600)), (some (157, true)), false, []⟩,
          ⟨(some 161), .pick (.t 157) (.t 160) (.c (.bool false)), none, false, []⟩] none [5, 6, 7, 10, 11, 17, 18, 19, 161])
        (.cond (.t 161)
          (.ops [⟨(some 10), .mov (.c (.int .i64 1)), none, false, []⟩] none [5, 6, 7, 10, 11, 17, 18, 19])
          .skip))
      (.seq (.ops [⟨(some 162), .mov (.t 6), none, false, []⟩,
        ⟨(some 163), .mov (.t 10), none, false, []⟩,
        ⟨(some 164), .bslice true 1 1 [(.int .i64 0)] [(0, 1, (.t 163))], none, false, []⟩,
        ⟨(some 165), .append 1 8 (.t 162) (.t 164), none, false, []⟩,
        ⟨(some 6), .mov (.t 165), none, false, []⟩] none [5, 6, 7, 10, 11, 17, 18, 19])
      (.seq (.ops [⟨(some 166), .mov (.t 10), none, false, []⟩,
        ⟨(some 167), .bin .none .eql (.t 166) (.c (.int .i64 0)), none, false, []⟩] none [5, 6, 7, 11, 17, 18, 19, 167])
      (.cond (.t 167)
        (.ops [⟨(some 168), .load 1 false (.t 5), none, false, []⟩,
          ⟨(some 169), .mov (.t 11), none, false, []⟩,
          ⟨(some 170), .bslice true 1 1 [(.str [])] [(0, 1, (.t 169))], none, false, []⟩,
          ⟨(some 171), .append 1 16 (.t 168) (.t 170), none, false, []⟩,
          ⟨none, .store 1 (.t 5) (.t 171), none, false, []⟩] none [5, 6, 7, 17, 18, 19])
        .skip)))))))))
    (.ops [⟨(some 172), .bin .none .add (.t 19) (.c (.int .i64 1)), none, false, []⟩,
      ⟨(some 19), .mov (.t 172), none, false, []⟩] none [5, 6, 7, 17, 18, 19])))))))
  (.seq (.ops [⟨(some 173), .load 1 false (.t 5), none, false, []⟩,
    ⟨(some 174), .mov (.t 6), none, false, []⟩,
    ⟨(some 2), .mov (.t 173), none, false, []⟩,
    ⟨(some 3), .mov (.t 174), none, false, []⟩,
    ⟨(some 4), .mov (.c (.int .i64 0)), none, false, []⟩] none [2, 3, 4])
  .ret)))))))
def ref_RopePlayed_r : List RRes := [.tmp 2, .tmp 3, .tmp 4]
def ref_RopePlayed_hi : Hi := ⟨[(6, (.int .i64)), (164, (.int .i64)), (165, (.int .i64)), (170, .str), (171, .str), (5, (.sl .str)), (9, (.st (.cons (.int .i64) (.cons .str (.cons (.int .i64) (.cons (.int .i64) (.cons (.int .i64) (.cons (.int .i64) .nil))))))))], [(0, "l"), (1, "l"), (5, "texts"), (6, "codes"), (7, "has"), (9, "o"), (10, "e"), (11, "out"), (12, "i")]⟩
def ref_RopePlayed_an : An := (.seq .d (.seq .d (.seq .d (.seq .d (.seq .d (.seq (.seq .d (.loop [7, 6, 5] [] [] (.seq .d (.seq .d (.seq (.seq .d (.seq .d (.seq .d (.seq (.seq .d (.seq .d (.seq .d (.seq .d (.seq .d (.seq .d (.seq .d (.seq .d (.seq .d (.seq .d (.seq .d (.seq .d (.seq .d (.seq .d (.seq .d (.seq .d (.seq .d (.seq .d (.seq .d (.seq .d (.seq .d (.loop [] [] [] .d)))))))))))))))))))))) .d)))) .d))))) .d))))))
def ref_RopePlayed_fi : Fi := ⟨175, ref_RopePlayed_c, ref_RopePlayed_r, ref_RopePlayed_an, ref_RopePlayed_hi, none⟩
theorem ref_RopePlayed_ok : FiOk Try.prog f_ref_RopePlayed ref_RopePlayed_fi :=
  ⟨fun _ => by kernel_rfl, fun _ h hlen => fun_sound (by kernel_rfl) (fn := Try.f6) (draw_sound _ _) Try.func6 rfl (by kernel_rfl : comp Try.prog 175 _ ref_RopePlayed_c = some ref_RopePlayed_c) (by kernel_rfl : cRes Try.prog Try.f6.results.toList = some ref_RopePlayed_r) hlen h, fun _ h => nomatch h⟩

/-- fustian/fustianlaw.RopeDepths: slots [0 l, 1 l, 3 d, 4 e, 5 y, 6 _, 7 f, 8 i, 9 most, 10 n] -/
def law_RopeDepths_c : SCode :=
  (.seq (.ops [⟨(some 2), .mov (.c (.bool false)), none, false, []⟩] none [0])
  (.seq (.ops [⟨(some 12), .mov (.t 0), none, false, []⟩,
    ⟨(some 13), .call f_rope_Depths [(.t 12)], none, false, []⟩,
    ⟨(some 11), .mov (.t 13), none, false, []⟩,
    ⟨(some 14), .extract (.t 11) 0, none, false, []⟩,
    ⟨(some 15), .extract (.t 11) 1, none, false, []⟩,
    ⟨(some 3), .mov (.t 14), none, false, []⟩,
    ⟨(some 4), .mov (.t 15), none, false, []⟩] none [0, 3, 4])
  (.seq (.ops [⟨(some 17), .mov (.t 0), none, false, []⟩,
    ⟨(some 18), .call f_ref_RopePlayed [(.t 17)], none, false, []⟩,
    ⟨(some 16), .mov (.t 18), none, false, []⟩,
    ⟨(some 19), .extract (.t 16) 0, none, false, []⟩,
    ⟨(some 20), .extract (.t 16) 1, none, false, []⟩,
    ⟨(some 21), .extract (.t 16) 2, none, false, []⟩,
    ⟨(some 5), .mov (.t 19), none, false, []⟩,
    ⟨(some 6), .mov (.t 20), none, false, []⟩,
    ⟨(some 7), .mov (.t 21), none, false, []⟩] none [3, 4, 5, 7])
  (.seq (.seq (.ops [⟨(some 22), .mov (.t 3), none, false, []⟩,
    ⟨(some 23), .len false (.t 22), none, false, []⟩,
    ⟨(some 24), .mov (.t 5), none, false, []⟩,
    ⟨(some 25), .len false (.t 24), none, false, []⟩,
    ⟨(some 26), .bin .none .neq (.t 23) (.t 25), none, false, []⟩,
    ⟨(some 27), .mov (.t 26), none, true, []⟩,
    ⟨(some 28), .mov (.t 4), (some (27, false)), false, []⟩,
    ⟨(some 29), .mov (.t 7), (some (27, false)), false, []⟩,
    ⟨(some 30), .bin .none .neq (.t 28) (.t 29), (some (27, false)), false, []⟩,
    ⟨(some 31), .pick (.t 27) (.c (.bool true)) (.t 30), none, false, []⟩] none [3, 5, 31])
  (.cond (.t 31)
    (.seq (.ops [⟨(some 2), .mov (.c (.bool false)), none, false, []⟩] none [2])
    .ret)
    .skip))
  (.seq (.seq (.ops [⟨(some 8), .mov (.c (.int .i64 0)), none, false, []⟩] none [3, 5, 8])
  (.block 0 (.loop [3, 5] [8] 0
    (.seq (.seq (.ops [⟨(some 32), .mov (.t 8), none, false, []⟩,
      ⟨(some 33), .mov (.t 5), none, false, []⟩,
      ⟨(some 34), .len false (.t 33), none, false, []⟩,
      ⟨(some 35), .bin .none .lss (.t 32) (.t 34), none, false, []⟩] none [3, 5, 8, 35])
    (.cond (.t 35)
      .skip
      (.exit 0)))
    (.seq (.block 1 (.seq (.ops [⟨(some 9), .mov (.c (.int .i64 0)), none, false, []⟩] none [3, 5, 8, 9])
    (.seq (.seq (.ops [⟨(some 38), .mov (.t 5), none, false, []⟩,
      ⟨(some 39), .mov (.t 8), none, false, []⟩,
      ⟨(some 40), .iaddr 1 none (.t 38) (.t 39), none, false, []⟩,
      ⟨(some 41), .load 1 false (.t 40), none, false, []⟩,
      ⟨(some 42), .len true (.t 41), none, false, []⟩,
      ⟨(some 10), .mov (.t 42), none, false, []⟩] none [3, 5, 8, 9, 10])
    (.block 2 (.loop [3, 5, 8] [9, 10] 0
      (.seq (.seq (.ops [⟨(some 43), .mov (.t 10), none, false, []⟩,
        ⟨(some 44), .bin .none .gtr (.t 43) (.c (.int .i64 0)), none, false, []⟩] none [3, 5, 8, 9, 10, 44])
      (.cond (.t 44)
        .skip
        (.exit 2)))
      (.seq (.block 3 (.ops [⟨(some 47), .mov (.t 9), none, false, []⟩,
        ⟨(some 48), .bin .none .add (.t 47) (.c (.int .i64 2)), none, false, []⟩,
        ⟨(some 9), .mov (.t 48), none, false, []⟩] none [3, 5, 8, 9, 10]))
      (.ops [⟨(some 45), .mov (.t 10), none, false, []⟩,
        ⟨(some 46), .bin .none .quo (.t 45) (.c (.int .i64 2)), none, false, []⟩,
        ⟨(some 10), .mov (.t 46), none, false, []⟩] none [3, 5, 8, 9, 10]))))))
    (.join [3, 5, 8] [9] 0 (.seq (.ops [⟨(some 49), .mov (.t 5), none, false, []⟩,
        ⟨(some 50), .mov (.t 8), none, false, []⟩,
        ⟨(some 51), .iaddr 1 none (.t 49) (.t 50), none, false, []⟩,
        ⟨(some 52), .load 1 false (.t 51), none, false, []⟩,
        ⟨(some 53), .bin .none .neq (.t 52) (.c (.str [])), none, false, []⟩] none [3, 5, 8, 9, 53])
      (.cond (.t 53)
        (.ops [⟨(some 54), .mov (.t 9), none, false, []⟩,
          ⟨(some 55), .bin .none .add (.t 54) (.c (.int .i64 2)), none, false, []⟩,
          ⟨(some 9), .mov (.t 55), none, false, []⟩] none [3, 5, 8, 9])
        .skip))
    (.seq (.ops [⟨(some 56), .mov (.t 3), none, false, []⟩,
      ⟨(some 57), .mov (.t 8), none, false, []⟩,
      ⟨(some 58), .iaddr 1 none (.t 56) (.t 57), none, false, []⟩,
      ⟨(some 59), .load 1 false (.t 58), none, false, []⟩,
      ⟨(some 60), .mov (.t 9), none, false, []⟩,
      ⟨(some 61), .bin .none .gtr (.t 59) (.t 60), none, false, []⟩,
      ⟨(some 62), .mov (.t 61), none, true, []⟩,
      ⟨(some 63), .mov (.t 3), (some (62, false)), false, []⟩,
      ⟨(some 64), .mov (.t 8), (some (62, false)), false, []⟩,
      ⟨(some 65), .iaddr 1 none (.t 63) (.t 64), (some (62, false)), false, []⟩,
      ⟨(some 66), .load 1 false (.t 65), (some (62, false)), false, []⟩,
      ⟨(some 67), .bin .none .gtr (.t 66) (.c (.int .i64 0)), (some (62, false)), false, []⟩,
      ⟨(some 68), .mov (.t 5), (some (62, false)), false, []⟩,
      ⟨(some 69), .mov (.t 8), (some (62, false)), false, []⟩,
      ⟨(some 70), .iaddr 1 none (.t 68) (.t 69), (some (62, false)), false, []⟩,
      ⟨(some 71), .load 1 false (.t 70), (some (62, false)), false, []⟩,
      ⟨(some 72), .bin .none .neq (.t 71) (.c (.str [])), (some (62, false)), false, []⟩,
      ⟨(some 73), .bin .bool .neq (.t 67) (.t 72), (some (62, false)), false, []⟩,
      ⟨(some 74), .pick (.t 62) (.c (.bool true)) (.t 73), none, false, []⟩,
      ⟨(some 75), .mov (.t 74), none, true, []⟩,
      ⟨(some 76), .mov (.t 3), (some (75, false)), false, []⟩,
      ⟨(some 77), .mov (.t 8), (some (75, false)), false, []⟩,
      ⟨(some 78), .iaddr 1 none (.t 76) (.t 77), (some (75, false)), false, []⟩,
      ⟨(some 79), .load 1 false (.t 78), (some (75, false)), false, []⟩,
      ⟨(some 80), .bin .none .lss (.t 79) (.c (.int .i64 0)), (some (75, false)), false, []⟩,
      ⟨(some 81), .pick (.t 75) (.c (.bool true)) (.t 80), none, false, []⟩] (some (0, 0, [0, 1, 2, 3, 4, 5, 6, 7, 8, 9, 10, 11, 12, 13, 14, 15, 16, 17, 18, 19, 20, 21, 22, 23, 24, 25])) [3, 5, 8, 81])
    (.cond (.t 81)
      (.seq (.ops [⟨(some 2), .mov (.c (.bool false)), none, false, []⟩] none [2])
      .ret)
      .skip))))))
    (.ops [⟨(some 36), .mov (.t 8), none, false, []⟩,
      ⟨(some 37), .bin .none .add (.t 36) (.c (.int .i64 1)), none, false, []⟩,
      ⟨(some 8), .mov (.t 37), none, false, []⟩] none [3, 5, 8]))))))
  (.seq (.ops [⟨(some 2), .mov (.c (.bool true)), none, false, []⟩] none [2])
  .ret))))))
def law_RopeDepths_r : List RRes := [.tmp 2]
def law_RopeDepths_hi : Hi := ⟨[], [(0, "l"), (1, "l"), (3, "d"), (4, "e"), (5, "y"), (7, "f"), (8, "i"), (9, "most"), (10, "n")]⟩
def law_RopeDepths_an : An := (.seq .d (.seq .d (.seq .d (.seq .d (.seq (.seq .d (.loop [] [] [] (.seq .d (.seq (.seq .d (.seq (.seq .d (.loop [] [] [] .d)) .d)) .d)))) .d)))))
def law_RopeDepths_fi : Fi := ⟨82, law_RopeDepths_c, law_RopeDepths_r, law_RopeDepths_an, law_RopeDepths_hi, none⟩
theorem law_RopeDepths_ok : FiOk Try.prog f_law_RopeDepths law_RopeDepths_fi :=
  ⟨fun _ => by kernel_rfl, fun _ h hlen => fun_sound (by kernel_rfl) (fn := Try.f3) (draw_sound _ _) Try.func3 rfl (by kernel_rfl : comp Try.prog 82 _ law_RopeDepths_c = some law_RopeDepths_c) (by kernel_rfl : cRes Try.prog Try.f3.results.toList = some law_RopeDepths_r) hlen h, fun _ h => nomatch h⟩

/-- strings.Count: slots [0 s, 1 substr, 2 s, 3 substr, 5 n, 6 i] -/
def strings_Count_c : SCode :=
  (.seq (.ops [⟨(some 4), .mov (.c (.int .i64 0)), none, false, []⟩] none [0, 1])
  (.seq (.seq (.ops [⟨(some 7), .mov (.t 1), none, false, []⟩,
    ⟨(some 8), .len true (.t 7), none, false, []⟩,
    ⟨(some 9), .bin .none .eql (.t 8) (.c (.int .i64 0)), none, false, []⟩] none [0, 1, 9])
  (.cond (.t 9)
    (.seq (.ops [⟨(some 10), .mov (.t 0), none, false, []⟩,
      ⟨(some 11), .call f_unicode_utf8_RuneCountInString [(.t 10)], none, false, []⟩,
      ⟨(some 12), .bin .none .add (.t 11) (.c (.int .i64 1)), none, false, []⟩,
      ⟨(some 4), .mov (.t 12), none, false, []⟩] none [4])
    .ret)
    .skip))
  (.seq (.seq (.ops [⟨(some 13), .mov (.t 1), none, false, []⟩,
    ⟨(some 14), .len true (.t 13), none, false, []⟩,
    ⟨(some 15), .bin .none .eql (.t 14) (.c (.int .i64 1)), none, false, []⟩] none [0, 1, 15])
  (.cond (.t 15)
    (.seq (.ops [⟨(some 16), .mov (.t 0), none, false, []⟩,
      ⟨(some 17), .mov (.t 1), none, false, []⟩,
      ⟨(some 18), .index 1 none false (.t 17) (.c (.int .i64 0)), none, false, []⟩,
      ⟨(some 19), .ext .cnt [(.t 16), (.t 18)], none, false, []⟩,
      ⟨(some 4), .mov (.t 19), none, false, []⟩] none [4])
    .ret)
    .skip))
  (.seq (.ops [⟨(some 5), .mov (.c (.int .i64 0)), none, false, []⟩] none [0, 1, 5])
  (.block 0 (.loop [1] [0, 5] 0
    (.block 1 (.seq (.ops [⟨(some 20), .mov (.t 0), none, false, []⟩,
      ⟨(some 21), .mov (.t 1), none, false, []⟩,
      ⟨(some 22), .call f_strings_Index [(.t 20), (.t 21)], none, false, []⟩,
      ⟨(some 6), .mov (.t 22), none, false, []⟩] none [0, 1, 5, 6])
    (.seq (.seq (.ops [⟨(some 23), .mov (.t 6), none, false, []⟩,
      ⟨(some 24), .bin .none .eql (.t 23) (.c (.int .i64 (-1))), none, false, []⟩] none [0, 1, 5, 6, 24])
    (.cond (.t 24)
      (.seq (.ops [⟨(some 25), .mov (.t 5), none, false, []⟩,
        ⟨(some 4), .mov (.t 25), none, false, []⟩] none [4])
      .ret)
      .skip))
    (.seq (.ops [⟨(some 26), .mov (.t 5), none, false, []⟩,
      ⟨(some 27), .bin .none .add (.t 26) (.c (.int .i64 1)), none, false, []⟩,
      ⟨(some 5), .mov (.t 27), none, false, []⟩] none [0, 1, 5, 6])
    (.ops [⟨(some 28), .mov (.t 0), none, false, []⟩,
      ⟨(some 29), .mov (.t 6), none, false, []⟩,
      ⟨(some 30), .mov (.t 1), none, false, []⟩,
      ⟨(some 31), .len true (.t 30), none, false, []⟩,
      ⟨(some 32), .bin .none .add (.t 29) (.t 31), none, false, []⟩,
      ⟨(some 33), .slice 0 (.t 28) (some (.t 32)) none, none, false, []⟩,
      ⟨(some 0), .mov (.t 33), none, false, []⟩] none [0, 1, 5])))))))))))
def strings_Count_r : List RRes := [.tmp 4]
def strings_Count_hi : Hi := ⟨[], [(0, "s"), (1, "substr"), (2, "s"), (3, "substr"), (5, "n"), (6, "i")]⟩
def strings_Count_an : An := (.seq .d (.seq .d (.seq .d (.seq .d (.loop [] [] [] .d)))))
def strings_Count_fi : Fi := ⟨34, strings_Count_c, strings_Count_r, strings_Count_an, strings_Count_hi, none⟩
theorem strings_Count_ok : FiOk Try.prog f_strings_Count strings_Count_fi :=
  ⟨fun _ => by kernel_rfl, fun _ h hlen => fun_sound (by kernel_rfl) (fn := Try.f31) (draw_sound _ _) Try.func31 rfl (by kernel_rfl : comp Try.prog 34 _ strings_Count_c = some strings_Count_c) (by kernel_rfl : cRes Try.prog Try.f31.results.toList = some strings_Count_r) hlen h, fun _ h => nomatch h⟩

/-- strings.LastIndexByte: slots [0 s, 1 c, 2 s, 3 c] -/
def strings_LastIndexByte_c : SCode :=
  (.seq (.ops [⟨(some 4), .mov (.c (.int .i64 0)), none, false, []⟩] none [0, 1])
  (.seq (.ops [⟨(some 5), .mov (.t 0), none, false, []⟩,
    ⟨(some 6), .mov (.t 1), none, false, []⟩,
    ⟨(some 7), .call f_internal_bytealg_LastIndexByteString [(.t 5), (.t 6)], none, false, []⟩,
    ⟨(some 4), .mov (.t 7), none, false, []⟩] none [4])
  .ret))
def strings_LastIndexByte_r : List RRes := [.tmp 4]
def strings_LastIndexByte_hi : Hi := ⟨[], [(0, "s"), (1, "c"), (2, "s"), (3, "c")]⟩
def strings_LastIndexByte_an : An := .d
def strings_LastIndexByte_fi : Fi := ⟨8, strings_LastIndexByte_c, strings_LastIndexByte_r, strings_LastIndexByte_an, strings_LastIndexByte_hi, none⟩
theorem strings_LastIndexByte_ok : FiOk Try.prog f_strings_LastIndexByte strings_LastIndexByte_fi :=
  ⟨fun _ => by kernel_rfl, fun _ h hlen => fun_sound (by kernel_rfl) (fn := Try.f32) (draw_sound _ _) Try.func32 rfl (by kernel_rfl : comp Try.prog 8 _ strings_LastIndexByte_c = some strings_LastIndexByte_c) (by kernel_rfl : cRes Try.prog Try.f32.results.toList = some strings_LastIndexByte_r) hlen h, fun _ h => nomatch h⟩

/-- internal/bytealg.LastIndexByteString: slots [0 s, 1 c, 2 s, 3 c, 5 i] -/
def internal_bytealg_LastIndexByteString_c : SCode :=
  (.seq (.ops [⟨(some 4), .mov (.c (.int .i64 0)), none, false, []⟩] none [0, 1])
  (.seq (.seq (.ops [⟨(some 6), .mov (.t 0), none, false, []⟩,
    ⟨(some 7), .len true (.t 6), none, false, []⟩,
    ⟨(some 8), .bin .none .sub (.t 7) (.c (.int .i64 1)), none, false, []⟩,
    ⟨(some 5), .mov (.t 8), none, false, []⟩] none [0, 1, 5])
  (.block 0 (.loop [0, 1] [5] 0
    (.seq (.seq (.ops [⟨(some 9), .mov (.t 5), none, false, []⟩,
      ⟨(some 10), .bin .none .geq (.t 9) (.c (.int .i64 0)), none, false, []⟩] none [0, 1, 5, 10])
    (.cond (.t 10)
      .skip
      (.exit 0)))
    (.seq (.block 1 (.seq (.ops [⟨(some 13), .mov (.t 0), none, false, []⟩,
      ⟨(some 14), .mov (.t 5), none, false, []⟩,
      ⟨(some 15), .index 1 none false (.t 13) (.t 14), none, false, []⟩,
      ⟨(some 16), .mov (.t 1), none, false, []⟩,
      ⟨(some 17), .bin .none .eql (.t 15) (.t 16), none, false, []⟩] none [0, 1, 5, 17])
    (.cond (.t 17)
      (.seq (.ops [⟨(some 18), .mov (.t 5), none, false, []⟩,
        ⟨(some 4), .mov (.t 18), none, false, []⟩] none [4])
      .ret)
      .skip)))
    (.ops [⟨(some 11), .mov (.t 5), none, false, []⟩,
      ⟨(some 12), .bin .none .sub (.t 11) (.c (.int .i64 1)), none, false, []⟩,
      ⟨(some 5), .mov (.t 12), none, false, []⟩] none [0, 1, 5]))))))
  (.seq (.ops [⟨(some 4), .mov (.c (.int .i64 (-1))), none, false, []⟩] none [4])
  .ret)))
def internal_bytealg_LastIndexByteString_r : List RRes := [.tmp 4]
def internal_bytealg_LastIndexByteString_hi : Hi := ⟨[], [(0, "s"), (1, "c"), (2, "s"), (3, "c"), (5, "i")]⟩
def internal_bytealg_LastIndexByteString_an : An := (.seq .d (.seq (.seq .d (.loop [] [] [] .d)) .d))
def internal_bytealg_LastIndexByteString_fi : Fi := ⟨19, internal_bytealg_LastIndexByteString_c, internal_bytealg_LastIndexByteString_r, internal_bytealg_LastIndexByteString_an, internal_bytealg_LastIndexByteString_hi, none⟩
theorem internal_bytealg_LastIndexByteString_ok : FiOk Try.prog f_internal_bytealg_LastIndexByteString internal_bytealg_LastIndexByteString_fi :=
  ⟨fun _ => by kernel_rfl, fun _ h hlen => fun_sound (by kernel_rfl) (fn := Try.f38) (draw_sound _ _) Try.func38 rfl (by kernel_rfl : comp Try.prog 19 _ internal_bytealg_LastIndexByteString_c = some internal_bytealg_LastIndexByteString_c) (by kernel_rfl : cRes Try.prog Try.f38.results.toList = some internal_bytealg_LastIndexByteString_r) hlen h, fun _ h => nomatch h⟩

end Go.Proofs.Ytnmjgielnbajkaa
