/- The functions' simplified code, printed by a program of the claim's author; each is checked against the program's own code. Conditions: none. -/
import Derived.Test.YtgiglabejffciaaProg
import Derived.Test.YtgiglabejffciaaVyM
set_option linter.unusedVariables false
set_option maxRecDepth 100000
namespace Go.Proofs.Ytgiglabejffciaa
open Go.Vc
abbrev f_gosem_cut_init : Nat := 2
abbrev f_law_RopePlays : Nat := 3
abbrev f_rope_Play : Nat := 4
abbrev f_ref_RopePlayed : Nat := 5
abbrev f_law_sameTexts : Nat := 6
abbrev f_law_sameCodes : Nat := 7
abbrev f_rope_play : Nat := 8
abbrev f___rope_Rope__String : Nat := 9
abbrev f_ref_RopePlayed_1 : Nat := 10
abbrev f___rope_maker__do : Nat := 11
abbrev f___rope_Rope__Len : Nat := 12
abbrev f___rope_Rope__Leaves : Nat := 13
abbrev f___rope_maker__fault : Nat := 14
abbrev f___rope_maker__length : Nat := 15
abbrev f___rope_maker__make : Nat := 16
abbrev f___rope_Rope__Leaves_1 : Nat := 17
abbrev f___rope_Rope__each : Nat := 18
abbrev f___rope_maker__there : Nat := 19
abbrev f_rope_New : Nat := 20
abbrev f_rope_Join : Nat := 21
abbrev f_rope_Split : Nat := 22
abbrev f_rope_leaf : Nat := 23
abbrev f_rope_node : Nat := 24
abbrev f_rope_balanced : Nat := 25
abbrev f_pos_Of : Nat := 26
abbrev f_poly_Of : Nat := 27
abbrev f_pos_Join : Nat := 28
abbrev f_poly_Join : Nat := 29
abbrev f_strings_Count : Nat := 30
abbrev f_strings_LastIndexByte : Nat := 31
abbrev f_pos_May : Nat := 32
abbrev f_poly_May : Nat := 33
abbrev f_unicode_utf8_RuneCountInString : Nat := 34
abbrev f_strings_Index : Nat := 36
abbrev f_internal_bytealg_LastIndexByteString : Nat := 37
abbrev f_internal_stringslite_Index : Nat := 38
abbrev f_internal_stringslite_IndexByte : Nat := 39
abbrev f_internal_bytealg_Cutover : Nat := 41
abbrev f_internal_bytealg_IndexRabinKarp_string_ : Nat := 42
abbrev f_internal_bytealg_hashStr_string_ : Nat := 44

/-- fustian/pos.Of: slots [0 text, 1 text] -/
def pos_Of_c : SCode :=
  (.seq (.ops [⟨(some 2), .alloc 0 [(.int .i64 0), (.int .i64 0), (.int .i64 0)], none, false, []⟩] none [0, 2])
  (.seq (.ops [⟨(some 3), .mov (.t 0), none, false, []⟩,
    ⟨(some 4), .len true (.t 3), none, false, []⟩,
    ⟨(some 5), .mov (.t 0), none, false, []⟩,
    ⟨(some 6), .call f_strings_Count [(.t 5), (.c (.str [10]))], none, false, []⟩,
    ⟨(some 7), .mov (.t 0), none, false, []⟩,
    ⟨(some 8), .len true (.t 7), none, false, []⟩,
    ⟨(some 9), .mov (.t 0), none, false, []⟩,
    ⟨(some 10), .call f_strings_LastIndexByte [(.t 9), (.c (.int .u8 10))], none, false, []⟩,
    ⟨(some 11), .bin .none .sub (.t 8) (.t 10), none, false, []⟩,
    ⟨(some 12), .bin .none .sub (.t 11) (.c (.int .i64 1)), none, false, []⟩,
    ⟨(some 13), .build [(.int .i64 0), (.int .i64 0), (.int .i64 0)] [(0, 1, (.t 4)), (1, 1, (.t 6)), (2, 1, (.t 12))], none, false, []⟩,
    ⟨none, .store 3 (.t 2) (.t 13), none, false, []⟩] none [2])
  .ret))
def pos_Of_r : List RRes := [.cell 2 3 true]
def pos_Of_hi : Hi := ⟨[(2, (.st (.cons (.int .i64) (.cons (.int .i64) (.cons (.int .i64) .nil)))))], [(0, "text"), (1, "text")]⟩
def pos_Of_an : An := .d
def pos_Of_fi : Fi := ⟨14, pos_Of_c, pos_Of_r, pos_Of_an, pos_Of_hi, none⟩
theorem pos_Of_ok : FiOk Try.prog f_pos_Of pos_Of_fi :=
  ⟨fun _ => by kernel_rfl, fun _ h hlen => fun_sound (by kernel_rfl) (fn := Try.f26) (draw_sound _ _) Try.func26 rfl (by kernel_rfl : comp Try.prog 14 _ pos_Of_c = some pos_Of_c) (by kernel_rfl : cRes Try.prog Try.f26.results.toList = some pos_Of_r) hlen h, fun _ h => nomatch h⟩

/-- fustian/poly.Of: slots [0 text, 1 text, 3 h, 4 i] -/
def poly_Of_c : SCode :=
  (.seq (.ops [⟨(some 2), .alloc 0 [(.int .i64 0), (.int .i64 0)], none, false, []⟩] none [0, 2])
  (.seq (.ops [⟨(some 5), .build [(.int .i64 0), (.int .i64 0)] [(1, 1, (.c (.int .i64 1)))], none, false, []⟩,
    ⟨(some 3), .alloc 0 [(.int .i64 0), (.int .i64 0)], none, false, []⟩,
    ⟨none, .store 2 (.t 3) (.t 5), none, false, []⟩] none [0, 2, 3])
  (.seq (.seq (.ops [⟨(some 6), .mov (.t 0), none, false, []⟩,
    ⟨(some 7), .len true (.t 6), none, false, []⟩,
    ⟨(some 8), .mov (.c (.int .i64 0)), none, false, []⟩] none [0, 2, 3, 7, 8])
  (.block 0 (.loop [0, 2, 3, 7] [8] 2
    (.seq (.ops [⟨(some 9), .bin .none .lss (.t 8) (.t 7), none, false, []⟩] none [0, 2, 3, 7, 8, 9])
    (.seq (.cond (.t 9)
      .skip
      (.exit 0))
    (.seq (.block 1 (.seq (.ops [⟨(some 10), .mov (.t 8), none, false, []⟩,
      ⟨(some 4), .mov (.t 10), none, false, []⟩] none [0, 2, 3, 4, 7, 8])
    (.seq (.ops [⟨(some 11), .faddr 0 (.t 3), none, false, []⟩,
      ⟨(some 12), .load 1 false (.t 11), none, false, []⟩,
      ⟨(some 13), .bin .none .mul (.t 12) (.c (.int .i64 257)), none, false, []⟩,
      ⟨(some 14), .mov (.t 0), none, false, []⟩,
      ⟨(some 15), .mov (.t 4), none, false, []⟩,
      ⟨(some 16), .index 1 none false (.t 14) (.t 15), none, false, []⟩,
      ⟨(some 17), .conv .i64 (.t 16), none, false, []⟩,
      ⟨(some 18), .bin .none .add (.t 13) (.t 17), none, false, []⟩,
      ⟨(some 19), .bin .none .add (.t 18) (.c (.int .i64 1)), none, false, []⟩,
      ⟨(some 20), .bin .none .rem (.t 19) (.c (.int .i64 2147483647)), none, false, []⟩,
      ⟨(some 21), .faddr 0 (.t 3), none, false, []⟩,
      ⟨none, .store 1 (.t 21) (.t 20), none, false, []⟩] (some (0, 0, [0, 1, 2, 3, 4, 5, 6, 7, 8, 9, 10, 11])) [0, 2, 3, 7, 8])
    (.ops [⟨(some 22), .faddr 1 (.t 3), none, false, []⟩,
      ⟨(some 23), .load 1 false (.t 22), none, false, []⟩,
      ⟨(some 24), .bin .none .mul (.t 23) (.c (.int .i64 257)), none, false, []⟩,
      ⟨(some 25), .bin .none .rem (.t 24) (.c (.int .i64 2147483647)), none, false, []⟩,
      ⟨(some 26), .faddr 1 (.t 3), none, false, []⟩,
      ⟨none, .store 1 (.t 26) (.t 25), none, false, []⟩] none [0, 2, 3, 7, 8]))))
    (.ops [⟨(some 27), .bin .none .add (.t 8) (.c (.int .i64 1)), none, false, []⟩,
      ⟨(some 8), .mov (.t 27), none, false, []⟩] none [0, 2, 3, 7, 8])))))))
  (.seq (.ops [⟨(some 28), .load 2 true (.t 3), none, false, []⟩,
    ⟨none, .store 2 (.t 2) (.t 28), none, false, []⟩] none [2])
  .ret))))
def poly_Of_r : List RRes := [.cell 2 2 true]
def poly_Of_hi : Hi := ⟨[(2, (.st (.cons (.int .i64) (.cons (.int .i64) .nil)))), (3, (.st (.cons (.int .i64) (.cons (.int .i64) .nil))))], [(0, "text"), (1, "text"), (3, "h"), (4, "i")]⟩
def poly_Of_an : An := (.seq .d (.seq .d (.seq (.seq .d (.loop [3] [] [] .d)) .d)))
def poly_Of_fi : Fi := ⟨29, poly_Of_c, poly_Of_r, poly_Of_an, poly_Of_hi, none⟩
theorem poly_Of_ok : FiOk Try.prog f_poly_Of poly_Of_fi :=
  ⟨fun _ => by kernel_rfl, fun _ h hlen => fun_sound (by kernel_rfl) (fn := Try.f27) (draw_sound _ _) Try.func27 rfl (by kernel_rfl : comp Try.prog 29 _ poly_Of_c = some poly_Of_c) (by kernel_rfl : cRes Try.prog Try.f27.results.toList = some poly_Of_r) hlen h, fun _ h => nomatch h⟩

/-- fustian/pos.May: slots [0 p, 1 p] -/
def pos_May_c : SCode :=
  (.seq (.ops [⟨(some 1), .box 0 (.t 0), none, false, []⟩,
    ⟨(some 2), .mov (.c (.bool false)), none, false, []⟩] none [1])
  (.seq (.seq (.ops [⟨(some 3), .faddr 0 (.t 1), none, false, []⟩,
    ⟨(some 4), .load 1 false (.t 3), none, false, []⟩,
    ⟨(some 5), .bin .none .lss (.t 4) (.c (.int .i64 0)), none, false, []⟩,
    ⟨(some 6), .mov (.t 5), none, true, []⟩,
    ⟨(some 7), .faddr 1 (.t 1), (some (6, false)), false, []⟩,
    ⟨(some 8), .load 1 false (.t 7), (some (6, false)), false, []⟩,
    ⟨(some 9), .bin .none .lss (.t 8) (.c (.int .i64 0)), (some (6, false)), false, []⟩,
    ⟨(some 10), .pick (.t 6) (.c (.bool true)) (.t 9), none, false, []⟩,
    ⟨(some 11), .mov (.t 10), none, true, []⟩,
    ⟨(some 12), .faddr 2 (.t 1), (some (11, false)), false, []⟩,
    ⟨(some 13), .load 1 false (.t 12), (some (11, false)), false, []⟩,
    ⟨(some 14), .bin .none .lss (.t 13) (.c (.int .i64 0)), (some (11, false)), false, []⟩,
    ⟨(some 15), .pick (.t 11) (.c (.bool true)) (.t 14), none, false, []⟩,
    ⟨(some 16), .mov (.t 15), none, true, []⟩,
    ⟨(some 17), .faddr 0 (.t 1), (some (16, false)), false, []⟩,
    ⟨(some 18), .load 1 false (.t 17), (some (16, false)), false, []⟩,
    ⟨(some 19), .faddr 1 (.t 1), (some (16, false)), false, []⟩,
    ⟨(some 20), .load 1 false (.t 19), (some (16, false)), false, []⟩,
    ⟨(some 21), .faddr 2 (.t 1), (some (16, false)), false, []⟩,
    ⟨(some 22), .load 1 false (.t 21), (some (16, false)), false, []⟩,
    ⟨(some 23), .max [(.t 18), (.t 20), (.t 22)], (some (16, false)), false, []⟩,
    ⟨(some 24), .bin .none .gtr (.t 23) (.c (.int .i64 1099511627776)), (some (16, false)), false, []⟩,
    ⟨(some 25), .pick (.t 16) (.c (.bool true)) (.t 24), none, false, []⟩] none [1, 25])
  (.cond (.t 25)
    (.seq (.ops [⟨(some 2), .mov (.c (.bool false)), none, false, []⟩] none [2])
    .ret)
    .skip))
  (.seq (.ops [⟨(some 26), .faddr 1 (.t 1), none, false, []⟩,
    ⟨(some 27), .load 1 false (.t 26), none, false, []⟩,
    ⟨(some 28), .faddr 2 (.t 1), none, false, []⟩,
    ⟨(some 29), .load 1 false (.t 28), none, false, []⟩,
    ⟨(some 30), .bin .none .add (.t 27) (.t 29), none, false, []⟩,
    ⟨(some 31), .faddr 0 (.t 1), none, false, []⟩,
    ⟨(some 32), .load 1 false (.t 31), none, false, []⟩,
    ⟨(some 33), .bin .none .leq (.t 30) (.t 32), none, false, []⟩,
    ⟨(some 34), .mov (.t 33), none, true, []⟩,
    ⟨(some 35), .faddr 1 (.t 1), (some (34, true)), false, []⟩,
    ⟨(some 36), .load 1 false (.t 35), (some (34, true)), false, []⟩,
    ⟨(some 37), .bin .none .gtr (.t 36) (.c (.int .i64 0)), (some (34, true)), false, []⟩,
    ⟨(some 38), .mov (.t 37), (some (34, true)), true, []⟩,
    ⟨(some 39), .faddr 2 (.t 1), (some (38, false)), false, []⟩,
    ⟨(some 40), .load 1 false (.t 39), (some (38, false)), false, []⟩,
    ⟨(some 41), .faddr 0 (.t 1), (some (38, false)), false, []⟩,
    ⟨(some 42), .load 1 false (.t 41), (some (38, false)), false, []⟩,
    ⟨(some 43), .bin .none .eql (.t 40) (.t 42), (some (38, false)), false, []⟩,
    ⟨(some 44), .pick (.t 38) (.c (.bool true)) (.t 43), (some (34, true)), false, []⟩,
    ⟨(some 45), .pick (.t 34) (.t 44) (.c (.bool false)), none, false, []⟩,
    ⟨(some 2), .mov (.t 45), none, false, []⟩] none [2])
  .ret)))
def pos_May_r : List RRes := [.tmp 2]
def pos_May_hi : Hi := ⟨[(1, (.st (.cons (.int .i64) (.cons (.int .i64) (.cons (.int .i64) .nil)))))], [(0, "p"), (1, "p")]⟩
def pos_May_an : An := .d
def pos_May_fi : Fi := ⟨46, pos_May_c, pos_May_r, pos_May_an, pos_May_hi, none⟩
theorem pos_May_ok : FiOk Try.prog f_pos_May pos_May_fi :=
  ⟨fun _ => by kernel_rfl, fun _ h hlen => fun_sound (by kernel_rfl) (fn := Try.f32) (draw_sound _ _) Try.func32 rfl (by kernel_rfl : comp Try.prog 46 _ pos_May_c = some pos_May_c) (by kernel_rfl : cRes Try.prog Try.f32.results.toList = some pos_May_r) hlen h, fun _ h => nomatch h⟩

/-- fustian/pos.Join: slots [0 a, 1 b, 2 a, 3 b, 6 out] -/
def pos_Join_c : SCode :=
  (.seq (.ops [⟨(some 2), .box 0 (.t 0), none, false, []⟩,
    ⟨(some 3), .box 0 (.t 1), none, false, []⟩,
    ⟨(some 4), .alloc 0 [(.int .i64 0), (.int .i64 0), (.int .i64 0)], none, false, []⟩,
    ⟨(some 5), .mov (.c (.int .i64 0)), none, false, []⟩] none [2, 3, 4])
  (.seq (.seq (.ops [⟨(some 7), .load 3 true (.t 2), none, false, []⟩,
    ⟨(some 8), .call f_pos_May [(.t 7)], none, false, []⟩,
    ⟨(some 9), .not (.t 8), none, false, []⟩,
    ⟨(some 10), .mov (.t 9), none, true, []⟩,
    ⟨(some 11), .load 3 true (.t 3), (some (10, false)), false, []⟩,
    ⟨(some 12), .call f_pos_May [(.t 11)], (some (10, false)), false, []⟩,
    ⟨(some 13), .not (.t 12), (some (10, false)), false, []⟩,
    ⟨(some 14), .pick (.t 10) (.c (.bool true)) (.t 13), none, false, []⟩] none [2, 3, 4, 14])
  (.cond (.t 14)
    (.seq (.ops [⟨(some 15), .build [(.int .i64 0), (.int .i64 0), (.int .i64 0)] [], none, false, []⟩,
      ⟨none, .store 3 (.t 4) (.t 15), none, false, []⟩,
      ⟨(some 5), .mov (.c (.int .i64 4)), none, false, []⟩] none [4, 5])
    .ret)
    .skip))
  (.seq (.ops [⟨(some 16), .faddr 0 (.t 2), none, false, []⟩,
    ⟨(some 17), .load 1 false (.t 16), none, false, []⟩,
    ⟨(some 18), .faddr 0 (.t 3), none, false, []⟩,
    ⟨(some 19), .load 1 false (.t 18), none, false, []⟩,
    ⟨(some 20), .bin .none .add (.t 17) (.t 19), none, false, []⟩,
    ⟨(some 21), .faddr 1 (.t 2), none, false, []⟩,
    ⟨(some 22), .load 1 false (.t 21), none, false, []⟩,
    ⟨(some 23), .faddr 1 (.t 3), none, false, []⟩,
    ⟨(some 24), .load 1 false (.t 23), none, false, []⟩,
    ⟨(some 25), .bin .none .add (.t 22) (.t 24), none, false, []⟩,
    ⟨(some 26), .faddr 2 (.t 3), none, false, []⟩,
    ⟨(some 27), .load 1 false (.t 26), none, false, []⟩,
    ⟨(some 28), .build [(.int .i64 0), (.int .i64 0), (.int .i64 0)] [(0, 1, (.t 20)), (1, 1, (.t 25)), (2, 1, (.t 27))], none, false, []⟩,
    ⟨(some 6), .alloc 0 [(.int .i64 0), (.int .i64 0), (.int .i64 0)], none, false, []⟩,
    ⟨none, .store 3 (.t 6) (.t 28), none, false, []⟩] none [2, 3, 4, 6])
  (.join [4, 6] [] 4 (.seq (.ops [⟨(some 29), .faddr 1 (.t 3), none, false, []⟩,
      ⟨(some 30), .load 1 false (.t 29), none, false, []⟩,
      ⟨(some 31), .bin .none .eql (.t 30) (.c (.int .i64 0)), none, false, []⟩] none [2, 4, 6, 31])
    (.cond (.t 31)
      (.ops [⟨(some 32), .faddr 2 (.t 6), none, false, []⟩,
        ⟨(some 33), .load 1 false (.t 32), none, false, []⟩,
        ⟨(some 34), .faddr 2 (.t 2), none, false, []⟩,
        ⟨(some 35), .load 1 false (.t 34), none, false, []⟩,
        ⟨(some 36), .bin .none .add (.t 33) (.t 35), none, false, []⟩,
        ⟨(some 37), .faddr 2 (.t 6), none, false, []⟩,
        ⟨none, .store 1 (.t 37) (.t 36), none, false, []⟩] none [4, 6])
      .skip))
  (.seq (.seq (.ops [⟨(some 38), .load 3 true (.t 6), none, false, []⟩,
    ⟨(some 39), .call f_pos_May [(.t 38)], none, false, []⟩,
    ⟨(some 40), .not (.t 39), none, false, []⟩] none [4, 6, 40])
  (.cond (.t 40)
    (.seq (.ops [⟨(some 41), .build [(.int .i64 0), (.int .i64 0), (.int .i64 0)] [], none, false, []⟩,
      ⟨none, .store 3 (.t 4) (.t 41), none, false, []⟩,
      ⟨(some 5), .mov (.c (.int .i64 4)), none, false, []⟩] none [4, 5])
    .ret)
    .skip))
  (.seq (.ops [⟨(some 42), .load 3 true (.t 6), none, false, []⟩,
    ⟨none, .store 3 (.t 4) (.t 42), none, false, []⟩,
    ⟨(some 5), .mov (.c (.int .i64 0)), none, false, []⟩] none [4, 5])
  .ret))))))
def pos_Join_r : List RRes := [.cell 4 3 true, .tmp 5]
def pos_Join_hi : Hi := ⟨[(2, (.st (.cons (.int .i64) (.cons (.int .i64) (.cons (.int .i64) .nil))))), (3, (.st (.cons (.int .i64) (.cons (.int .i64) (.cons (.int .i64) .nil))))), (4, (.st (.cons (.int .i64) (.cons (.int .i64) (.cons (.int .i64) .nil))))), (6, (.st (.cons (.int .i64) (.cons (.int .i64) (.cons (.int .i64) .nil)))))], [(0, "a"), (1, "b"), (2, "a"), (3, "b"), (6, "out")]⟩
def pos_Join_an : An := .d
def pos_Join_fi : Fi := ⟨43, pos_Join_c, pos_Join_r, pos_Join_an, pos_Join_hi, none⟩
theorem pos_Join_ok : FiOk Try.prog f_pos_Join pos_Join_fi :=
  ⟨fun _ => by kernel_rfl, fun _ h hlen => fun_sound (by kernel_rfl) (fn := Try.f28) (draw_sound _ _) Try.func28 rfl (by kernel_rfl : comp Try.prog 43 _ pos_Join_c = some pos_Join_c) (by kernel_rfl : cRes Try.prog Try.f28.results.toList = some pos_Join_r) hlen h, fun _ h => nomatch h⟩

/-- fustian/poly.May: slots [0 h, 1 h] -/
def poly_May_c : SCode :=
  (.seq (.ops [⟨(some 1), .box 0 (.t 0), none, false, []⟩,
    ⟨(some 2), .mov (.c (.bool false)), none, false, []⟩] none [1])
  (.seq (.ops [⟨(some 3), .faddr 0 (.t 1), none, false, []⟩,
    ⟨(some 4), .load 1 false (.t 3), none, false, []⟩,
    ⟨(some 5), .bin .none .geq (.t 4) (.c (.int .i64 0)), none, false, []⟩,
    ⟨(some 6), .mov (.t 5), none, true, []⟩,
    ⟨(some 7), .faddr 0 (.t 1), (some (6, true)), false, []⟩,
    ⟨(some 8), .load 1 false (.t 7), (some (6, true)), false, []⟩,
    ⟨(some 9), .bin .none .lss (.t 8) (.c (.int .i64 2147483647)), (some (6, true)), false, []⟩,
    ⟨(some 10), .pick (.t 6) (.t 9) (.c (.bool false)), none, false, []⟩,
    ⟨(some 11), .mov (.t 10), none, true, []⟩,
    ⟨(some 12), .faddr 1 (.t 1), (some (11, true)), false, []⟩,
    ⟨(some 13), .load 1 false (.t 12), (some (11, true)), false, []⟩,
    ⟨(some 14), .bin .none .gtr (.t 13) (.c (.int .i64 0)), (some (11, true)), false, []⟩,
    ⟨(some 15), .pick (.t 11) (.t 14) (.c (.bool false)), none, false, []⟩,
    ⟨(some 16), .mov (.t 15), none, true, []⟩,
    ⟨(some 17), .faddr 1 (.t 1), (some (16, true)), false, []⟩,
    ⟨(some 18), .load 1 false (.t 17), (some (16, true)), false, []⟩,
    ⟨(some 19), .bin .none .lss (.t 18) (.c (.int .i64 2147483647)), (some (16, true)), false, []⟩,
    ⟨(some 20), .pick (.t 16) (.t 19) (.c (.bool false)), none, false, []⟩,
    ⟨(some 2), .mov (.t 20), none, false, []⟩] none [2])
  .ret))
def poly_May_r : List RRes := [.tmp 2]
def poly_May_hi : Hi := ⟨[(1, (.st (.cons (.int .i64) (.cons (.int .i64) .nil))))], [(0, "h"), (1, "h")]⟩
def poly_May_an : An := .d
def poly_May_fi : Fi := ⟨21, poly_May_c, poly_May_r, poly_May_an, poly_May_hi, none⟩
theorem poly_May_ok : FiOk Try.prog f_poly_May poly_May_fi :=
  ⟨fun _ => by kernel_rfl, fun _ h hlen => fun_sound (by kernel_rfl) (fn := Try.f33) (draw_sound _ _) Try.func33 rfl (by kernel_rfl : comp Try.prog 21 _ poly_May_c = some poly_May_c) (by kernel_rfl : cRes Try.prog Try.f33.results.toList = some poly_May_r) hlen h, fun _ h => nomatch h⟩

/-- fustian/poly.Join: slots [0 a, 1 b, 2 a, 3 b] -/
def poly_Join_c : SCode :=
  (.seq (.ops [⟨(some 2), .box 0 (.t 0), none, false, []⟩,
    ⟨(some 3), .box 0 (.t 1), none, false, []⟩,
    ⟨(some 4), .alloc 0 [(.int .i64 0), (.int .i64 0)], none, false, []⟩,
    ⟨(some 5), .mov (.c (.int .i64 0)), none, false, []⟩] none [2, 3, 4])
  (.seq (.seq (.ops [⟨(some 6), .load 2 true (.t 2), none, false, []⟩,
    ⟨(some 7), .call f_poly_May [(.t 6)], none, false, []⟩,
    ⟨(some 8), .not (.t 7), none, false, []⟩,
    ⟨(some 9), .mov (.t 8), none, true, []⟩,
    ⟨(some 10), .load 2 true (.t 3), (some (9, false)), false, []⟩,
    ⟨(some 11), .call f_poly_May [(.t 10)], (some (9, false)), false, []⟩,
    ⟨(some 12), .not (.t 11), (some (9, false)), false, []⟩,
    ⟨(some 13), .pick (.t 9) (.c (.bool true)) (.t 12), none, false, []⟩] none [2, 3, 4, 13])
  (.cond (.t 13)
    (.seq (.ops [⟨(some 14), .build [(.int .i64 0), (.int .i64 0)] [], none, false, []⟩,
      ⟨none, .store 2 (.t 4) (.t 14), none, false, []⟩,
      ⟨(some 5), .mov (.c (.int .i64 4)), none, false, []⟩] none [4, 5])
    .ret)
    .skip))
  (.seq (.ops [⟨(some 15), .faddr 0 (.t 2), none, false, []⟩,
    ⟨(some 16), .load 1 false (.t 15), none, false, []⟩,
    ⟨(some 17), .faddr 1 (.t 3), none, false, []⟩,
    ⟨(some 18), .load 1 false (.t 17), none, false, []⟩,
    ⟨(some 19), .bin .none .mul (.t 16) (.t 18), none, false, []⟩,
    ⟨(some 20), .faddr 0 (.t 3), none, false, []⟩,
    ⟨(some 21), .load 1 false (.t 20), none, false, []⟩,
    ⟨(some 22), .bin .none .add (.t 19) (.t 21), none, false, []⟩,
    ⟨(some 23), .bin .none .rem (.t 22) (.c (.int .i64 2147483647)), none, false, []⟩,
    ⟨(some 24), .faddr 1 (.t 2), none, false, []⟩,
    ⟨(some 25), .load 1 false (.t 24), none, false, []⟩,
    ⟨(some 26), .faddr 1 (.t 3), none, false, []⟩,
    ⟨(some 27), .load 1 false (.t 26), none, false, []⟩,
    ⟨(some 28), .bin .none .mul (.t 25) (.t 27), none, false, []⟩,
    ⟨(some 29), .bin .none .rem (.t 28) (.c (.int .i64 2147483647)), none, false, []⟩,
    ⟨(some 30), .build [(.int .i64 0), (.int .i64 0)] [(0, 1, (.t 23)), (1, 1, (.t 29))], none, false, []⟩,
    ⟨none, .store 2 (.t 4) (.t 30), none, false, []⟩,
    ⟨(some 5), .mov (.c (.int .i64 0)), none, false, []⟩] none [4, 5])
  .ret)))
def poly_Join_r : List RRes := [.cell 4 2 true, .tmp 5]
def poly_Join_hi : Hi := ⟨[(2, (.st (.cons (.int .i64) (.cons (.int .i64) .nil)))), (3, (.st (.cons (.int .i64) (.cons (.int .i64) .nil)))), (4, (.st (.cons (.int .i64) (.cons (.int .i64) .nil))))], [(0, "a"), (1, "b"), (2, "a"), (3, "b")]⟩
def poly_Join_an : An := .d
def poly_Join_fi : Fi := ⟨31, poly_Join_c, poly_Join_r, poly_Join_an, poly_Join_hi, none⟩
theorem poly_Join_ok : FiOk Try.prog f_poly_Join poly_Join_fi :=
  ⟨fun _ => by kernel_rfl, fun _ h hlen => fun_sound (by kernel_rfl) (fn := Try.f29) (draw_sound _ _) Try.func29 rfl (by kernel_rfl : comp Try.prog 31 _ poly_Join_c = some poly_Join_c) (by kernel_rfl : cRes Try.prog Try.f29.results.toList = some poly_Join_r) hlen h, fun _ h => nomatch h⟩

/-- fustian/fustianlaw.sameTexts: slots [0 a, 1 b, 2 a, 3 b, 5 i] -/
def law_sameTexts_c : SCode :=
  (.seq (.ops [⟨(some 4), .mov (.c (.bool false)), none, false, []⟩] none [0, 1])
  (.seq (.seq (.ops [⟨(some 6), .mov (.t 0), none, false, []⟩,
    ⟨(some 7), .len false (.t 6), none, false, []⟩,
    ⟨(some 8), .mov (.t 1), none, false, []⟩,
    ⟨(some 9), .len false (.t 8), none, false, []⟩,
    ⟨(some 10), .bin .none .neq (.t 7) (.t 9), none, false, []⟩] none [0, 1, 10])
  (.cond (.t 10)
    (.seq (.ops [⟨(some 4), .mov (.c (.bool false)), none, false, []⟩] none [4])
    .ret)
    .skip))
  (.seq (.seq (.ops [⟨(some 5), .mov (.c (.int .i64 0)), none, false, []⟩] none [0, 1, 5])
  (.block 0 (.loop [0, 1] [5] 0
    (.seq (.seq (.ops [⟨(some 11), .mov (.t 5), none, false, []⟩,
      ⟨(some 12), .mov (.t 0), none, false, []⟩,
      ⟨(some 13), .len false (.t 12), none, false, []⟩,
      ⟨(some 14), .bin .none .lss (.t 11) (.t 13), none, false, []⟩] none [0, 1, 5, 14])
    (.cond (.t 14)
      .skip
      (.exit 0)))
    (.seq (.block 1 (.seq (.ops [⟨(some 17), .mov (.t 0), none, false, []⟩,
      ⟨(some 18), .mov (.t 5), none, false, []⟩,
      ⟨(some 19), .iaddr 1 none (.t 17) (.t 18), none, false, []⟩,
      ⟨(some 20), .load 1 false (.t 19), none, false, []⟩,
      ⟨(some 21), .mov (.t 1), none, false, []⟩,
      ⟨(some 22), .mov (.t 5), none, false, []⟩,
      ⟨(some 23), .iaddr 1 none (.t 21) (.t 22), none, false, []⟩,
      ⟨(some 24), .load 1 false (.t 23), none, false, []⟩,
      ⟨(some 25), .bin .none .neq (.t 20) (.t 24), none, false, []⟩] (some (0, 0, [0, 1, 2, 3, 4, 5, 6, 7, 8])) [0, 1, 5, 25])
    (.cond (.t 25)
      (.seq (.ops [⟨(some 4), .mov (.c (.bool false)), none, false, []⟩] none [4])
      .ret)
      .skip)))
    (.ops [⟨(some 15), .mov (.t 5), none, false, []⟩,
      ⟨(some 16), .bin .none .add (.t 15) (.c (.int .i64 1)), none, false, []⟩,
      ⟨(some 5), .mov (.t 16), none, false, []⟩] none [0, 1, 5]))))))
  (.seq (.ops [⟨(some 4), .mov (.c (.bool true)), none, false, []⟩] none [4])
  .ret))))
def law_sameTexts_r : List RRes := [.tmp 4]
def law_sameTexts_hi : Hi := ⟨[], [(0, "a"), (1, "b"), (2, "a"), (3, "b"), (5, "i")]⟩
def law_sameTexts_an : An := (.seq .d (.seq .d (.seq (.seq .d (.loop [] [] [] .d)) .d)))
def law_sameTexts_fi : Fi := ⟨26, law_sameTexts_c, law_sameTexts_r, law_sameTexts_an, law_sameTexts_hi, none⟩
theorem law_sameTexts_ok : FiOk Try.prog f_law_sameTexts law_sameTexts_fi :=
  ⟨fun _ => by kernel_rfl, fun _ h hlen => fun_sound (by kernel_rfl) (fn := Try.f6) (draw_sound _ _) Try.func6 rfl (by kernel_rfl : comp Try.prog 26 _ law_sameTexts_c = some law_sameTexts_c) (by kernel_rfl : cRes Try.prog Try.f6.results.toList = some law_sameTexts_r) hlen h, fun _ h => nomatch h⟩

/-- fustian/fustianlaw.sameCodes: slots [0 a, 1 b, 2 a, 3 b, 5 i] -/
def law_sameCodes_c : SCode :=
  (.seq (.ops [⟨(some 4), .mov (.c (.bool false)), none, false, []⟩] none [0, 1])
  (.seq (.seq (.ops [⟨(some 6), .mov (.t 0), none, false, []⟩,
    ⟨(some 7), .len false (.t 6), none, false, []⟩,
    ⟨(some 8), .mov (.t 1), none, false, []⟩,
    ⟨(some 9), .len false (.t 8), none, false, []⟩,
    ⟨(some 10), .bin .none .neq (.t 7) (.t 9), none, false, []⟩] none [0, 1, 10])
  (.cond (.t 10)
    (.seq (.ops [⟨(some 4), .mov (.c (.bool false)), none, false, []⟩] none [4])
    .ret)
    .skip))
  (.seq (.seq (.ops [⟨(some 5), .mov (.c (.int .i64 0)), none, false, []⟩] none [0, 1, 5])
  (.block 0 (.loop [0, 1] [5] 0
    (.seq (.seq (.ops [⟨(some 11), .mov (.t 5), none, false, []⟩,
      ⟨(some 12), .mov (.t 0), none, false, []⟩,
      ⟨(some 13), .len false (.t 12), none, false, []⟩,
      ⟨(some 14), .bin .none .lss (.t 11) (.t 13), none, false, []⟩] none [0, 1, 5, 14])
    (.cond (.t 14)
      .skip
      (.exit 0)))
    (.seq (.block 1 (.seq (.ops [⟨(some 17), .mov (.t 0), none, false, []⟩,
      ⟨(some 18), .mov (.t 5), none, false, []⟩,
      ⟨(some 19), .iaddr 1 none (.t 17) (.t 18), none, false, []⟩,
      ⟨(some 20), .load 1 false (.t 19), none, false, []⟩,
      ⟨(some 21), .mov (.t 1), none, false, []⟩,
      ⟨(some 22), .mov (.t 5), none, false, []⟩,
      ⟨(some 23), .iaddr 1 none (.t 21) (.t 22), none, false, []⟩,
      ⟨(some 24), .load 1 false (.t 23), none, false, []⟩,
      ⟨(some 25), .bin .none .neq (.t 20) (.t 24), none, false, []⟩] (some (0, 0, [0, 1, 2, 3, 4, 5, 6, 7, 8])) [0, 1, 5, 25])
    (.cond (.t 25)
      (.seq (.ops [⟨(some 4), .mov (.c (.bool false)), none, false, []⟩] none [4])
      .ret)
      .skip)))
    (.ops [⟨(some 15), .mov (.t 5), none, false, []⟩,
      ⟨(some 16), .bin .none .add (.t 15) (.c (.int .i64 1)), none, false, []⟩,
      ⟨(some 5), .mov (.t 16), none, false, []⟩] none [0, 1, 5]))))))
  (.seq (.ops [⟨(some 4), .mov (.c (.bool true)), none, false, []⟩] none [4])
  .ret))))
def law_sameCodes_r : List RRes := [.tmp 4]
def law_sameCodes_hi : Hi := ⟨[], [(0, "a"), (1, "b"), (2, "a"), (3, "b"), (5, "i")]⟩
def law_sameCodes_an : An := (.seq .d (.seq .d (.seq (.seq .d (.loop [] [] [] .d)) .d)))
def law_sameCodes_fi : Fi := ⟨26, law_sameCodes_c, law_sameCodes_r, law_sameCodes_an, law_sameCodes_hi, none⟩
theorem law_sameCodes_ok : FiOk Try.prog f_law_sameCodes law_sameCodes_fi :=
  ⟨fun _ => by kernel_rfl, fun _ h hlen => fun_sound (by kernel_rfl) (fn := Try.f7) (draw_sound _ _) Try.func7 rfl (by kernel_rfl : comp Try.prog 26 _ law_sameCodes_c = some law_sameCodes_c) (by kernel_rfl : cRes Try.prog Try.f7.results.toList = some law_sameCodes_r) hlen h, fun _ h => nomatch h⟩

/-- fustian/fustianlaw.RopePlays: slots [0 l, 1 l, 3 x, 4 c, 5 e, 6 y, 7 d, 8 f] -/
def law_RopePlays_c : SCode :=
  (.seq (.ops [⟨(some 2), .mov (.c (.bool false)), none, false, []⟩] none [0])
  (.seq (.ops [⟨(some 10), .mov (.t 0), none, false, []⟩,
    ⟨(some 11), .call f_rope_Play [(.t 10)], none, false, []⟩,
    ⟨(some 9), .mov (.t 11), none, false, []⟩,
    ⟨(some 12), .extract (.t 9) 0, none, false, []⟩,
    ⟨(some 13), .extract (.t 9) 1, none, false, []⟩,
    ⟨(some 14), .extract (.t 9) 2, none, false, []⟩,
    ⟨(some 3), .mov (.t 12), none, false, []⟩,
    ⟨(some 4), .mov (.t 13), none, false, []⟩,
    ⟨(some 5), .mov (.t 14), none, false, []⟩] none [0, 3, 4, 5])
  (.seq (.ops [⟨(some 16), .mov (.t 0), none, false, []⟩,
    ⟨(some 17), .call f_ref_RopePlayed [(.t 16)], none, false, []⟩,
    ⟨(some 15), .mov (.t 17), none, false, []⟩,
    ⟨(some 18), .extract (.t 15) 0, none, false, []⟩,
    ⟨(some 19), .extract (.t 15) 1, none, false, []⟩,
    ⟨(some 20), .extract (.t 15) 2, none, false, []⟩,
    ⟨(some 6), .mov (.t 18), none, false, []⟩,
    ⟨(some 7), .mov (.t 19), none, false, []⟩,
    ⟨(some 8), .mov (.t 20), none, false, []⟩] none [3, 4, 5, 6, 7, 8])
  (.seq (.ops [⟨(some 21), .mov (.t 3), none, false, []⟩,
    ⟨(some 22), .mov (.t 6), none, false, []⟩,
    ⟨(some 23), .call f_law_sameTexts [(.t 21), (.t 22)], none, false, []⟩,
    ⟨(some 24), .mov (.t 23), none, true, []⟩,
    ⟨(some 25), .mov (.t 4), (some (24, true)), false, []⟩,
    ⟨(some 26), .mov (.t 7), (some (24, true)), false, []⟩,
    ⟨(some 27), .call f_law_sameCodes [(.t 25), (.t 26)], (some (24, true)), false, []⟩,
    ⟨(some 28), .pick (.t 24) (.t 27) (.c (.bool false)), none, false, []⟩,
    ⟨(some 29), .mov (.t 28), none, true, []⟩,
    ⟨(some 30), .mov (.t 5), (some (29, true)), false, []⟩,
    ⟨(some 31), .mov (.t 8), (some (29, true)), false, []⟩,
    ⟨(some 32), .bin .none .eql (.t 30) (.t 31), (some (29, true)), false, []⟩,
    ⟨(some 33), .pick (.t 29) (.t 32) (.c (.bool false)), none, false, []⟩,
    ⟨(some 2), .mov (.t 33), none, false, []⟩] none [2])
  .ret))))
def law_RopePlays_r : List RRes := [.tmp 2]
def law_RopePlays_hi : Hi := ⟨[], [(0, "l"), (1, "l"), (3, "x"), (4, "c"), (5, "e"), (6, "y"), (7, "d"), (8, "f")]⟩
def law_RopePlays_an : An := .d
def law_RopePlays_fi : Fi := ⟨34, law_RopePlays_c, law_RopePlays_r, law_RopePlays_an, law_RopePlays_hi, none⟩
theorem law_RopePlays_ok : FiOk Try.prog f_law_RopePlays law_RopePlays_fi :=
  ⟨fun _ => by kernel_rfl, fun _ h hlen => fun_sound (by kernel_rfl) (fn := Try.f3) (draw_sound _ _) Try.func3 rfl (by kernel_rfl : comp Try.prog 34 _ law_RopePlays_c = some law_RopePlays_c) (by kernel_rfl : cRes Try.prog Try.f3.results.toList = some law_RopePlays_r) hlen h, fun _ h => nomatch h⟩

/-- strings.Count: slots [0 s, 1 substr, 2 s, 3 substr, 5 n, 6 i] -/
def strings_Count_c : SCode :=
  (.seq (.ops [⟨(some 4), .mov (.c (.int .i64 0)), none, false, []⟩] none [0, 1])
  (.seq (.seq (.ops [⟨(some 7), .mov (.t 1), none, false, []⟩,
    ⟨(some 8), .len true (.t 7), none, false, []⟩,
    ⟨(some 9), .bin .none .eql (.t 8) (.c (.int .i64 0)), none, false, []⟩] none [0, 1, 9])
  (.cond (.t 9)
    (.seq (.ops [⟨(some 10), .mov (.t 0), none, false, []⟩,
      ⟨(some 11), .call f_unicode_utf8_RuneCountInString [(.t 10)], none, false, []⟩,
      ⟨(some 12), .bin .none .add (.t 11) (.c (.int .i64 1)), none, false, []⟩,
      ⟨(some 4), .mov (.t 12), none, false, []⟩] none [4])
    .ret)
    .skip))
  (.seq (.seq (.ops [⟨(some 13), .mov (.t 1), none, false, []⟩,
    ⟨(some 14), .len true (.t 13), none, false, []⟩,
    ⟨(some 15), .bin .none .eql (.t 14) (.c (.int .i64 1)), none, false, []⟩] none [0, 1, 15])
  (.cond (.t 15)
    (.seq (.ops [⟨(some 16), .mov (.t 0), none, false, []⟩,
      ⟨(some 17), .mov (.t 1), none, false, []⟩,
      ⟨(some 18), .index 1 none false (.t 17) (.c (.int .i64 0)), none, false, []⟩,
      ⟨(some 19), .ext .cnt [(.t 16), (.t 18)], none, false, []⟩,
      ⟨(some 4), .mov (.t 19), none, false, []⟩] none [4])
    .ret)
    .skip))
  (.seq (.ops [⟨(some 5), .mov (.c (.int .i64 0)), none, false, []⟩] none [0, 1, 5])
  (.block 0 (.loop [1] [0, 5] 0
    (.block 1 (.seq (.ops [⟨(some 20), .mov (.t 0), none, false, []⟩,
      ⟨(some 21), .mov (.t 1), none, false, []⟩,
      ⟨(some 22), .call f_strings_Index [(.t 20), (.t 21)], none, false, []⟩,
      ⟨(some 6), .mov (.t 22), none, false, []⟩] none [0, 1, 5, 6])
    (.seq (.seq (.ops [⟨(some 23), .mov (.t 6), none, false, []⟩,
      ⟨(some 24), .bin .none .eql (.t 23) (.c (.int .i64 (-1))), none, false, []⟩] none [0, 1, 5, 6, 24])
    (.cond (.t 24)
      (.seq (.ops [⟨(some 25), .mov (.t 5), none, false, []⟩,
        ⟨(some 4), .mov (.t 25), none, false, []⟩] none [4])
      .ret)
      .skip))
    (.seq (.ops [⟨(some 26), .mov (.t 5), none, false, []⟩,
      ⟨(some 27), .bin .none .add (.t 26) (.c (.int .i64 1)), none, false, []⟩,
      ⟨(some 5), .mov (.t 27), none, false, []⟩] none [0, 1, 5, 6])
    (.ops [⟨(some 28), .mov (.t 0), none, false, []⟩,
      ⟨(some 29), .mov (.t 6), none, false, []⟩,
      ⟨(some 30), .mov (.t 1), none, false, []⟩,
      ⟨(some 31), .len true (.t 30), none, false, []⟩,
      ⟨(some 32), .bin .none .add (.t 29) (.t 31), none, false, []⟩,
      ⟨(some 33), .slice 0 (.t 28) (some (.t 32)) none, none, false, []⟩,
      ⟨(some 0), .mov (.t 33), none, false, []⟩] none [0, 1, 5])))))))))))
def strings_Count_r : List RRes := [.tmp 4]
def strings_Count_hi : Hi := ⟨[], [(0, "s"), (1, "substr"), (2, "s"), (3, "substr"), (5, "n"), (6, "i")]⟩
def strings_Count_an : An := (.seq .d (.seq .d (.seq .d (.seq .d (.loop [] [] [] .d)))))
def strings_Count_fi : Fi := ⟨34, strings_Count_c, strings_Count_r, strings_Count_an, strings_Count_hi, none⟩
theorem strings_Count_ok : FiOk Try.prog f_strings_Count strings_Count_fi :=
  ⟨fun _ => by kernel_rfl, fun _ h hlen => fun_sound (by kernel_rfl) (fn := Try.f30) (draw_sound _ _) Try.func30 rfl (by kernel_rfl : comp Try.prog 34 _ strings_Count_c = some strings_Count_c) (by kernel_rfl : cRes Try.prog Try.f30.results.toList = some strings_Count_r) hlen h, fun _ h => nomatch h⟩

/-- strings.LastIndexByte: slots [0 s, 1 c, 2 s, 3 c] -/
def strings_LastIndexByte_c : SCode :=
  (.seq (.ops [⟨(some 4), .mov (.c (.int .i64 0)), none, false, []⟩] none [0, 1])
  (.seq (.ops [⟨(some 5), .mov (.t 0), none, false, []⟩,
    ⟨(some 6), .mov (.t 1), none, false, []⟩,
    ⟨(some 7), .call f_internal_bytealg_LastIndexByteString [(.t 5), (.t 6)], none, false, []⟩,
    ⟨(some 4), .mov (.t 7), none, false, []⟩] none [4])
  .ret))
def strings_LastIndexByte_r : List RRes := [.tmp 4]
def strings_LastIndexByte_hi : Hi := ⟨[], [(0, "s"), (1, "c"), (2, "s"), (3, "c")]⟩
def strings_LastIndexByte_an : An := .d
def strings_LastIndexByte_fi : Fi := ⟨8, strings_LastIndexByte_c, strings_LastIndexByte_r, strings_LastIndexByte_an, strings_LastIndexByte_hi, none⟩
theorem strings_LastIndexByte_ok : FiOk Try.prog f_strings_LastIndexByte strings_LastIndexByte_fi :=
  ⟨fun _ => by kernel_rfl, fun _ h hlen => fun_sound (by kernel_rfl) (fn := Try.f31) (draw_sound _ _) Try.func31 rfl (by kernel_rfl : comp Try.prog 8 _ strings_LastIndexByte_c = some strings_LastIndexByte_c) (by kernel_rfl : cRes Try.prog Try.f31.results.toList = some strings_LastIndexByte_r) hlen h, fun _ h => nomatch h⟩

/-- internal/bytealg.LastIndexByteString: slots [0 s, 1 c, 2 s, 3 c, 5 i] -/
def internal_bytealg_LastIndexByteString_c : SCode :=
  (.seq (.ops [⟨(some 4), .mov (.c (.int .i64 0)), none, false, []⟩] none [0, 1])
  (.seq (.seq (.ops [⟨(some 6), .mov (.t 0), none, false, []⟩,
    ⟨(some 7), .len true (.t 6), none, false, []⟩,
    ⟨(some 8), .bin .none .sub (.t 7) (.c (.int .i64 1)), none, false, []⟩,
    ⟨(some 5), .mov (.t 8), none, false, []⟩] none [0, 1, 5])
  (.block 0 (.loop [0, 1] [5] 0
    (.seq (.seq (.ops [⟨(some 9), .mov (.t 5), none, false, []⟩,
      ⟨(some 10), .bin .none .geq (.t 9) (.c (.int .i64 0)), none, false, []⟩] none [0, 1, 5, 10])
    (.cond (.t 10)
      .skip
      (.exit 0)))
    (.seq (.block 1 (.seq (.ops [⟨(some 13), .mov (.t 0), none, false, []⟩,
      ⟨(some 14), .mov (.t 5), none, false, []⟩,
      ⟨(some 15), .index 1 none false (.t 13) (.t 14), none, false, []⟩,
      ⟨(some 16), .mov (.t 1), none, false, []⟩,
      ⟨(some 17), .bin .none .eql (.t 15) (.t 16), none, false, []⟩] none [0, 1, 5, 17])
    (.cond (.t 17)
      (.seq (.ops [⟨(some 18), .mov (.t 5), none, false, []⟩,
        ⟨(some 4), .mov (.t 18), none, false, []⟩] none [4])
      .ret)
      .skip)))
    (.ops [⟨(some 11), .mov (.t 5), none, false, []⟩,
      ⟨(some 12), .bin .none .sub (.t 11) (.c (.int .i64 1)), none, false, []⟩,
      ⟨(some 5), .mov (.t 12), none, false, []⟩] none [0, 1, 5]))))))
  (.seq (.ops [⟨(some 4), .mov (.c (.int .i64 (-1))), none, false, []⟩] none [4])
  .ret)))
def internal_bytealg_LastIndexByteString_r : List RRes := [.tmp 4]
def internal_bytealg_LastIndexByteString_hi : Hi := ⟨[], [(0, "s"), (1, "c"), (2, "s"), (3, "c"), (5, "i")]⟩
def internal_bytealg_LastIndexByteString_an : An := (.seq .d (.seq (.seq .d (.loop [] [] [] .d)) .d))
def internal_bytealg_LastIndexByteString_fi : Fi := ⟨19, internal_bytealg_LastIndexByteString_c, internal_bytealg_LastIndexByteString_r, internal_bytealg_LastIndexByteString_an, internal_bytealg_LastIndexByteString_hi, none⟩
theorem internal_bytealg_LastIndexByteString_ok : FiOk Try.prog f_internal_bytealg_LastIndexByteString internal_bytealg_LastIndexByteString_fi :=
  ⟨fun _ => by kernel_rfl, fun _ h hlen => fun_sound (by kernel_rfl) (fn := Try.f37) (draw_sound _ _) Try.func37 rfl (by kernel_rfl : comp Try.prog 19 _ internal_bytealg_LastIndexByteString_c = some internal_bytealg_LastIndexByteString_c) (by kernel_rfl : cRes Try.prog Try.f37.results.toList = some internal_bytealg_LastIndexByteString_r) hlen h, fun _ h => nomatch h⟩

end Go.Proofs.Ytgiglabejffciaa
