/- The functions' simplified code, printed by a program of the claim's author; each is checked against the program's own code. Conditions: none. -/
import Derived.Test.YtgiglabejffciaaProg
import Derived.Test.YtgiglabejffciaaVyM
set_option linter.unusedVariables false
set_option maxRecDepth 100000
namespace Go.Proofs.Ytgiglabejffciaa.H
open Go.Vc
abbrev f_gosem_cut_init : Nat := 2
abbrev f_law_RopePlays : Nat := 3
abbrev f_rope_Play : Nat := 4
abbrev f_ref_RopePlayed : Nat := 5
abbrev f_law_sameTexts : Nat := 6
abbrev f_law_sameCodes : Nat := 7
abbrev f_rope_play : Nat := 8
abbrev f___rope_Rope__String : Nat := 9
abbrev f_ref_RopePlayed_1 : Nat := 10
abbrev f___rope_maker__do : Nat := 11
abbrev f___rope_Rope__Len : Nat := 12
abbrev f___rope_Rope__Leaves : Nat := 13
abbrev f___rope_maker__fault : Nat := 14
abbrev f___rope_maker__length : Nat := 15
abbrev f___rope_maker__make : Nat := 16
abbrev f___rope_Rope__Leaves_1 : Nat := 17
abbrev f___rope_Rope__each : Nat := 18
abbrev f___rope_maker__there : Nat := 19
abbrev f_rope_New : Nat := 20
abbrev f_rope_Join : Nat := 21
abbrev f_rope_Split : Nat := 22
abbrev f_rope_leaf : Nat := 23
abbrev f_rope_node : Nat := 24
abbrev f_rope_balanced : Nat := 25
abbrev f_pos_Of : Nat := 26
abbrev f_poly_Of : Nat := 27
abbrev f_pos_Join : Nat := 28
abbrev f_poly_Join : Nat := 29
abbrev f_strings_Count : Nat := 30
abbrev f_strings_LastIndexByte : Nat := 31
abbrev f_pos_May : Nat := 32
abbrev f_poly_May : Nat := 33
abbrev f_unicode_utf8_RuneCountInString : Nat := 34
abbrev f_strings_Index : Nat := 36
abbrev f_internal_bytealg_LastIndexByteString : Nat := 37
abbrev f_internal_stringslite_Index : Nat := 38
abbrev f_internal_stringslite_IndexByte : Nat := 39
abbrev f_internal_bytealg_Cutover : Nat := 41
abbrev f_internal_bytealg_IndexRabinKarp_string_ : Nat := 42
abbrev f_internal_bytealg_hashStr_string_ : Nat := 44

/-- fustian/rope.leaf: slots [0 s, 1 s] -/
def rope_leaf_c : SCode :=
  (.seq (.ops [⟨(some 2), .mov (.c .nilp), none, false, []⟩] none [0])
  (.seq (.ops [⟨(some 3), .mov (.t 0), none, false, []⟩,
    ⟨(some 4), .mov (.t 0), none, false, []⟩,
    ⟨(some 5), .call f_pos_Of [(.t 4)], none, false, []⟩,
    ⟨(some 6), .mov (.t 0), none, false, []⟩,
    ⟨(some 7), .call f_poly_Of [(.t 6)], none, false, []⟩,
    ⟨(some 8), .build [(.str []), .nilp, (.int .i64 0), (.int .i64 0), (.int .i64 0), (.int .i64 0), (.int .i64 0), (.int .i64 0)] [(0, 1, (.t 3)), (2, 1, (.c (.int .i64 1))), (3, 3, (.t 5)), (6, 2, (.t 7))], none, false, []⟩,
    ⟨(some 9), .box 0 (.t 8), none, false, []⟩,
    ⟨(some 2), .mov (.t 9), none, false, []⟩] none [2])
  .ret))
def rope_leaf_r : List RRes := [.tmp 2]
def rope_leaf_hi : Hi := ⟨[], [(0, "s"), (1, "s")]⟩
def rope_leaf_an : An := .d
def rope_leaf_fi : Fi := ⟨10, rope_leaf_c, rope_leaf_r, rope_leaf_an, rope_leaf_hi, none⟩
theorem rope_leaf_ok : FiOk Try.prog f_rope_leaf rope_leaf_fi :=
  ⟨fun _ => by kernel_rfl, fun _ h hlen => fun_sound (by kernel_rfl) (fn := Try.f23) (draw_sound _ _) Try.func23 rfl (by kernel_rfl : comp Try.prog 10 _ rope_leaf_c = some rope_leaf_c) (by kernel_rfl : cRes Try.prog Try.f23.results.toList = some rope_leaf_r) hlen h, fun _ h => nomatch h⟩

/-- fustian/rope.node: slots [0 a, 1 b, 2 a, 3 b, 5 n] -/
def rope_node_c : SCode :=
  (.seq (.ops [⟨(some 4), .mov (.c .nilp), none, false, []⟩] none [0, 1])
  (.seq (.ops [⟨(some 6), .mov (.t 0), none, false, []⟩,
    ⟨(some 7), .mov (.t 1), none, false, []⟩,
    ⟨(some 8), .build [.nilp, .nilp] [(0, 1, (.t 6)), (1, 1, (.t 7))], none, false, []⟩,
    ⟨(some 10), .mov (.t 0), none, false, []⟩,
    ⟨(some 11), .nilchk (.t 10), none, false, []⟩,
    ⟨(some 12), .faddr 2 (.t 11), none, false, []⟩,
    ⟨(some 13), .load 1 false (.t 12), none, false, []⟩,
    ⟨(some 14), .mov (.t 1), none, false, []⟩,
    ⟨(some 15), .nilchk (.t 14), none, false, []⟩,
    ⟨(some 16), .faddr 2 (.t 15), none, false, []⟩,
    ⟨(some 17), .load 1 false (.t 16), none, false, []⟩,
    ⟨(some 18), .max [(.t 13), (.t 17)], none, false, []⟩,
    ⟨(some 19), .bin .none .add (.t 18) (.c (.int .i64 1)), none, false, []⟩,
    ⟨(some 9), .box 1 (.t 8), none, false, []⟩,
    ⟨(some 20), .build [(.str []), .nilp, (.int .i64 0), (.int .i64 0), (.int .i64 0), (.int .i64 0), (.int .i64 0), (.int .i64 0)] [(1, 1, (.t 9)), (2, 1, (.t 19))], none, false, []⟩,
    ⟨(some 21), .box 0 (.t 20), none, false, []⟩,
    ⟨(some 5), .mov (.t 21), none, false, []⟩] (some (0, 0, [0, 1, 2, 4, 5, 6, 7, 8, 9, 10, 11, 12, 13, 3, 14, 15, 16])) [0, 1, 5])
  (.seq (.ops [⟨(some 23), .mov (.t 5), none, false, []⟩,
    ⟨(some 24), .mov (.t 0), none, false, []⟩,
    ⟨(some 25), .nilchk (.t 24), none, false, []⟩,
    ⟨(some 26), .faddr 3 (.t 25), none, false, []⟩,
    ⟨(some 27), .load 3 true (.t 26), none, false, []⟩,
    ⟨(some 28), .mov (.t 1), none, false, []⟩,
    ⟨(some 29), .nilchk (.t 28), none, false, []⟩,
    ⟨(some 30), .faddr 3 (.t 29), none, false, []⟩,
    ⟨(some 31), .load 3 true (.t 30), none, false, []⟩,
    ⟨(some 32), .call f_pos_Join [(.t 27), (.t 31)], none, false, []⟩,
    ⟨(some 22), .mov (.t 32), none, false, []⟩,
    ⟨(some 33), .extract (.t 22) 0, none, false, []⟩,
    ⟨(some 34), .extract (.t 22) 1, none, false, []⟩,
    ⟨(some 35), .nilchk (.t 23), none, false, []⟩,
    ⟨(some 36), .faddr 3 (.t 35), none, false, []⟩,
    ⟨none, .store 3 (.t 36) (.t 33), none, false, []⟩] (some (0, 0, [0, 1, 2, 3, 4, 5, 6, 7, 8, 9, 10, 11, 12, 13, 14, 15])) [0, 1, 5])
  (.seq (.ops [⟨(some 38), .mov (.t 5), none, false, []⟩,
    ⟨(some 39), .mov (.t 0), none, false, []⟩,
    ⟨(some 40), .nilchk (.t 39), none, false, []⟩,
    ⟨(some 41), .faddr 6 (.t 40), none, false, []⟩,
    ⟨(some 42), .load 2 true (.t 41), none, false, []⟩,
    ⟨(some 43), .mov (.t 1), none, false, []⟩,
    ⟨(some 44), .nilchk (.t 43), none, false, []⟩,
    ⟨(some 45), .faddr 6 (.t 44), none, false, []⟩,
    ⟨(some 46), .load 2 true (.t 45), none, false, []⟩,
    ⟨(some 47), .call f_poly_Join [(.t 42), (.t 46)], none, false, []⟩,
    ⟨(some 37), .mov (.t 47), none, false, []⟩,
    ⟨(some 48), .extract (.t 37) 0, none, false, []⟩,
    ⟨(some 49), .extract (.t 37) 1, none, false, []⟩,
    ⟨(some 50), .nilchk (.t 38), none, false, []⟩,
    ⟨(some 51), .faddr 6 (.t 50), none, false, []⟩,
    ⟨none, .store 2 (.t 51) (.t 48), none, false, []⟩] (some (0, 0, [0, 1, 2, 3, 4, 5, 6, 7, 8, 9, 10, 11, 12, 13, 14, 15])) [5])
  (.seq (.ops [⟨(some 52), .mov (.t 5), none, false, []⟩,
    ⟨(some 4), .mov (.t 52), none, false, []⟩] none [4])
  .ret)))))
def rope_node_r : List RRes := [.tmp 4]
def rope_node_hi : Hi := ⟨[], [(0, "a"), (1, "b"), (2, "a"), (3, "b"), (5, "n")]⟩
def rope_node_an : An := .d
def rope_node_fi : Fi := ⟨53, rope_node_c, rope_node_r, rope_node_an, rope_node_hi, none⟩
theorem rope_node_ok : FiOk Try.prog f_rope_node rope_node_fi :=
  ⟨fun _ => by kernel_rfl, fun _ h hlen => fun_sound (by kernel_rfl) (fn := Try.f24) (draw_sound _ _) Try.func24 rfl (by kernel_rfl : comp Try.prog 53 _ rope_node_c = some rope_node_c) (by kernel_rfl : cRes Try.prog Try.f24.results.toList = some rope_node_r) hlen h, fun _ h => nomatch h⟩

/-- fustian/rope.New: slots [0 s, 1 s, 3 m] -/
def rope_New_c : SCode :=
  (.seq (.ops [⟨(some 2), .mov (.c .nilp), none, false, []⟩] none [0])
  (.seq (.block 0 (.seq (.ops [⟨(some 5), .mov (.t 0), none, false, []⟩,
    ⟨(some 6), .bin .none .eql (.t 5) (.c (.str [])), none, false, []⟩,
    ⟨(some 4), .mov (.t 6), none, false, []⟩] none [0, 4])
  (.cond (.t 4)
    (.seq (.ops [⟨(some 2), .mov (.c .nilp), none, false, []⟩] none [2])
    .ret)
    (.seq (.ops [⟨(some 8), .mov (.t 0), none, false, []⟩,
      ⟨(some 9), .len true (.t 8), none, false, []⟩,
      ⟨(some 10), .bin .none .leq (.t 9) (.c (.int .i64 8)), none, false, []⟩,
      ⟨(some 7), .mov (.t 10), none, false, []⟩] none [0, 7])
    (.cond (.t 7)
      (.seq (.ops [⟨(some 11), .mov (.t 0), none, false, []⟩,
        ⟨(some 12), .call f_rope_leaf [(.t 11)], none, false, []⟩,
        ⟨(some 2), .mov (.t 12), none, false, []⟩] none [2])
      .ret)
      .skip)))))
  (.seq (.ops [⟨(some 13), .mov (.t 0), none, false, []⟩,
    ⟨(some 14), .len true (.t 13), none, false, []⟩,
    ⟨(some 15), .bin .none .quo (.t 14) (.c (.int .i64 2)), none, false, []⟩,
    ⟨(some 3), .mov (.t 15), none, false, []⟩] none [0, 3])
  (.seq (.ops [⟨(some 16), .mov (.t 0), none, false, []⟩,
    ⟨(some 17), .mov (.t 3), none, false, []⟩,
    ⟨(some 18), .slice 0 (.t 16) none (some (.t 17)), none, false, []⟩,
    ⟨(some 20), .mov (.t 0), none, false, []⟩,
    ⟨(some 21), .mov (.t 3), none, false, []⟩,
    ⟨(some 22), .slice 0 (.t 20) (some (.t 21)) none, none, false, []⟩,
    ⟨(some 19), .call f_rope_New [(.t 18)], none, false, []⟩,
    ⟨(some 23), .call f_rope_New [(.t 22)], none, false, []⟩,
    ⟨(some 24), .call f_rope_node [(.t 19), (.t 23)], none, false, []⟩,
    ⟨(some 2), .mov (.t 24), none, false, []⟩] (some (0, 0, [0, 1, 2, 4, 5, 6, 3, 7, 8, 9])) [2])
  .ret))))
def rope_New_r : List RRes := [.tmp 2]
def rope_New_hi : Hi := ⟨[], [(0, "s"), (1, "s"), (3, "m")]⟩
def rope_New_an : An := .d
def rope_New_fi : Fi := ⟨25, rope_New_c, rope_New_r, rope_New_an, rope_New_hi, none⟩
theorem rope_New_ok : FiOk Try.prog f_rope_New rope_New_fi :=
  ⟨fun _ => by kernel_rfl, fun _ h hlen => fun_sound (by kernel_rfl) (fn := Try.f20) (draw_sound _ _) Try.func20 rfl (by kernel_rfl : comp Try.prog 25 _ rope_New_c = some rope_New_c) (by kernel_rfl : cRes Try.prog Try.f20.results.toList = some rope_New_r) hlen h, fun _ h => nomatch h⟩

/-- fustian/rope.balanced: slots [0 a, 1 b, 2 a, 3 b, 5 x, 6 y, 7 x, 8 y] -/
def rope_balanced_c : SCode :=
  (.seq (.ops [⟨(some 4), .mov (.c .nilp), none, false, []⟩] none [0, 1])
  (.seq (.block 0 (.seq (.ops [⟨(some 10), .mov (.t 0), none, false, []⟩,
    ⟨(some 11), .nilchk (.t 10), none, false, []⟩,
    ⟨(some 12), .faddr 2 (.t 11), none, false, []⟩,
    ⟨(some 13), .load 1 false (.t 12), none, false, []⟩,
    ⟨(some 14), .mov (.t 1), none, false, []⟩,
    ⟨(some 15), .nilchk (.t 14), none, false, []⟩,
    ⟨(some 16), .faddr 2 (.t 15), none, false, []⟩,
    ⟨(some 17), .load 1 false (.t 16), none, false, []⟩,
    ⟨(some 18), .bin .none .add (.t 17) (.c (.int .i64 1)), none, false, []⟩,
    ⟨(some 19), .bin .none .gtr (.t 13) (.t 18), none, false, []⟩,
    ⟨(some 9), .mov (.t 19), none, false, []⟩] (some (0, 0, [0, 1, 2, 3, 4, 5, 6, 7, 8, 9, 10])) [0, 1, 9])
  (.cond (.t 9)
    (.seq (.ops [⟨(some 20), .mov (.t 0), none, false, []⟩,
      ⟨(some 21), .nilchk (.t 20), none, false, []⟩,
      ⟨(some 22), .faddr 1 (.t 21), none, false, []⟩,
      ⟨(some 23), .load 1 false (.t 22), none, false, []⟩,
      ⟨(some 24), .nilchk (.t 23), none, false, []⟩,
      ⟨(some 25), .iaddr 1 (some 2) (.t 24) (.c (.int .i64 0)), none, false, []⟩,
      ⟨(some 26), .load 1 false (.t 25), none, false, []⟩,
      ⟨(some 27), .mov (.t 0), none, false, []⟩,
      ⟨(some 28), .nilchk (.t 27), none, false, []⟩,
      ⟨(some 29), .faddr 1 (.t 28), none, false, []⟩,
      ⟨(some 30), .load 1 false (.t 29), none, false, []⟩,
      ⟨(some 31), .nilchk (.t 30), none, false, []⟩,
      ⟨(some 32), .iaddr 1 (some 2) (.t 31) (.c (.int .i64 1)), none, false, []⟩,
      ⟨(some 33), .load 1 false (.t 32), none, false, []⟩,
      ⟨(some 5), .mov (.t 26), none, false, []⟩,
      ⟨(some 6), .mov (.t 33), none, false, []⟩] (some (0, 0, [0, 1, 2, 3, 4, 5, 6, 7, 8, 9, 10, 11, 12, 13, 14, 15])) [1, 5, 6])
    (.seq (.seq (.ops [⟨(some 34), .mov (.t 5), none, false, []⟩,
      ⟨(some 35), .nilchk (.t 34), none, false, []⟩,
      ⟨(some 36), .faddr 2 (.t 35), none, false, []⟩,
      ⟨(some 37), .load 1 false (.t 36), none, false, []⟩,
      ⟨(some 38), .mov (.t 6), none, false, []⟩,
      ⟨(some 39), .nilchk (.t 38), none, false, []⟩,
      ⟨(some 40), .faddr 2 (.t 39), none, false, []⟩,
      ⟨(some 41), .load 1 false (.t 40), none, false, []⟩,
      ⟨(some 42), .bin .none .geq (.t 37) (.t 41), none, false, []⟩] (some (0, 0, [0, 1, 2, 3, 4, 5, 6, 7, 8])) [1, 5, 6, 42])
    (.cond (.t 42)
      (.seq (.ops [⟨(some 43), .mov (.t 5), none, false, []⟩,
        ⟨(some 44), .mov (.t 6), none, false, []⟩,
        ⟨(some 45), .mov (.t 1), none, false, []⟩,
        ⟨(some 46), .call f_rope_node [(.t 44), (.t 45)], none, false, []⟩,
        ⟨(some 47), .call f_rope_node [(.t 43), (.t 46)], none, false, []⟩,
        ⟨(some 4), .mov (.t 47), none, false, []⟩] none [4])
      .ret)
      .skip))
    (.seq (.ops [⟨(some 48), .mov (.t 5), none, false, []⟩,
      ⟨(some 49), .mov (.t 6), none, false, []⟩,
      ⟨(some 50), .nilchk (.t 49), none, false, []⟩,
      ⟨(some 51), .faddr 1 (.t 50), none, false, []⟩,
      ⟨(some 52), .load 1 false (.t 51), none, false, []⟩,
      ⟨(some 53), .nilchk (.t 52), none, false, []⟩,
      ⟨(some 54), .iaddr 1 (some 2) (.t 53) (.c (.int .i64 0)), none, false, []⟩,
      ⟨(some 55), .load 1 false (.t 54), none, false, []⟩,
      ⟨(some 57), .mov (.t 6), none, false, []⟩,
      ⟨(some 58), .nilchk (.t 57), none, false, []⟩,
      ⟨(some 59), .faddr 1 (.t 58), none, false, []⟩,
      ⟨(some 60), .load 1 false (.t 59), none, false, []⟩,
      ⟨(some 61), .nilchk (.t 60), none, false, []⟩,
      ⟨(some 62), .iaddr 1 (some 2) (.t 61) (.c (.int .i64 1)), none, false, []⟩,
      ⟨(some 63), .load 1 false (.t 62), none, false, []⟩,
      ⟨(some 64), .mov (.t 1), none, false, []⟩,
      ⟨(some 56), .call f_rope_node [(.t 48), (.t 55)], none, false, []⟩,
      ⟨(some 65), .call f_rope_node [(.t 63), (.t 64)], none, false, []⟩,
      ⟨(some 66), .call f_rope_node [(.t 56), (.t 65)], none, false, []⟩,
      ⟨(some 4), .mov (.t 66), none, false, []⟩] (some (17, 0, [0, 1, 2, 3, 4, 5, 6, 7, 9, 10, 11, 12, 13, 14, 15, 16, 8, 17, 18, 19])) [4])
    .ret)))
    (.seq (.ops [⟨(some 68), .mov (.t 1), none, false, []⟩,
      ⟨(some 69), .nilchk (.t 68), none, false, []⟩,
      ⟨(some 70), .faddr 2 (.t 69), none, false, []⟩,
      ⟨(some 71), .load 1 false (.t 70), none, false, []⟩,
      ⟨(some 72), .mov (.t 0), none, false, []⟩,
      ⟨(some 73), .nilchk (.t 72), none, false, []⟩,
      ⟨(some 74), .faddr 2 (.t 73), none, false, []⟩,
      ⟨(some 75), .load 1 false (.t 74), none, false, []⟩,
      ⟨(some 76), .bin .none .add (.t 75) (.c (.int .i64 1)), none, false, []⟩,
      ⟨(some 77), .bin .none .gtr (.t 71) (.t 76), none, false, []⟩,
      ⟨(some 67), .mov (.t 77), none, false, []⟩] (some (0, 0, [0, 1, 2, 3, 4, 5, 6, 7, 8, 9, 10])) [0, 1, 67])
    (.cond (.t 67)
      (.seq (.ops [⟨(some 78), .mov (.t 1), none, false, []⟩,
        ⟨(some 79), .nilchk (.t 78), none, false, []⟩,
        ⟨(some 80), .faddr 1 (.t 79), none, false, []⟩,
        ⟨(some 81), .load 1 false (.t 80), none, false, []⟩,
        ⟨(some 82), .nilchk (.t 81), none, false, []⟩,
        ⟨(some 83), .iaddr 1 (some 2) (.t 82) (.c (.int .i64 0)), none, false, []⟩,
        ⟨(some 84), .load 1 false (.t 83), none, false, []⟩,
        ⟨(some 85), .mov (.t 1), none, false, []⟩,
        ⟨(some 86), .nilchk (.t 85), none, false, []⟩,
        ⟨(some 87), .faddr 1 (.t 86), none, false, []⟩,
        ⟨(some 88), .load 1 false (.t 87), none, false, []⟩,
        ⟨(some 89), .nilchk (.t 88), none, false, []⟩,
        ⟨(some 90), .iaddr 1 (some 2) (.t 89) (.c (.int .i64 1)), none, false, []⟩,
        ⟨(some 91), .load 1 false (.t 90), none, false, []⟩,
        ⟨(some 7), .mov (.t 84), none, false, []⟩,
        ⟨(some 8), .mov (.t 91), none, false, []⟩] (some (0, 0, [0, 1, 2, 3, 4, 5, 6, 7, 8, 9, 10, 11, 12, 13, 14, 15])) [0, 7, 8])
      (.seq (.seq (.ops [⟨(some 92), .mov (.t 8), none, false, []⟩,
        ⟨(some 93), .nilchk (.t 92), none, false, []⟩,
        ⟨(some 94), .faddr 2 (.t 93), none, false, []⟩,
        ⟨(some 95), .load 1 false (.t 94), none, false, []⟩,
        ⟨(some 96), .mov (.t 7), none, false, []⟩,
        ⟨(some 97), .nilchk (.t 96), none, false, []⟩,
        ⟨(some 98), .faddr 2 (.t 97), none, false, []⟩,
        ⟨(some 99), .load 1 false (.t 98), none, false, []⟩,
        ⟨(some 100), .bin .none .geq (.t 95) (.t 99), none, false, []⟩] (some (0, 0, [0, 1, 2, 3, 4, 5, 6, 7, 8])) [0, 7, 8, 100])
      (.cond (.t 100)
        (.seq (.ops [⟨(some 101), .mov (.t 0), none, false, []⟩,
          ⟨(some 102), .mov (.t 7), none, false, []⟩,
          ⟨(some 103), .call f_rope_node [(.t 101), (.t 102)], none, false, []⟩,
          ⟨(some 104), .mov (.t 8), none, false, []⟩,
          ⟨(some 105), .call f_rope_node [(.t 103), (.t 104)], none, false, []⟩,
          ⟨(some 4), .mov (.t 105), none, false, []⟩] none [4])
        .ret)
        .skip))
      (.seq (.ops [⟨(some 106), .mov (.t 0), none, false, []⟩,
        ⟨(some 107), .mov (.t 7), none, false, []⟩,
        ⟨(some 108), .nilchk (.t 107), none, false, []⟩,
        ⟨(some 109), .faddr 1 (.t 108), none, false, []⟩,
        ⟨(some 110), .load 1 false (.t 109), none, false, []⟩,
        ⟨(some 111), .nilchk (.t 110), none, false, []⟩,
        ⟨(some 112), .iaddr 1 (some 2) (.t 111) (.c (.int .i64 0)), none, false, []⟩,
        ⟨(some 113), .load 1 false (.t 112), none, false, []⟩,
        ⟨(some 115), .mov (.t 7), none, false, []⟩,
        ⟨(some 116), .nilchk (.t 115), none, false, []⟩,
        ⟨(some 117), .faddr 1 (.t 116), none, false, []⟩,
        ⟨(some 118), .load 1 false (.t 117), none, false, []⟩,
        ⟨(some 119), .nilchk (.t 118), none, false, []⟩,
        ⟨(some 120), .iaddr 1 (some 2) (.t 119) (.c (.int .i64 1)), none, false, []⟩,
        ⟨(some 121), .load 1 false (.t 120), none, false, []⟩,
        ⟨(some 122), .mov (.t 8), none, false, []⟩,
        ⟨(some 114), .call f_rope_node [(.t 106), (.t 113)], none, false, []⟩,
        ⟨(some 123), .call f_rope_node [(.t 121), (.t 122)], none, false, []⟩,
        ⟨(some 124), .call f_rope_node [(.t 114), (.t 123)], none, false, []⟩,
        ⟨(some 4), .mov (.t 124), none, false, []⟩] (some (17, 0, [0, 1, 2, 3, 4, 5, 6, 7, 9, 10, 11, 12, 13, 14, 15, 16, 8, 17, 18, 19])) [4])
      .ret)))
      .skip)))))
  (.seq (.ops [⟨(some 125), .mov (.t 0), none, false, []⟩,
    ⟨(some 126), .mov (.t 1), none, false, []⟩,
    ⟨(some 127), .call f_rope_node [(.t 125), (.t 126)], none, false, []⟩,
    ⟨(some 4), .mov (.t 127), none, false, []⟩] none [4])
  .ret)))
def rope_balanced_r : List RRes := [.tmp 4]
def rope_balanced_hi : Hi := ⟨[], [(0, "a"), (1, "b"), (2, "a"), (3, "b"), (5, "x"), (6, "y"), (7, "x"), (8, "y")]⟩
def rope_balanced_an : An := .d
def rope_balanced_fi : Fi := ⟨128, rope_balanced_c, rope_balanced_r, rope_balanced_an, rope_balanced_hi, none⟩
theorem rope_balanced_ok : FiOk Try.prog f_rope_balanced rope_balanced_fi :=
  ⟨fun _ => by kernel_rfl, fun _ h hlen => fun_sound (by kernel_rfl) (fn := Try.f25) (draw_sound _ _) Try.func25 rfl (by kernel_rfl : comp Try.prog 128 _ rope_balanced_c = some rope_balanced_c) (by kernel_rfl : cRes Try.prog Try.f25.results.toList = some rope_balanced_r) hlen h, fun _ h => nomatch h⟩

/-- fustian/rope.Join: slots [0 a, 1 b, 2 a, 3 b] -/
def rope_Join_c : SCode :=
  (.seq (.ops [⟨(some 4), .mov (.c .nilp), none, false, []⟩] none [0, 1])
  (.seq (.block 0 (.seq (.ops [⟨(some 6), .mov (.t 0), none, false, []⟩,
    ⟨(some 7), .bin .ptr .eql (.t 6) (.c .nilp), none, false, []⟩,
    ⟨(some 5), .mov (.t 7), none, false, []⟩] none [0, 1, 5])
  (.cond (.t 5)
    (.seq (.ops [⟨(some 8), .mov (.t 1), none, false, []⟩,
      ⟨(some 4), .mov (.t 8), none, false, []⟩] none [4])
    .ret)
    (.seq (.ops [⟨(some 10), .mov (.t 1), none, false, []⟩,
      ⟨(some 11), .bin .ptr .eql (.t 10) (.c .nilp), none, false, []⟩,
      ⟨(some 9), .mov (.t 11), none, false, []⟩] none [0, 1, 9])
    (.cond (.t 9)
      (.seq (.ops [⟨(some 12), .mov (.t 0), none, false, []⟩,
        ⟨(some 4), .mov (.t 12), none, false, []⟩] none [4])
      .ret)
      (.seq (.ops [⟨(some 14), .mov (.t 0), none, false, []⟩,
        ⟨(some 15), .nilchk (.t 14), none, false, []⟩,
        ⟨(some 16), .faddr 1 (.t 15), none, false, []⟩,
        ⟨(some 17), .load 1 false (.t 16), none, false, []⟩,
        ⟨(some 18), .bin .ptr .eql (.t 17) (.c .nilp), none, false, []⟩,
        ⟨(some 19), .mov (.t 18), none, true, []⟩,
        ⟨(some 20), .mov (.t 1), (some (19, true)), false, []⟩,
        ⟨(some 21), .nilchk (.t 20), (some (19, true)), false, []⟩,
        ⟨(some 22), .faddr 1 (.t 21), (some (19, true)), false, []⟩,
        ⟨(some 23), .load 1 false (.t 22), (some (19, true)), false, []⟩,
        ⟨(some 24), .bin .ptr .eql (.t 23) (.c .nilp), (some (19, true)), false, []⟩,
        ⟨(some 25), .pick (.t 19) (.t 24) (.c (.bool false)), none, false, []⟩,
        ⟨(some 26), .mov (.t 25), none, true, []⟩,
        ⟨(some 27), .mov (.t 0), (some (26, true)), false, []⟩,
        ⟨(some 28), .nilchk (.t 27), (some (26, true)), false, []⟩,
        ⟨(some 29), .faddr 0 (.t 28), (some (26, true)), false, []⟩,
        ⟨(some 30), .load 1 false (.t 29), (some (26, true)), false, []⟩,
        ⟨(some 31), .len true (.t 30), (some (26, true)), false, []⟩,
        ⟨(some 32), .mov (.t 1), (some (26, true)), false, []⟩,
        ⟨(some 33), .nilchk (.t 32), (some (26, true)), false, []⟩,
        ⟨(some 34), .faddr 0 (.t 33), (some (26, true)), false, []⟩,
        ⟨(some 35), .load 1 false (.t 34), (some (26, true)), false, []⟩,
        ⟨(some 36), .len true (.t 35), (some (26, true)), false, []⟩,
        ⟨(some 37), .bin .none .add (.t 31) (.t 36), (some (26, true)), false, []⟩,
        ⟨(some 38), .bin .none .leq (.t 37) (.c (.int .i64 8)), (some (26, true)), false, []⟩,
        ⟨(some 39), .pick (.t 26) (.t 38) (.c (.bool false)), none, false, []⟩,
        ⟨(some 13), .mov (.t 39), none, false, []⟩] (some (0, 0, [0, 1, 2, 3, 4, 5, 6, 7, 8, 9, 10, 11, 12, 13, 14, 15, 16, 17, 18, 19, 20, 21, 22, 23, 24, 25, 26])) [0, 1, 13])
      (.cond (.t 13)
        (.seq (.ops [⟨(some 40), .mov (.t 0), none, false, []⟩,
          ⟨(some 41), .nilchk (.t 40), none, false, []⟩,
          ⟨(some 42), .faddr 0 (.t 41), none, false, []⟩,
          ⟨(some 43), .load 1 false (.t 42), none, false, []⟩,
          ⟨(some 44), .mov (.t 1), none, false, []⟩,
          ⟨(some 45), .nilchk (.t 44), none, false, []⟩,
          ⟨(some 46), .faddr 0 (.t 45), none, false, []⟩,
          ⟨(some 47), .load 1 false (.t 46), none, false, []⟩,
          ⟨(some 48), .bin .none .add (.t 43) (.t 47), none, false, []⟩,
          ⟨(some 49), .call f_rope_leaf [(.t 48)], none, false, []⟩,
          ⟨(some 4), .mov (.t 49), none, false, []⟩] (some (0, 0, [0, 1, 2, 3, 4, 5, 6, 7, 8, 9, 10])) [4])
        .ret)
        (.seq (.ops [⟨(some 51), .mov (.t 0), none, false, []⟩,
          ⟨(some 52), .nilchk (.t 51), none, false, []⟩,
          ⟨(some 53), .faddr 2 (.t 52), none, false, []⟩,
          ⟨(some 54), .load 1 false (.t 53), none, false, []⟩,
          ⟨(some 55), .mov (.t 1), none, false, []⟩,
          ⟨(some 56), .nilchk (.t 55), none, false, []⟩,
          ⟨(some 57), .faddr 2 (.t 56), none, false, []⟩,
          ⟨(some 58), .load 1 false (.t 57), none, false, []⟩,
          ⟨(some 59), .bin .none .add (.t 58) (.c (.int .i64 1)), none, false, []⟩,
          ⟨(some 60), .bin .none .gtr (.t 54) (.t 59), none, false, []⟩,
          ⟨(some 50), .mov (.t 60), none, false, []⟩] (some (0, 0, [0, 1, 2, 3, 4, 5, 6, 7, 8, 9, 10])) [0, 1, 50])
        (.cond (.t 50)
          (.seq (.ops [⟨(some 61), .mov (.t 0), none, false, []⟩,
            ⟨(some 62), .nilchk (.t 61), none, false, []⟩,
            ⟨(some 63), .faddr 1 (.t 62), none, false, []⟩,
            ⟨(some 64), .load 1 false (.t 63), none, false, []⟩,
            ⟨(some 65), .nilchk (.t 64), none, false, []⟩,
            ⟨(some 66), .iaddr 1 (some 2) (.t 65) (.c (.int .i64 0)), none, false, []⟩,
            ⟨(some 67), .load 1 false (.t 66), none, false, []⟩,
            ⟨(some 68), .mov (.t 0), none, false, []⟩,
            ⟨(some 69), .nilchk (.t 68), none, false, []⟩,
            ⟨(some 70), .faddr 1 (.t 69), none, false, []⟩,
            ⟨(some 71), .load 1 false (.t 70), none, false, []⟩,
            ⟨(some 72), .nilchk (.t 71), none, false, []⟩,
            ⟨(some 73), .iaddr 1 (some 2) (.t 72) (.c (.int .i64 1)), none, false, []⟩,
            ⟨(some 74), .load 1 false (.t 73), none, false, []⟩,
            ⟨(some 75), .mov (.t 1), none, false, []⟩,
            ⟨(some 76), .call f_rope_Join [(.t 74), (.t 75)], none, false, []⟩,
            ⟨(some 77), .call f_rope_balanced [(.t 67), (.t 76)], none, false, []⟩,
            ⟨(some 4), .mov (.t 77), none, false, []⟩] (some (16, 0, [0, 1, 2, 3, 4, 5, 6, 7, 8, 9, 10, 11, 12, 13, 14, 15, 16, 17])) [4])
          .ret)
          (.seq (.ops [⟨(some 79), .mov (.t 1), none, false, []⟩,
            ⟨(some 80), .nilchk (.t 79), none, false, []⟩,
            ⟨(some 81), .faddr 2 (.t 80), none, false, []⟩,
            ⟨(some 82), .load 1 false (.t 81), none, false, []⟩,
            ⟨(some 83), .mov (.t 0), none, false, []⟩,
            ⟨(some 84), .nilchk (.t 83), none, false, []⟩,
            ⟨(some 85), .faddr 2 (.t 84), none, false, []⟩,
            ⟨(some 86), .load 1 false (.t 85), none, false, []⟩,
            ⟨(some 87), .bin .none .add (.t 86) (.c (.int .i64 1)), none, false, []⟩,
            ⟨(some 88), .bin .none .gtr (.t 82) (.t 87), none, false, []⟩,
            ⟨(some 78), .mov (.t 88), none, false, []⟩] (some (0, 0, [0, 1, 2, 3, 4, 5, 6, 7, 8, 9, 10])) [0, 1, 78])
          (.cond (.t 78)
            (.seq (.ops [⟨(some 89), .mov (.t 0), none, false, []⟩,
              ⟨(some 90), .mov (.t 1), none, false, []⟩,
              ⟨(some 91), .nilchk (.t 90), none, false, []⟩,
              ⟨(some 92), .faddr 1 (.t 91), none, false, []⟩,
              ⟨(some 93), .load 1 false (.t 92), none, false, []⟩,
              ⟨(some 94), .nilchk (.t 93), none, false, []⟩,
              ⟨(some 95), .iaddr 1 (some 2) (.t 94) (.c (.int .i64 0)), none, false, []⟩,
              ⟨(some 96), .load 1 false (.t 95), none, false, []⟩,
              ⟨(some 98), .mov (.t 1), none, false, []⟩,
              ⟨(some 99), .nilchk (.t 98), none, false, []⟩,
              ⟨(some 100), .faddr 1 (.t 99), none, false, []⟩,
              ⟨(some 101), .load 1 false (.t 100), none, false, []⟩,
              ⟨(some 102), .nilchk (.t 101), none, false, []⟩,
              ⟨(some 103), .iaddr 1 (some 2) (.t 102) (.c (.int .i64 1)), none, false, []⟩,
              ⟨(some 104), .load 1 false (.t 103), none, false, []⟩,
              ⟨(some 97), .call f_rope_Join [(.t 89), (.t 96)], none, false, []⟩,
              ⟨(some 105), .call f_rope_balanced [(.t 97), (.t 104)], none, false, []⟩,
              ⟨(some 4), .mov (.t 105), none, false, []⟩] (some (16, 0, [0, 1, 2, 3, 4, 5, 6, 7, 9, 10, 11, 12, 13, 14, 15, 8, 16, 17])) [4])
            .ret)
            .skip)))))))))))
  (.seq (.ops [⟨(some 106), .mov (.t 0), none, false, []⟩,
    ⟨(some 107), .mov (.t 1), none, false, []⟩,
    ⟨(some 108), .call f_rope_node [(.t 106), (.t 107)], none, false, []⟩,
    ⟨(some 4), .mov (.t 108), none, false, []⟩] none [4])
  .ret)))
def rope_Join_r : List RRes := [.tmp 4]
def rope_Join_hi : Hi := ⟨[], [(0, "a"), (1, "b"), (2, "a"), (3, "b")]⟩
def rope_Join_an : An := .d
def rope_Join_fi : Fi := ⟨109, rope_Join_c, rope_Join_r, rope_Join_an, rope_Join_hi, none⟩
theorem rope_Join_ok : FiOk Try.prog f_rope_Join rope_Join_fi :=
  ⟨fun _ => by kernel_rfl, fun _ h hlen => fun_sound (by kernel_rfl) (fn := Try.f21) (draw_sound _ _) Try.func21 rfl (by kernel_rfl : comp Try.prog 109 _ rope_Join_c = some rope_Join_c) (by kernel_rfl : cRes Try.prog Try.f21.results.toList = some rope_Join_r) hlen h, fun _ h => nomatch h⟩

/-- fustian/rope.Split: slots [0 r, 1 at, 2 r, 3 at, 6 a, 7 b, 8 x, 9 y, 10 x, 11 y] -/
def rope_Split_c : SCode :=
  (.seq (.ops [⟨(some 4), .mov (.c .nilp), none, false, []⟩,
    ⟨(some 5), .mov (.c .nilp), none, false, []⟩] none [0, 1])
  (.seq (.block 0 (.seq (.ops [⟨(some 13), .mov (.t 1), none, false, []⟩,
    ⟨(some 14), .bin .none .leq (.t 13) (.c (.int .i64 0)), none, false, []⟩,
    ⟨(some 12), .mov (.t 14), none, false, []⟩] none [0, 1, 12])
  (.cond (.t 12)
    (.seq (.ops [⟨(some 15), .mov (.t 0), none, false, []⟩,
      ⟨(some 4), .mov (.c .nilp), none, false, []⟩,
      ⟨(some 5), .mov (.t 15), none, false, []⟩] none [4, 5])
    .ret)
    (.seq (.ops [⟨(some 17), .mov (.t 1), none, false, []⟩,
      ⟨(some 18), .mov (.t 0), none, false, []⟩,
      ⟨(some 19), .call f___rope_Rope__Len [(.t 18)], none, false, []⟩,
      ⟨(some 20), .bin .none .geq (.t 17) (.t 19), none, false, []⟩,
      ⟨(some 16), .mov (.t 20), none, false, []⟩] none [0, 1, 16])
    (.cond (.t 16)
      (.seq (.ops [⟨(some 21), .mov (.t 0), none, false, []⟩,
        ⟨(some 4), .mov (.t 21), none, false, []⟩,
        ⟨(some 5), .mov (.c .nilp), none, false, []⟩] none [4, 5])
      .ret)
      (.seq (.ops [⟨(some 23), .mov (.t 0), none, false, []⟩,
        ⟨(some 24), .nilchk (.t 23), none, false, []⟩,
        ⟨(some 25), .faddr 1 (.t 24), none, false, []⟩,
        ⟨(some 26), .load 1 false (.t 25), none, false, []⟩,
        ⟨(some 27), .bin .ptr .eql (.t 26) (.c .nilp), none, false, []⟩,
        ⟨(some 22), .mov (.t 27), none, false, []⟩] none [0, 1, 22])
      (.cond (.t 22)
        (.seq (.ops [⟨(some 28), .mov (.t 0), none, false, []⟩,
          ⟨(some 29), .nilchk (.t 28), none, false, []⟩,
          ⟨(some 30), .faddr 0 (.t 29), none, false, []⟩,
          ⟨(some 31), .load 1 false (.t 30), none, false, []⟩,
          ⟨(some 32), .mov (.t 1), none, false, []⟩,
          ⟨(some 33), .slice 0 (.t 31) none (some (.t 32)), none, false, []⟩,
          ⟨(some 35), .mov (.t 0), none, false, []⟩,
          ⟨(some 36), .nilchk (.t 35), none, false, []⟩,
          ⟨(some 37), .faddr 0 (.t 36), none, false, []⟩,
          ⟨(some 38), .load 1 false (.t 37), none, false, []⟩,
          ⟨(some 39), .mov (.t 1), none, false, []⟩,
          ⟨(some 40), .slice 0 (.t 38) (some (.t 39)) none, none, false, []⟩,
          ⟨(some 34), .call f_rope_leaf [(.t 33)], none, false, []⟩,
          ⟨(some 41), .call f_rope_leaf [(.t 40)], none, false, []⟩,
          ⟨(some 4), .mov (.t 34), none, false, []⟩,
          ⟨(some 5), .mov (.t 41), none, false, []⟩] (some (13, 0, [0, 1, 2, 3, 4, 5, 7, 8, 9, 10, 11, 12, 6, 13, 14, 15])) [4, 5])
        .ret)
        .skip)))))))
  (.seq (.ops [⟨(some 42), .mov (.t 0), none, false, []⟩,
    ⟨(some 43), .nilchk (.t 42), none, false, []⟩,
    ⟨(some 44), .faddr 1 (.t 43), none, false, []⟩,
    ⟨(some 45), .load 1 false (.t 44), none, false, []⟩,
    ⟨(some 46), .nilchk (.t 45), none, false, []⟩,
    ⟨(some 47), .iaddr 1 (some 2) (.t 46) (.c (.int .i64 0)), none, false, []⟩,
    ⟨(some 48), .load 1 false (.t 47), none, false, []⟩,
    ⟨(some 49), .mov (.t 0), none, false, []⟩,
    ⟨(some 50), .nilchk (.t 49), none, false, []⟩,
    ⟨(some 51), .faddr 1 (.t 50), none, false, []⟩,
    ⟨(some 52), .load 1 false (.t 51), none, false, []⟩,
    ⟨(some 53), .nilchk (.t 52), none, false, []⟩,
    ⟨(some 54), .iaddr 1 (some 2) (.t 53) (.c (.int .i64 1)), none, false, []⟩,
    ⟨(some 55), .load 1 false (.t 54), none, false, []⟩,
    ⟨(some 6), .mov (.t 48), none, false, []⟩,
    ⟨(some 7), .mov (.t 55), none, false, []⟩] (some (0, 0, [0, 1, 2, 3, 4, 5, 6, 7, 8, 9, 10, 11, 12, 13, 14, 15])) [1, 6, 7])
  (.seq (.seq (.ops [⟨(some 56), .mov (.t 1), none, false, []⟩,
    ⟨(some 57), .mov (.t 6), none, false, []⟩,
    ⟨(some 58), .call f___rope_Rope__Len [(.t 57)], none, false, []⟩,
    ⟨(some 59), .bin .none .leq (.t 56) (.t 58), none, false, []⟩] none [1, 6, 7, 59])
  (.cond (.t 59)
    (.seq (.ops [⟨(some 61), .mov (.t 6), none, false, []⟩,
      ⟨(some 62), .mov (.t 1), none, false, []⟩,
      ⟨(some 63), .call f_rope_Split [(.t 61), (.t 62)], none, false, []⟩,
      ⟨(some 60), .mov (.t 63), none, false, []⟩,
      ⟨(some 64), .extract (.t 60) 0, none, false, []⟩,
      ⟨(some 65), .extract (.t 60) 1, none, false, []⟩,
      ⟨(some 8), .mov (.t 64), none, false, []⟩,
      ⟨(some 9), .mov (.t 65), none, false, []⟩] none [7, 8, 9])
    (.seq (.ops [⟨(some 66), .mov (.t 8), none, false, []⟩,
      ⟨(some 67), .mov (.t 9), none, false, []⟩,
      ⟨(some 68), .mov (.t 7), none, false, []⟩,
      ⟨(some 69), .call f_rope_Join [(.t 67), (.t 68)], none, false, []⟩,
      ⟨(some 4), .mov (.t 66), none, false, []⟩,
      ⟨(some 5), .mov (.t 69), none, false, []⟩] none [4, 5])
    .ret))
    .skip))
  (.seq (.ops [⟨(some 71), .mov (.t 7), none, false, []⟩,
    ⟨(some 72), .mov (.t 1), none, false, []⟩,
    ⟨(some 73), .mov (.t 6), none, false, []⟩,
    ⟨(some 74), .call f___rope_Rope__Len [(.t 73)], none, false, []⟩,
    ⟨(some 75), .bin .none .sub (.t 72) (.t 74), none, false, []⟩,
    ⟨(some 76), .call f_rope_Split [(.t 71), (.t 75)], none, false, []⟩,
    ⟨(some 70), .mov (.t 76), none, false, []⟩,
    ⟨(some 77), .extract (.t 70) 0, none, false, []⟩,
    ⟨(some 78), .extract (.t 70) 1, none, false, []⟩,
    ⟨(some 10), .mov (.t 77), none, false, []⟩,
    ⟨(some 11), .mov (.t 78), none, false, []⟩] none [6, 10, 11])
  (.seq (.ops [⟨(some 79), .mov (.t 6), none, false, []⟩,
    ⟨(some 80), .mov (.t 10), none, false, []⟩,
    ⟨(some 81), .call f_rope_Join [(.t 79), (.t 80)], none, false, []⟩,
    ⟨(some 82), .mov (.t 11), none, false, []⟩,
    ⟨(some 4), .mov (.t 81), none, false, []⟩,
    ⟨(some 5), .mov (.t 82), none, false, []⟩] none [4, 5])
  .ret))))))
def rope_Split_r : List RRes := [.tmp 4, .tmp 5]
def rope_Split_hi : Hi := ⟨[], [(0, "r"), (1, "at"), (2, "r"), (3, "at"), (6, "a"), (7, "b"), (8, "x"), (9, "y"), (10, "x"), (11, "y")]⟩
def rope_Split_an : An := .d
def rope_Split_fi : Fi := ⟨83, rope_Split_c, rope_Split_r, rope_Split_an, rope_Split_hi, none⟩
theorem rope_Split_ok : FiOk Try.prog f_rope_Split rope_Split_fi :=
  ⟨fun _ => by kernel_rfl, fun _ h hlen => fun_sound (by kernel_rfl) (fn := Try.f22) (draw_sound _ _) Try.func22 rfl (by kernel_rfl : comp Try.prog 83 _ rope_Split_c = some rope_Split_c) (by kernel_rfl : cRes Try.prog Try.f22.results.toList = some rope_Split_r) hlen h, fun _ h => nomatch h⟩

/-- (*fustian/rope.Rope).Len: slots [0 r, 1 r] -/
def __rope_Rope__Len_c : SCode :=
  (.seq (.ops [⟨(some 2), .mov (.c (.int .i64 0)), none, false, []⟩] none [0])
  (.seq (.seq (.ops [⟨(some 3), .mov (.t 0), none, false, []⟩,
    ⟨(some 4), .bin .ptr .eql (.t 3) (.c .nilp), none, false, []⟩] none [0, 4])
  (.cond (.t 4)
    (.seq (.ops [⟨(some 2), .mov (.c (.int .i64 0)), none, false, []⟩] none [2])
    .ret)
    .skip))
  (.seq (.ops [⟨(some 5), .mov (.t 0), none, false, []⟩,
    ⟨(some 6), .nilchk (.t 5), none, false, []⟩,
    ⟨(some 7), .faddr 3 (.t 6), none, false, []⟩,
    ⟨(some 8), .faddr 0 (.t 7), none, false, []⟩,
    ⟨(some 9), .load 1 false (.t 8), none, false, []⟩,
    ⟨(some 2), .mov (.t 9), none, false, []⟩] none [2])
  .ret)))
def __rope_Rope__Len_r : List RRes := [.tmp 2]
def __rope_Rope__Len_hi : Hi := ⟨[], [(0, "r"), (1, "r")]⟩
def __rope_Rope__Len_an : An := .d
def __rope_Rope__Len_fi : Fi := ⟨10, __rope_Rope__Len_c, __rope_Rope__Len_r, __rope_Rope__Len_an, __rope_Rope__Len_hi, none⟩
theorem __rope_Rope__Len_ok : FiOk Try.prog f___rope_Rope__Len __rope_Rope__Len_fi :=
  ⟨fun _ => by kernel_rfl, fun _ h hlen => fun_sound (by kernel_rfl) (fn := Try.f12) (draw_sound _ _) Try.func12 rfl (by kernel_rfl : comp Try.prog 10 _ __rope_Rope__Len_c = some __rope_Rope__Len_c) (by kernel_rfl : cRes Try.prog Try.f12.results.toList = some __rope_Rope__Len_r) hlen h, fun _ h => nomatch h⟩

/-- (*fustian/rope.maker).there: slots [0 m, 1 i, 2 m, 3 i] -/
def __rope_maker__there_c : SCode :=
  (.seq (.ops [⟨(some 4), .mov (.c (.bool false)), none, false, []⟩] none [0, 1])
  (.seq (.ops [⟨(some 5), .mov (.t 1), none, false, []⟩,
    ⟨(some 6), .bin .none .geq (.t 5) (.c (.int .i64 0)), none, false, []⟩,
    ⟨(some 7), .mov (.t 6), none, true, []⟩,
    ⟨(some 8), .mov (.t 1), (some (7, true)), false, []⟩,
    ⟨(some 9), .mov (.t 0), (some (7, true)), false, []⟩,
    ⟨(some 10), .nilchk (.t 9), (some (7, true)), false, []⟩,
    ⟨(some 11), .faddr 0 (.t 10), (some (7, true)), false, []⟩,
    ⟨(some 12), .load 1 false (.t 11), (some (7, true)), false, []⟩,
    ⟨(some 13), .len false (.t 12), (some (7, true)), false, []⟩,
    ⟨(some 14), .bin .none .lss (.t 8) (.t 13), (some (7, true)), false, []⟩,
    ⟨(some 15), .pick (.t 7) (.t 14) (.c (.bool false)), none, false, []⟩,
    ⟨(some 4), .mov (.t 15), none, false, []⟩] none [4])
  .ret))
def __rope_maker__there_r : List RRes := [.tmp 4]
def __rope_maker__there_hi : Hi := ⟨[], [(0, "m"), (1, "i"), (2, "m"), (3, "i")]⟩
def __rope_maker__there_an : An := .d
def __rope_maker__there_fi : Fi := ⟨16, __rope_maker__there_c, __rope_maker__there_r, __rope_maker__there_an, __rope_maker__there_hi, none⟩
theorem __rope_maker__there_ok : FiOk Try.prog f___rope_maker__there __rope_maker__there_fi :=
  ⟨fun _ => by kernel_rfl, fun _ h hlen => fun_sound (by kernel_rfl) (fn := Try.f19) (draw_sound _ _) Try.func19 rfl (by kernel_rfl : comp Try.prog 16 _ __rope_maker__there_c = some __rope_maker__there_c) (by kernel_rfl : cRes Try.prog Try.f19.results.toList = some __rope_maker__there_r) hlen h, fun _ h => nomatch h⟩

/-- (*fustian/rope.maker).fault: slots [0 m, 1 o, 2 m, 3 o, 5 cuts] -/
def __rope_maker__fault_c : SCode :=
  (.seq (.ops [⟨(some 3), .box 0 (.t 1), none, false, []⟩,
    ⟨(some 4), .mov (.c (.int .i64 0)), none, false, []⟩] none [0, 3])
  (.seq (.block 0 (.seq (.ops [⟨(some 7), .faddr 0 (.t 3), none, false, []⟩,
    ⟨(some 8), .load 1 false (.t 7), none, false, []⟩,
    ⟨(some 9), .bin .none .lss (.t 8) (.c (.int .i64 1)), none, false, []⟩,
    ⟨(some 10), .mov (.t 9), none, true, []⟩,
    ⟨(some 11), .faddr 0 (.t 3), (some (10, false)), false, []⟩,
    ⟨(some 12), .load 1 false (.t 11), (some (10, false)), false, []⟩,
    ⟨(some 13), .bin .none .gtr (.t 12) (.c (.int .i64 5)), (some (10, false)), false, []⟩,
    ⟨(some 14), .pick (.t 10) (.c (.bool true)) (.t 13), none, false, []⟩,
    ⟨(some 6), .mov (.t 14), none, false, []⟩] none [0, 3, 6])
  (.cond (.t 6)
    (.seq (.ops [⟨(some 4), .mov (.c (.int .i64 3)), none, false, []⟩] none [4])
    .ret)
    (.seq (.ops [⟨(some 16), .faddr 0 (.t 3), none, false, []⟩,
      ⟨(some 17), .load 1 false (.t 16), none, false, []⟩,
      ⟨(some 18), .bin .none .neq (.t 17) (.c (.int .i64 1)), none, false, []⟩,
      ⟨(some 19), .mov (.t 18), none, true, []⟩,
      ⟨(some 20), .mov (.t 0), (some (19, true)), false, []⟩,
      ⟨(some 21), .faddr 2 (.t 3), (some (19, true)), false, []⟩,
      ⟨(some 22), .load 1 false (.t 21), (some (19, true)), false, []⟩,
      ⟨(some 23), .call f___rope_maker__there [(.t 20), (.t 22)], (some (19, true)), false, []⟩,
      ⟨(some 24), .not (.t 23), (some (19, true)), false, []⟩,
      ⟨(some 25), .pick (.t 19) (.t 24) (.c (.bool false)), none, false, []⟩,
      ⟨(some 26), .mov (.t 25), none, true, []⟩,
      ⟨(some 27), .faddr 0 (.t 3), (some (26, false)), false, []⟩,
      ⟨(some 28), .load 1 false (.t 27), (some (26, false)), false, []⟩,
      ⟨(some 29), .bin .none .eql (.t 28) (.c (.int .i64 2)), (some (26, false)), false, []⟩,
      ⟨(some 30), .mov (.t 29), (some (26, false)), true, []⟩,
      ⟨(some 31), .mov (.t 0), (some (30, true)), false, []⟩,
      ⟨(some 32), .faddr 3 (.t 3), (some (30, true)), false, []⟩,
      ⟨(some 33), .load 1 false (.t 32), (some (30, true)), false, []⟩,
      ⟨(some 34), .call f___rope_maker__there [(.t 31), (.t 33)], (some (30, true)), false, []⟩,
      ⟨(some 35), .not (.t 34), (some (30, true)), false, []⟩,
      ⟨(some 36), .pick (.t 30) (.t 35) (.c (.bool false)), (some (26, false)), false, []⟩,
      ⟨(some 37), .pick (.t 26) (.c (.bool true)) (.t 36), none, false, []⟩,
      ⟨(some 15), .mov (.t 37), none, false, []⟩] none [0, 3, 15])
    (.cond (.t 15)
      (.seq (.ops [⟨(some 4), .mov (.c (.int .i64 7)), none, false, []⟩] none [4])
      .ret)
      .skip)))))
  (.seq (.ops [⟨(some 38), .faddr 0 (.t 3), none, false, []⟩,
    ⟨(some 39), .load 1 false (.t 38), none, false, []⟩,
    ⟨(some 40), .bin .none .eql (.t 39) (.c (.int .i64 3)), none, false, []⟩,
    ⟨(some 41), .mov (.t 40), none, true, []⟩,
    ⟨(some 42), .faddr 0 (.t 3), (some (41, false)), false, []⟩,
    ⟨(some 43), .load 1 false (.t 42), (some (41, false)), false, []⟩,
    ⟨(some 44), .bin .none .eql (.t 43) (.c (.int .i64 4)), (some (41, false)), false, []⟩,
    ⟨(some 45), .pick (.t 41) (.c (.bool true)) (.t 44), none, false, []⟩,
    ⟨(some 5), .mov (.t 45), none, false, []⟩] none [0, 3, 5])
  (.seq (.block 1 (.join [0] [46] 1 (.seq (.ops [⟨(some 47), .mov (.t 5), none, false, []⟩,
      ⟨(some 48), .mov (.t 47), none, true, []⟩,
      ⟨(some 49), .faddr 4 (.t 3), (some (48, true)), false, []⟩,
      ⟨(some 50), .load 1 false (.t 49), (some (48, true)), false, []⟩,
      ⟨(some 51), .bin .none .lss (.t 50) (.c (.int .i64 0)), (some (48, true)), false, []⟩,
      ⟨(some 52), .mov (.t 51), (some (48, true)), true, []⟩,
      ⟨(some 53), .faddr 4 (.t 3), (some (52, false)), false, []⟩,
      ⟨(some 54), .load 1 false (.t 53), (some (52, false)), false, []⟩,
      ⟨(some 55), .mov (.t 0), (some (52, false)), false, []⟩,
      ⟨(some 56), .nilchk (.t 55), (some (52, false)), false, []⟩,
      ⟨(some 57), .faddr 0 (.t 56), (some (52, false)), false, []⟩,
      ⟨(some 58), .load 1 false (.t 57), (some (52, false)), false, []⟩,
      ⟨(some 59), .faddr 2 (.t 3), (some (52, false)), false, []⟩,
      ⟨(some 60), .load 1 false (.t 59), (some (52, false)), false, []⟩,
      ⟨(some 61), .iaddr 1 none (.t 58) (.t 60), (some (52, false)), false, []⟩,
      ⟨(some 62), .load 1 false (.t 61), (some (52, false)), false, []⟩,
      ⟨(some 63), .call f___rope_Rope__Len [(.t 62)], (some (52, false)), false, []⟩,
      ⟨(some 64), .bin .none .gtr (.t 54) (.t 63), (some (52, false)), false, []⟩,
      ⟨(some 65), .pick (.t 52) (.c (.bool true)) (.t 64), (some (48, true)), false, []⟩,
      ⟨(some 66), .pick (.t 48) (.t 65) (.c (.bool false)), none, false, []⟩,
      ⟨(some 46), .mov (.t 66), none, false, []⟩] (some (17, 0, [0, 1, 2, 3, 4, 5, 6, 7, 8, 9, 10, 11, 12, 13, 14, 15, 16, 17, 18, 19, 20])) [0, 3, 46])
    (.cond (.t 46)
      .skip
      (.ops [⟨(some 67), .faddr 0 (.t 3), none, false, []⟩,
        ⟨(some 68), .load 1 false (.t 67), none, false, []⟩,
        ⟨(some 69), .bin .none .eql (.t 68) (.c (.int .i64 5)), none, false, []⟩,
        ⟨(some 70), .mov (.t 69), none, true, []⟩,
        ⟨(some 71), .faddr 5 (.t 3), (some (70, true)), false, []⟩,
        ⟨(some 72), .load 1 false (.t 71), (some (70, true)), false, []⟩,
        ⟨(some 73), .bin .none .lss (.t 72) (.c (.int .i64 0)), (some (70, true)), false, []⟩,
        ⟨(some 74), .mov (.t 73), (some (70, true)), true, []⟩,
        ⟨(some 75), .faddr 5 (.t 3), (some (74, false)), false, []⟩,
        ⟨(some 76), .load 1 false (.t 75), (some (74, false)), false, []⟩,
        ⟨(some 77), .bin .none .gtr (.t 76) (.c (.int .i64 4)), (some (74, false)), false, []⟩,
        ⟨(some 78), .pick (.t 74) (.c (.bool true)) (.t 77), (some (70, true)), false, []⟩,
        ⟨(some 79), .pick (.t 70) (.t 78) (.c (.bool false)), none, false, []⟩,
        ⟨(some 46), .mov (.t 79), none, false, []⟩] none [0, 46])))
  (.cond (.t 46)
    (.seq (.ops [⟨(some 4), .mov (.c (.int .i64 2)), none, false, []⟩] none [4])
    .ret)
    (.seq (.ops [⟨(some 81), .mov (.t 0), none, false, []⟩,
      ⟨(some 82), .nilchk (.t 81), none, false, []⟩,
      ⟨(some 83), .faddr 0 (.t 82), none, false, []⟩,
      ⟨(some 84), .load 1 false (.t 83), none, false, []⟩,
      ⟨(some 85), .len false (.t 84), none, false, []⟩,
      ⟨(some 86), .bin .none .eql (.t 85) (.c (.int .i64 60)), none, false, []⟩,
      ⟨(some 80), .mov (.t 86), none, false, []⟩] none [80])
    (.cond (.t 80)
      (.seq (.ops [⟨(some 4), .mov (.c (.int .i64 8)), none, false, []⟩] none [4])
      .ret)
      .skip)))))
  (.seq (.ops [⟨(some 4), .mov (.c (.int .i64 0)), none, false, []⟩] none [4])
  .ret)))))
def __rope_maker__fault_r : List RRes := [.tmp 4]
def __rope_maker__fault_hi : Hi := ⟨[(3, (.st (.cons (.int .i64) (.cons .str (.cons (.int .i64) (.cons (.int .i64) (.cons (.int .i64) (.cons (.int .i64) .nil))))))))], [(0, "m"), (1, "o"), (2, "m"), (3, "o"), (5, "cuts")]⟩
def __rope_maker__fault_an : An := .d
def __rope_maker__fault_fi : Fi := ⟨87, __rope_maker__fault_c, __rope_maker__fault_r, __rope_maker__fault_an, __rope_maker__fault_hi, none⟩
theorem __rope_maker__fault_ok : FiOk Try.prog f___rope_maker__fault __rope_maker__fault_fi :=
  ⟨fun _ => by kernel_rfl, fun _ h hlen => fun_sound (by kernel_rfl) (fn := Try.f14) (draw_sound _ _) Try.func14 rfl (by kernel_rfl : comp Try.prog 87 _ __rope_maker__fault_c = some __rope_maker__fault_c) (by kernel_rfl : cRes Try.prog Try.f14.results.toList = some __rope_maker__fault_r) hlen h, fun _ h => nomatch h⟩

/-- (*fustian/rope.maker).make: slots [0 m, 1 o, 2 m, 3 o, 5 a, 6 out, 7 x, 8 y] -/
def __rope_maker__make_c : SCode :=
  (.seq (.ops [⟨(some 3), .box 0 (.t 1), none, false, []⟩,
    ⟨(some 4), .mov (.c .nilp), none, false, []⟩] none [0, 3])
  (.seq (.seq (.ops [⟨(some 9), .faddr 0 (.t 3), none, false, []⟩,
    ⟨(some 10), .load 1 false (.t 9), none, false, []⟩,
    ⟨(some 11), .bin .none .eql (.t 10) (.c (.int .i64 1)), none, false, []⟩] none [0, 3, 11])
  (.cond (.t 11)
    (.seq (.ops [⟨(some 12), .faddr 1 (.t 3), none, false, []⟩,
      ⟨(some 13), .load 1 false (.t 12), none, false, []⟩,
      ⟨(some 14), .call f_rope_New [(.t 13)], none, false, []⟩,
      ⟨(some 4), .mov (.t 14), none, false, []⟩] none [4])
    .ret)
    .skip))
  (.seq (.ops [⟨(some 15), .mov (.t 0), none, false, []⟩,
    ⟨(some 16), .nilchk (.t 15), none, false, []⟩,
    ⟨(some 17), .faddr 0 (.t 16), none, false, []⟩,
    ⟨(some 18), .load 1 false (.t 17), none, false, []⟩,
    ⟨(some 19), .faddr 2 (.t 3), none, false, []⟩,
    ⟨(some 20), .load 1 false (.t 19), none, false, []⟩,
    ⟨(some 21), .iaddr 1 none (.t 18) (.t 20), none, false, []⟩,
    ⟨(some 22), .load 1 false (.t 21), none, false, []⟩,
    ⟨(some 5), .mov (.t 22), none, false, []⟩] (some (0, 0, [0, 1, 2, 3, 4, 5, 6, 7, 8])) [0, 3, 5])
  (.seq (.seq (.ops [⟨(some 23), .faddr 0 (.t 3), none, false, []⟩,
    ⟨(some 24), .load 1 false (.t 23), none, false, []⟩] none [0, 3, 5, 24])
  (.block 0 (.seq (.ops [⟨(some 26), .bin .none .eql (.t 24) (.c (.int .i64 2)), none, false, []⟩,
    ⟨(some 25), .mov (.t 26), none, false, []⟩] none [0, 3, 5, 24, 25])
  (.cond (.t 25)
    (.seq (.ops [⟨(some 27), .mov (.t 5), none, false, []⟩,
      ⟨(some 28), .mov (.t 0), none, false, []⟩,
      ⟨(some 29), .nilchk (.t 28), none, false, []⟩,
      ⟨(some 30), .faddr 0 (.t 29), none, false, []⟩,
      ⟨(some 31), .load 1 false (.t 30), none, false, []⟩,
      ⟨(some 32), .faddr 3 (.t 3), none, false, []⟩,
      ⟨(some 33), .load 1 false (.t 32), none, false, []⟩,
      ⟨(some 34), .iaddr 1 none (.t 31) (.t 33), none, false, []⟩,
      ⟨(some 35), .load 1 false (.t 34), none, false, []⟩,
      ⟨(some 36), .call f_rope_Join [(.t 27), (.t 35)], none, false, []⟩,
      ⟨(some 4), .mov (.t 36), none, false, []⟩] (some (0, 0, [0, 1, 2, 3, 4, 5, 6, 7, 8, 9, 10])) [4])
    .ret)
    (.seq (.ops [⟨(some 38), .bin .none .eql (.t 24) (.c (.int .i64 5)), none, false, []⟩,
      ⟨(some 37), .mov (.t 38), none, false, []⟩] none [3, 5, 37])
    (.cond (.t 37)
      (.seq (.ops [⟨(some 6), .mov (.c .nilp), none, false, []⟩] none [3, 5, 6])
      (.seq (.seq (.ops [⟨(some 39), .faddr 5 (.t 3), none, false, []⟩,
        ⟨(some 40), .load 1 false (.t 39), none, false, []⟩,
        ⟨(some 41), .mov (.c (.int .i64 0)), none, false, []⟩] none [5, 6, 40, 41])
      (.block 1 (.loop [5, 40] [6, 41] 1
        (.seq (.ops [⟨(some 42), .bin .none .lss (.t 41) (.t 40), none, false, []⟩] none [5, 6, 40, 41, 42])
        (.seq (.cond (.t 42)
          .skip
          (.exit 1))
        (.seq (.block 2 (.ops [⟨(some 43), .mov (.t 6), none, false, []⟩,
          ⟨(some 44), .mov (.t 5), none, false, []⟩,
          ⟨(some 45), .call f_rope_Join [(.t 43), (.t 44)], none, false, []⟩,
          ⟨(some 6), .mov (.t 45), none, false, []⟩] none [5, 6, 40, 41]))
        (.ops [⟨(some 46), .bin .none .add (.t 41) (.c (.int .i64 1)), none, false, []⟩,
          ⟨(some 41), .mov (.t 46), none, false, []⟩] none [5, 6, 40, 41])))))))
      (.seq (.ops [⟨(some 47), .mov (.t 6), none, false, []⟩,
        ⟨(some 4), .mov (.t 47), none, false, []⟩] none [4])
      .ret)))
      .skip))))))
  (.seq (.ops [⟨(some 49), .mov (.t 5), none, false, []⟩,
    ⟨(some 50), .faddr 4 (.t 3), none, false, []⟩,
    ⟨(some 51), .load 1 false (.t 50), none, false, []⟩,
    ⟨(some 52), .call f_rope_Split [(.t 49), (.t 51)], none, false, []⟩,
    ⟨(some 48), .mov (.t 52), none, false, []⟩,
    ⟨(some 53), .extract (.t 48) 0, none, false, []⟩,
    ⟨(some 54), .extract (.t 48) 1, none, false, []⟩,
    ⟨(some 7), .mov (.t 53), none, false, []⟩,
    ⟨(some 8), .mov (.t 54), none, false, []⟩] none [3, 7, 8])
  (.seq (.seq (.ops [⟨(some 55), .faddr 0 (.t 3), none, false, []⟩,
    ⟨(some 56), .load 1 false (.t 55), none, false, []⟩,
    ⟨(some 57), .bin .none .eql (.t 56) (.c (.int .i64 3)), none, false, []⟩] none [7, 8, 57])
  (.cond (.t 57)
    (.seq (.ops [⟨(some 58), .mov (.t 7), none, false, []⟩,
      ⟨(some 4), .mov (.t 58), none, false, []⟩] none [4])
    .ret)
    .skip))
  (.seq (.ops [⟨(some 59), .mov (.t 8), none, false, []⟩,
    ⟨(some 4), .mov (.t 59), none, false, []⟩] none [4])
  .ret)))))))
def __rope_maker__make_r : List RRes := [.tmp 4]
def __rope_maker__make_hi : Hi := ⟨[(3, (.st (.cons (.int .i64) (.cons .str (.cons (.int .i64) (.cons (.int .i64) (.cons (.int .i64) (.cons (.int .i64) .nil))))))))], [(0, "m"), (1, "o"), (2, "m"), (3, "o"), (5, "a"), (6, "out"), (7, "x"), (8, "y")]⟩
def __rope_maker__make_an : An := (.seq .d (.seq .d (.seq .d (.seq (.seq .d (.seq .d (.seq .d (.seq .d (.seq (.seq .d (.seq (.seq .d (.loop [6, 5] [] [6] .d)) .d)) .d))))) .d))))
def __rope_maker__make_fi : Fi := ⟨60, __rope_maker__make_c, __rope_maker__make_r, __rope_maker__make_an, __rope_maker__make_hi, none⟩
theorem __rope_maker__make_ok : FiOk Try.prog f___rope_maker__make __rope_maker__make_fi :=
  ⟨fun _ => by kernel_rfl, fun _ h hlen => fun_sound (by kernel_rfl) (fn := Try.f16) (draw_sound _ _) Try.func16 rfl (by kernel_rfl : comp Try.prog 60 _ __rope_maker__make_c = some __rope_maker__make_c) (by kernel_rfl : cRes Try.prog Try.f16.results.toList = some __rope_maker__make_r) hlen h, fun _ h => nomatch h⟩

/-- (*fustian/rope.maker).length: slots [0 m, 1 o, 2 m, 3 o] -/
def __rope_maker__length_c : SCode :=
  (.seq (.ops [⟨(some 3), .box 0 (.t 1), none, false, []⟩,
    ⟨(some 4), .mov (.c (.int .i64 0)), none, false, []⟩] none [0, 3])
  (.seq (.seq (.ops [⟨(some 5), .faddr 0 (.t 3), none, false, []⟩,
    ⟨(some 6), .load 1 false (.t 5), none, false, []⟩] none [0, 3, 6])
  (.block 0 (.seq (.ops [⟨(some 8), .bin .none .eql (.t 6) (.c (.int .i64 1)), none, false, []⟩,
    ⟨(some 7), .mov (.t 8), none, false, []⟩] none [0, 3, 6, 7])
  (.cond (.t 7)
    (.seq (.ops [⟨(some 9), .faddr 1 (.t 3), none, false, []⟩,
      ⟨(some 10), .load 1 false (.t 9), none, false, []⟩,
      ⟨(some 11), .len true (.t 10), none, false, []⟩,
      ⟨(some 4), .mov (.t 11), none, false, []⟩] none [4])
    .ret)
    (.seq (.ops [⟨(some 13), .bin .none .eql (.t 6) (.c (.int .i64 2)), none, false, []⟩,
      ⟨(some 12), .mov (.t 13), none, false, []⟩] none [0, 3, 6, 12])
    (.cond (.t 12)
      (.seq (.ops [⟨(some 14), .mov (.t 0), none, false, []⟩,
        ⟨(some 15), .nilchk (.t 14), none, false, []⟩,
        ⟨(some 16), .faddr 0 (.t 15), none, false, []⟩,
        ⟨(some 17), .load 1 false (.t 16), none, false, []⟩,
        ⟨(some 18), .faddr 2 (.t 3), none, false, []⟩,
        ⟨(some 19), .load 1 false (.t 18), none, false, []⟩,
        ⟨(some 20), .iaddr 1 none (.t 17) (.t 19), none, false, []⟩,
        ⟨(some 21), .load 1 false (.t 20), none, false, []⟩,
        ⟨(some 23), .mov (.t 0), none, false, []⟩,
        ⟨(some 24), .nilchk (.t 23), none, false, []⟩,
        ⟨(some 25), .faddr 0 (.t 24), none, false, []⟩,
        ⟨(some 26), .load 1 false (.t 25), none, false, []⟩,
        ⟨(some 27), .faddr 3 (.t 3), none, false, []⟩,
        ⟨(some 28), .load 1 false (.t 27), none, false, []⟩,
        ⟨(some 29), .iaddr 1 none (.t 26) (.t 28), none, false, []⟩,
        ⟨(some 30), .load 1 false (.t 29), none, false, []⟩,
        ⟨(some 22), .call f___rope_Rope__Len [(.t 21)], none, false, []⟩,
        ⟨(some 31), .call f___rope_Rope__Len [(.t 30)], none, false, []⟩,
        ⟨(some 32), .bin .none .add (.t 22) (.t 31), none, false, []⟩,
        ⟨(some 4), .mov (.t 32), none, false, []⟩] (some (17, 0, [0, 1, 2, 3, 4, 5, 6, 7, 9, 10, 11, 12, 13, 14, 15, 16, 8, 17, 18, 19])) [4])
      .ret)
      (.seq (.ops [⟨(some 34), .bin .none .eql (.t 6) (.c (.int .i64 5)), none, false, []⟩,
        ⟨(some 33), .mov (.t 34), none, false, []⟩] none [0, 3, 33])
      (.cond (.t 33)
        (.seq (.ops [⟨(some 35), .mov (.t 0), none, false, []⟩,
          ⟨(some 36), .nilchk (.t 35), none, false, []⟩,
          ⟨(some 37), .faddr 0 (.t 36), none, false, []⟩,
          ⟨(some 38), .load 1 false (.t 37), none, false, []⟩,
          ⟨(some 39), .faddr 2 (.t 3), none, false, []⟩,
          ⟨(some 40), .load 1 false (.t 39), none, false, []⟩,
          ⟨(some 41), .iaddr 1 none (.t 38) (.t 40), none, false, []⟩,
          ⟨(some 42), .load 1 false (.t 41), none, false, []⟩,
          ⟨(some 44), .faddr 5 (.t 3), none, false, []⟩,
          ⟨(some 45), .load 1 false (.t 44), none, false, []⟩,
          ⟨(some 43), .call f___rope_Rope__Len [(.t 42)], none, false, []⟩,
          ⟨(some 46), .bin .none .mul (.t 43) (.t 45), none, false, []⟩,
          ⟨(some 4), .mov (.t 46), none, false, []⟩] (some (11, 0, [0, 1, 2, 3, 4, 5, 6, 7, 9, 10, 8, 11, 12])) [4])
        .ret)
        .skip))))))))
  (.seq (.ops [⟨(some 4), .mov (.c (.int .i64 0)), none, false, []⟩] none [4])
  .ret)))
def __rope_maker__length_r : List RRes := [.tmp 4]
def __rope_maker__length_hi : Hi := ⟨[(3, (.st (.cons (.int .i64) (.cons .str (.cons (.int .i64) (.cons (.int .i64) (.cons (.int .i64) (.cons (.int .i64) .nil))))))))], [(0, "m"), (1, "o"), (2, "m"), (3, "o")]⟩
def __rope_maker__length_an : An := .d
def __rope_maker__length_fi : Fi := ⟨47, __rope_maker__length_c, __rope_maker__length_r, __rope_maker__length_an, __rope_maker__length_hi, none⟩
theorem __rope_maker__length_ok : FiOk Try.prog f___rope_maker__length __rope_maker__length_fi :=
  ⟨fun _ => by kernel_rfl, fun _ h hlen => fun_sound (by kernel_rfl) (fn := Try.f15) (draw_sound _ _) Try.func15 rfl (by kernel_rfl : comp Try.prog 47 _ __rope_maker__length_c = some __rope_maker__length_c) (by kernel_rfl : cRes Try.prog Try.f15.results.toList = some __rope_maker__length_r) hlen h, fun _ h => nomatch h⟩

/-- (*fustian/rope.maker).do: slots [0 m, 1 o, 2 m, 3 o, 5 e] -/
def __rope_maker__do_c : SCode :=
  (.seq (.ops [⟨(some 3), .box 0 (.t 1), none, false, []⟩,
    ⟨(some 4), .mov (.c (.int .i64 0)), none, false, []⟩] none [0, 3])
  (.seq (.seq (.ops [⟨(some 6), .mov (.t 0), none, false, []⟩,
    ⟨(some 7), .load 6 true (.t 3), none, false, []⟩,
    ⟨(some 8), .call f___rope_maker__fault [(.t 6), (.t 7)], none, false, []⟩,
    ⟨(some 5), .mov (.t 8), none, false, []⟩] none [0, 3, 5])
  (.seq (.ops [⟨(some 9), .mov (.t 5), none, false, []⟩,
    ⟨(some 10), .bin .none .neq (.t 9) (.c (.int .i64 0)), none, false, []⟩] none [0, 3, 5, 10])
  (.cond (.t 10)
    (.seq (.ops [⟨(some 11), .mov (.t 5), none, false, []⟩,
      ⟨(some 4), .mov (.t 11), none, false, []⟩] none [4])
    .ret)
    .skip)))
  (.seq (.seq (.ops [⟨(some 12), .mov (.t 0), none, false, []⟩,
    ⟨(some 13), .load 6 true (.t 3), none, false, []⟩,
    ⟨(some 14), .call f___rope_maker__length [(.t 12), (.t 13)], none, false, []⟩,
    ⟨(some 15), .bin .none .gtr (.t 14) (.c (.int .i64 600)), none, false, []⟩] none [0, 3, 15])
  (.cond (.t 15)
    (.seq (.ops [⟨(some 4), .mov (.c (.int .i64 1)), none, false, []⟩] none [4])
    .ret)
    .skip))
  (.seq (.ops [⟨(some 16), .mov (.t 0), none, false, []⟩,
    ⟨(some 17), .mov (.t 0), none, false, []⟩,
    ⟨(some 18), .nilchk (.t 17), none, false, []⟩,
    ⟨(some 19), .faddr 0 (.t 18), none, false, []⟩,
    ⟨(some 20), .load 1 false (.t 19), none, false, []⟩,
    ⟨(some 21), .mov (.t 0), none, false, []⟩,
    ⟨(some 22), .load 6 true (.t 3), none, false, []⟩,
    ⟨(some 23), .call f___rope_maker__make [(.t 21), (.t 22)], none, false, []⟩,
    ⟨(some 24), .bslice true 1 1 [.nilp] [(0, 1, (.t 23))], none, false, []⟩,
    ⟨(some 25), .append 1 8 (.t 20) (.t 24), none, false, []⟩,
    ⟨(some 26), .nilchk (.t 16), none, false, []⟩,
    ⟨(some 27), .faddr 0 (.t 26), none, false, []⟩,
    ⟨none, .store 1 (.t 27) (.t 25), none, false, []⟩] (some (8, 0, [0, 1, 2, 3, 4, 5, 6, 7, 8, 9, 10, 11, 12])) [])
  (.seq (.ops [⟨(some 4), .mov (.c (.int .i64 0)), none, false, []⟩] none [4])
  .ret)))))
def __rope_maker__do_r : List RRes := [.tmp 4]
def __rope_maker__do_hi : Hi := ⟨[(3, (.st (.cons (.int .i64) (.cons .str (.cons (.int .i64) (.cons (.int .i64) (.cons (.int .i64) (.cons (.int .i64) .nil))))))))], [(0, "m"), (1, "o"), (2, "m"), (3, "o"), (5, "e")]⟩
def __rope_maker__do_an : An := .d
def __rope_maker__do_fi : Fi := ⟨28, __rope_maker__do_c, __rope_maker__do_r, __rope_maker__do_an, __rope_maker__do_hi, none⟩
theorem __rope_maker__do_ok : FiOk Try.prog f___rope_maker__do __rope_maker__do_fi :=
  ⟨fun _ => by kernel_rfl, fun _ h hlen => fun_sound (by kernel_rfl) (fn := Try.f11) (draw_sound _ _) Try.func11 rfl (by kernel_rfl : comp Try.prog 28 _ __rope_maker__do_c = some __rope_maker__do_c) (by kernel_rfl : cRes Try.prog Try.f11.results.toList = some __rope_maker__do_r) hlen h, fun _ h => nomatch h⟩

/-- fustian/rope.play: slots [0 l, 1 l, 5 m, 6 codes, 7 _, 8 o] -/
def rope_play_c : SCode :=
  (.seq (.ops [⟨(some 2), .mov (.c .nils), none, false, []⟩,
    ⟨(some 3), .mov (.c .nils), none, false, []⟩,
    ⟨(some 4), .mov (.c (.int .i64 0)), none, false, []⟩] none [0])
  (.seq (.seq (.ops [⟨(some 9), .mov (.t 0), none, false, []⟩,
    ⟨(some 10), .len false (.t 9), none, false, []⟩,
    ⟨(some 11), .bin .none .gtr (.t 10) (.c (.int .i64 80)), none, false, []⟩] none [0, 11])
  (.cond (.t 11)
    (.seq (.ops [⟨(some 2), .mov (.c .nils), none, false, []⟩,
      ⟨(some 3), .mov (.c .nils), none, false, []⟩,
      ⟨(some 4), .mov (.c (.int .i64 1)), none, false, []⟩] none [2, 3, 4])
    .ret)
    .skip))
  (.seq (.ops [⟨(some 12), .build [.nils] [], none, false, []⟩,
    ⟨(some 13), .box 0 (.t 12), none, false, []⟩,
    ⟨(some 5), .mov (.t 13), none, false, []⟩] none [0, 5])
  (.seq (.ops [⟨(some 6), .newnil 1, none, false, []⟩] none [0, 5, 6])
  (.seq (.seq (.ops [⟨(some 14), .mov (.t 0), none, false, []⟩,
    ⟨(some 15), .len false (.t 14), none, false, []⟩,
    ⟨(some 16), .mov (.c (.int .i64 0)), none, false, []⟩] none [5, 6, 14, 15, 16])
  (.block 0 (.loop [5, 14, 15] [6, 16] 2
    (.seq (.ops [⟨(some 17), .bin .none .lss (.t 16) (.t 15), none, false, []⟩] none [5, 6, 14, 15, 16, 17])
    (.seq (.cond (.t 17)
      .skip
      (.exit 0))
    (.seq (.block 1 (.seq (.ops [⟨(some 18), .iaddr 6 none (.t 14) (.t 16), none, false, []⟩,
      ⟨(some 19), .load 6 true (.t 18), none, false, []⟩,
      ⟨(some 8), .alloc 0 [(.int .i64 0), (.str []), (.int .i64 0), (.int .i64 0), (.int .i64 0), (.int .i64 0)], none, false, []⟩,
      ⟨none, .store 6 (.t 8) (.t 19), none, false, []⟩] none [5, 6, 8, 14, 15, 16])
    (.ops [⟨(some 20), .mov (.t 6), none, false, []⟩,
      ⟨(some 21), .mov (.t 5), none, false, []⟩,
      ⟨(some 22), .load 6 true (.t 8), none, false, []⟩,
      ⟨(some 23), .call f___rope_maker__do [(.t 21), (.t 22)], none, false, []⟩,
      ⟨(some 24), .bslice true 1 1 [(.int .i64 0)] [(0, 1, (.t 23))], none, false, []⟩,
      ⟨(some 25), .append 1 8 (.t 20) (.t 24), none, false, []⟩,
      ⟨(some 6), .mov (.t 25), none, false, []⟩] none [5, 6, 14, 15, 16])))
    (.ops [⟨(some 26), .bin .none .add (.t 16) (.c (.int .i64 1)), none, false, []⟩,
      ⟨(some 16), .mov (.t 26), none, false, []⟩] none [5, 6, 14, 15, 16])))))))
  (.seq (.ops [⟨(some 27), .mov (.t 5), none, false, []⟩,
    ⟨(some 28), .nilchk (.t 27), none, false, []⟩,
    ⟨(some 29), .faddr 0 (.t 28), none, false, []⟩,
    ⟨(some 30), .load 1 false (.t 29), none, false, []⟩,
    ⟨(some 31), .mov (.t 6), none, false, []⟩,
    ⟨(some 2), .mov (.t 30), none, false, []⟩,
    ⟨(some 3), .mov (.t 31), none, false, []⟩,
    ⟨(some 4), .mov (.c (.int .i64 0)), none, false, []⟩] none [2, 3, 4])
  .ret))))))
def rope_play_r : List RRes := [.tmp 2, .tmp 3, .tmp 4]
def rope_play_hi : Hi := ⟨[(6, (.int .i64)), (24, (.int .i64)), (25, (.int .i64)), (8, (.st (.cons (.int .i64) (.cons .str (.cons (.int .i64) (.cons (.int .i64) (.cons (.int .i64) (.cons (.int .i64) .nil))))))))], [(0, "l"), (1, "l"), (5, "m"), (6, "codes"), (8, "o")]⟩
def rope_play_an : An := (.seq .d (.seq .d (.seq .d (.seq .d (.seq (.seq .d (.loop [5, 6] [] [] .d)) .d)))))
def rope_play_fi : Fi := ⟨32, rope_play_c, rope_play_r, rope_play_an, rope_play_hi, none⟩
theorem rope_play_ok : FiOk Try.prog f_rope_play rope_play_fi :=
  ⟨fun _ => by kernel_rfl, fun _ h hlen => fun_sound (by kernel_rfl) (fn := Try.f8) (draw_sound _ _) Try.func8 rfl (by kernel_rfl : comp Try.prog 32 _ rope_play_c = some rope_play_c) (by kernel_rfl : cRes Try.prog Try.f8.results.toList = some rope_play_r) hlen h, fun _ h => nomatch h⟩

end Go.Proofs.Ytgiglabejffciaa.H
